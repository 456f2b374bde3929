import Derived.Test.YtdipdkfbaehglaaGreatDoorWSoundQ
namespace Go.Proofs.YtdipdkfbaehglaaGreatDoor.Y
open Go Go.RowKit Go.Eng Go.Proofs
set_option maxRecDepth 10000
set_option maxHeartbeats 4000000 in
theorem spec_Folded_fn (w : World) (n : Int) (hok : okToWorld w) : Eng.Fn E.P 11 [.agg ((World.c w).map .r), .one (.r (.v (.int .i64 n)))] (.one (.one (.w (.v (.bool (fdB w n)))))) [.agg ((World.c w).map .r), .one (.r (.v (.int .i64 n)))] := by
 refine Eng.Fn.intro (E := E) (rvs := [.tmp 4]) Tryz.func11 rfl rfl rfl (by simp [outSlots, moved, rvSlot, sl]) ?_
 intro B g bo
 refine CW.g XK 55 [.e [0,1]] rfl rfl rfl ?_
 have hS : okSl okToServer w.servers := hok.2.1
 have hA : okSl okToApplied w.applied := hok.2.2.2.2.2.1
 have hEl : (ents w.applied).length ≤ 1048576 := Nat.le_trans (ents_len w.applied) hA.1
 have hLS : w.servers.length ≤ maxLen := by have := hS.1; simp only [maxLen]; omega
 refine CW.h XK 55 [.o 1] rfl ?_;(conv=>whnf);intro b1;(conv=>whnf);refine ⟨rfl,?_⟩
 refine RW.freezeB (ts := (World.c w)) 2 rfl (DRd.r (DRd.r (DRd.r (DRd.r (DRd.r (DRd.r (DRd.r DRd.e))))))) ?_
 refine RW.g XK 55 [.o 1,.p,.e [1,2],.o 4] rfl rfl rfl ?_
 refine RW.call rfl (spec_l01In_fn n 1 (w.servers.length : Int)) rfl (.cons (.one (.r .r)) (.cons (.one (.r .r)) (.cons (.one (.r .r)) (.nil)))) fun g2 => ?_
 refine RW.g XK 55 [.o 1,.p,.e [1,2,15]] rfl rfl rfl ?_
 refine CW.cond rfl (fun h3 => ?_) (fun h3 => ?_)
 have hno := nT h3
 refine CW.g XK 55 [.n 1,.e [4]] rfl rfl rfl ?_
 refine CW.ret ?_
 exact Post.one (RV.b rfl (by exact (fs_no1 hno).symm)) (AOs.a rfl (AOs.r AOs.e))
 have hin := nF h3
 refine CW.g XK 55 [.p,.e [1,2],.o 4] rfl rfl rfl ?_
 refine RW.v rfl (V.indexZ (m := (n.toNat - 1)) (v := (srvAt w n)) rfl rfl rfl rfl rfl rfl (srv_ix hin hS.1) Server.len (srv_some hin)) ?_
 refine RW.h XK 55 [.o 3] rfl ?_;(conv=>whnf);intro b4;(conv=>whnf);refine ⟨rfl,?_⟩
 refine RW.freezeB (ts := [.v (.int .i64 (((srvAt w n).node).id)), .v (.int .i64 (((srvAt w n).node).term_)), .v (.int .i64 (((srvAt w n).node).vote)), .v (.int .i64 (((srvAt w n).node).role)), .v (.int .i64 (((srvAt w n).node).lead)), sl 1 cI (((srvAt w n).node).conf), .v (.int .i64 ((((srvAt w n).node).log).start)), .v (.int .i64 ((((srvAt w n).node).log).startTerm)), sl 3 Entry.c ((((srvAt w n).node).log).entries), .v (.int .i64 (((srvAt w n).node).commit)), .v (.int .i64 (((srvAt w n).node).clock)), .v (.int .i64 (((srvAt w n).node).limit)), sl 1 cI (((srvAt w n).node).votes), sl 4 Peer.c (((srvAt w n).node).peers), sl 3 File.c (((srvAt w n).disk).files), .v (.int .i64 (((srvAt w n).journal).number)), .v (.int .i64 (((srvAt w n).journal).term_)), .v (.int .i64 (((srvAt w n).journal).vote)), .v (.int .i64 ((((srvAt w n).journal).log).start)), .v (.int .i64 ((((srvAt w n).journal).log).startTerm)), sl 3 Entry.c ((((srvAt w n).journal).log).entries), sl 3 Session.c (((srvAt w n).keep).sessions), sl 3 Item.c (((srvAt w n).keep).items), .v (.int .i64 ((srvAt w n).applied)), .v (.string ((srvAt w n).stage)), .v (.int .i64 ((srvAt w n).stageAt)), .v (.int .i64 ((srvAt w n).stageTerm))]) 5 rfl (DRd.r (DRd.r (DRd.r (DRd.r (DRd.r (DRd.r (DRd.r (DRd.r (DRd.r (DRd.r (DRd.r (DRd.r (DRd.r (DRd.r (DRd.r (DRd.r (DRd.r (DRd.r (DRd.r (DRd.r (DRd.r (DRd.r (DRd.r (DRd.r (DRd.r (DRd.r (DRd.r DRd.e))))))))))))))))))))))))))) ?_
 refine RW.g XK 55 [.p,.e [2,5],.o 2] rfl rfl rfl ?_
 refine RW.call rfl (spec_Entries_fn w.applied hA.1) rfl (.cons (.one (.r .r)) (.nil)) fun g5 => ?_
 refine RW.g XK 55 [.o 5,.p,.e [5,6,7],.p] rfl rfl rfl ?_
 refine CW.seqJ 55 (fun (v6 : Bool) => [(5, .rp [.v (.int .i64 (((srvAt w n).node).id)), .v (.int .i64 (((srvAt w n).node).term_)), .v (.int .i64 (((srvAt w n).node).vote)), .v (.int .i64 (((srvAt w n).node).role)), .v (.int .i64 (((srvAt w n).node).lead)), sl 1 cI (((srvAt w n).node).conf), .v (.int .i64 ((((srvAt w n).node).log).start)), .v (.int .i64 ((((srvAt w n).node).log).startTerm)), sl 3 Entry.c ((((srvAt w n).node).log).entries), .v (.int .i64 (((srvAt w n).node).commit)), .v (.int .i64 (((srvAt w n).node).clock)), .v (.int .i64 (((srvAt w n).node).limit)), sl 1 cI (((srvAt w n).node).votes), sl 4 Peer.c (((srvAt w n).node).peers), sl 3 File.c (((srvAt w n).disk).files), .v (.int .i64 (((srvAt w n).journal).number)), .v (.int .i64 (((srvAt w n).journal).term_)), .v (.int .i64 (((srvAt w n).journal).vote)), .v (.int .i64 ((((srvAt w n).journal).log).start)), .v (.int .i64 ((((srvAt w n).journal).log).startTerm)), sl 3 Entry.c ((((srvAt w n).journal).log).entries), sl 3 Session.c (((srvAt w n).keep).sessions), sl 3 Item.c (((srvAt w n).keep).items), .v (.int .i64 ((srvAt w n).applied)), .v (.string ((srvAt w n).stage)), .v (.int .i64 ((srvAt w n).stageAt)), .v (.int .i64 ((srvAt w n).stageTerm))]), (6, .r (sl 3 Entry.c (ents w.applied))), (41, Bo v6)]) (fun v6 => v6 = (((!(pairs badApplied [] w.applied)) || decide ((srvAt w n).applied < 0)) || decide ((srvAt w n).applied > ((ents w.applied).length : Int)))) ?_ ?_
 refine CW.g XK 55 [.o 3] rfl rfl rfl ?_
 refine RW.gv rfl rfl rfl rfl (fun h7 => V.fieldR rfl rfl rfl rfl (by decide) rfl (Nat.le_of_ble_eq_true rfl)) (fun h7 => ?_) (fun h7 => ?_)
 refine RW.g XK 55 [.o 4] rfl rfl rfl ?_
 refine RW.gv rfl rfl rfl rfl (fun h8 => V.fieldR rfl rfl rfl rfl (by decide) rfl (Nat.le_of_ble_eq_true rfl)) (fun h8 => ?_) (fun h8 => ?_)
 refine RW.g XK 55 [.o 5,.p] rfl rfl rfl ?_
 exact ⟨_, by first | rfl | (simp_all; done) | (simp_all; omega) | grind, rfl, Le.of rfl⟩
 refine RW.g XK 55 [.o 5,.p] rfl rfl rfl ?_
 exact ⟨_, by first | rfl | (simp_all; done) | (simp_all; omega) | grind, rfl, Le.of rfl⟩
 refine RW.g XK 55 [.o 10,.p] rfl rfl rfl ?_
 exact ⟨_, by first | rfl | (simp_all; done) | (simp_all; omega) | grind, rfl, Le.of rfl⟩
 intro v6 hv9
 refine CW.cond rfl (fun h10 => ?_) (fun h10 => ?_)
 have hvv := hv9.symm.trans h10
 refine CW.g XK 55 [.n 1,.e [4]] rfl rfl rfl ?_
 refine CW.ret ?_
 exact Post.one (RV.b rfl (by exact (fs_no2 hin hvv).symm)) (AOs.a rfl (AOs.r AOs.e))
 have fs2 := fs_2 (hv9.symm.trans h10)
 have hap := fs2.2
 refine CW.g XK 55 [.p,.e [5,6]] rfl rfl rfl ?_
 refine CW.anyJ2 (fc := []) (L0 := [(5, .rp [.v (.int .i64 (((srvAt w n).node).id)), .v (.int .i64 (((srvAt w n).node).term_)), .v (.int .i64 (((srvAt w n).node).vote)), .v (.int .i64 (((srvAt w n).node).role)), .v (.int .i64 (((srvAt w n).node).lead)), sl 1 cI (((srvAt w n).node).conf), .v (.int .i64 ((((srvAt w n).node).log).start)), .v (.int .i64 ((((srvAt w n).node).log).startTerm)), sl 3 Entry.c ((((srvAt w n).node).log).entries), .v (.int .i64 (((srvAt w n).node).commit)), .v (.int .i64 (((srvAt w n).node).clock)), .v (.int .i64 (((srvAt w n).node).limit)), sl 1 cI (((srvAt w n).node).votes), sl 4 Peer.c (((srvAt w n).node).peers), sl 3 File.c (((srvAt w n).disk).files), .v (.int .i64 (((srvAt w n).journal).number)), .v (.int .i64 (((srvAt w n).journal).term_)), .v (.int .i64 (((srvAt w n).journal).vote)), .v (.int .i64 ((((srvAt w n).journal).log).start)), .v (.int .i64 ((((srvAt w n).journal).log).startTerm)), sl 3 Entry.c ((((srvAt w n).journal).log).entries), sl 3 Session.c (((srvAt w n).keep).sessions), sl 3 Item.c (((srvAt w n).keep).items), .v (.int .i64 ((srvAt w n).applied)), .v (.string ((srvAt w n).stage)), .v (.int .i64 ((srvAt w n).stageAt)), .v (.int .i64 ((srvAt w n).stageTerm))])]) 55 (fun (zz : Nat × (Nat → Nat → Value) × (Nat → Nat → Value)) => match zz with | (bo11_9_1, go11_0_1, go11_5_1) => [(8, .obj bo11_9_1 ((Keep.c ((foldR 1 ((ents w.applied).take ((srvAt w n).applied.toNat)) 0 keepNew).1)).map .r))]) (fun all hall f hf b0 hb K hK => ?_) ?_
 have ro11_15 : ∀ B, ∀ (bo11_9_1 : Nat), ∀ (go11_0_1 : Nat → Nat → Value), ∀ (go11_5_1 : Nat → Nat → Value), RA f E B all 0 (bt 12 4095) ⟨55, [(8, .obj bo11_9_1 ((Keep.c ((foldR 1 ((ents w.applied).take ((srvAt w n).applied.toNat)) 0 keepNew).1)).map .r))] ++ b0⟩ K := by
  intro B bo11_9_1 go11_0_1 go11_5_1
  exact RA.of2 hall hf hb (RA.finH (Tell.of rfl) (by kernel_rfl) (hK (bo11_9_1, go11_0_1, go11_5_1) _ rfl (Le.of rfl)))
 have ro11_14 : ∀ B, ∀ (bo11_9_1 : Nat), ∀ (go11_0_1 : Nat → Nat → Value), ∀ (go11_5_1 : Nat → Nat → Value), RA f E B all 2 (bt 12 1791) ⟨55, [(8, .obj bo11_9_1 ((Keep.c ((foldR 1 ((ents w.applied).take ((srvAt w n).applied.toNat)) 0 keepNew).1)).map .r)), (42, .tup [.u, .r (sl 1 cS ((foldR 1 ((ents w.applied).take ((srvAt w n).applied.toNat)) 0 keepNew).2))])] ++ b0⟩ K := by
  intro B bo11_9_1 go11_0_1 go11_5_1
  refine RA.of2 hall hf hb (RA.stepH (L := [8]) (Tell.of rfl) (by kernel_rfl) (by simp) (RA.each ?_ (RA.each0)))
  refine RO.extract (d := .r (sl 1 cS ((foldR 1 ((ents w.applied).take ((srvAt w n).applied.toNat)) 0 keepNew).2))) rfl rfl rfl rfl rfl (by decide) (Nat.le_of_ble_eq_true rfl) rfl rfl ?_
  refine RA.fr XK 55 0 [11] (bt 12 4095) rfl rfl (by kernel_rfl) (Tell.of rfl) ?_
  (conv=>whnf);refine ⟨rfl,fun B=>?_⟩
  exact RA.to2 hall hf hb (ro11_15 B bo11_9_1 go11_0_1 go11_5_1) rfl rfl (by kernel_rfl)
 have ro11_13 : ∀ B, ∀ (bo11_9_1 : Nat), ∀ (go11_0_1 : Nat → Nat → Value), ∀ (go11_5_1 : Nat → Nat → Value), RA f E B all 2 (bt 12 1023) ⟨55, [(8, .obj bo11_9_1 [.r (.v (.slice none 0 0)), .r (.v (.slice none 0 0))]), (49, .agg ((Keep.c ((foldR 1 ((ents w.applied).take ((srvAt w n).applied.toNat)) 0 keepNew).1)).map .r)), (50, .r (sl 1 cS ((foldR 1 ((ents w.applied).take ((srvAt w n).applied.toNat)) 0 keepNew).2)))] ++ b0⟩ K := by
  intro B bo11_9_1 go11_0_1 go11_5_1
  refine RA.of2 hall hf hb (RA.stepH (L := [10]) (Tell.of rfl) (by kernel_rfl) (by simp) (RA.each ?_ (RA.each0)))
  refine RO.storeAgg (es := ((Keep.c ((foldR 1 ((ents w.applied).take ((srvAt w n).applied.toNat)) 0 keepNew).1)).map .r)) rfl rfl rfl rfl rfl rfl rfl rfl rfl rfl (Nat.le_of_ble_eq_true rfl) rfl ?_
  refine RA.fr XK 55 0 [11] (bt 12 4095) rfl rfl (by kernel_rfl) (Tell.of rfl) ?_
  (conv=>whnf);refine ⟨rfl,fun B=>?_⟩
  exact RA.to2 hall hf hb (ro11_15 B bo11_9_1 go11_0_1 go11_5_1) rfl rfl (by kernel_rfl)
 have ro11_12 : ∀ B, ∀ (bo11_9_1 : Nat), ∀ (go11_0_1 : Nat → Nat → Value), ∀ (go11_5_1 : Nat → Nat → Value), RA f E B all 3 (bt 12 895) ⟨55, [(8, .obj bo11_9_1 [.r (.v (.slice none 0 0)), .r (.v (.slice none 0 0))]), (42, .tup [.agg ((Keep.c ((foldR 1 ((ents w.applied).take ((srvAt w n).applied.toNat)) 0 keepNew).1)).map .r), .u]), (50, .r (sl 1 cS ((foldR 1 ((ents w.applied).take ((srvAt w n).applied.toNat)) 0 keepNew).2)))] ++ b0⟩ K := by
  intro B bo11_9_1 go11_0_1 go11_5_1
  refine RA.of2 hall hf hb (RA.stepH (L := [7]) (Tell.of rfl) (by kernel_rfl) (by simp) (RA.each ?_ (RA.each0)))
  refine RO.extract (d := .agg ((Keep.c ((foldR 1 ((ents w.applied).take ((srvAt w n).applied.toNat)) 0 keepNew).1)).map .r)) rfl rfl rfl rfl rfl (by decide) (Nat.le_of_ble_eq_true rfl) rfl rfl ?_
  exact RA.to2 hall hf hb (ro11_13 B bo11_9_1 go11_0_1 go11_5_1) rfl rfl (by kernel_rfl)
 have ro11_11 : ∀ B, ∀ (bo11_9_1 : Nat), ∀ (go11_0_1 : Nat → Nat → Value), ∀ (go11_5_1 : Nat → Nat → Value), RA f E B all 3 (bt 12 767) ⟨55, [(8, .obj bo11_9_1 [.r (.v (.slice none 0 0)), .r (.v (.slice none 0 0))]), (42, .tup [.u, .r (sl 1 cS ((foldR 1 ((ents w.applied).take ((srvAt w n).applied.toNat)) 0 keepNew).2))]), (49, .agg ((Keep.c ((foldR 1 ((ents w.applied).take ((srvAt w n).applied.toNat)) 0 keepNew).1)).map .r))] ++ b0⟩ K := by
  intro B bo11_9_1 go11_0_1 go11_5_1
  refine RA.of2 hall hf hb (RA.stepH (L := [8, 10]) (Tell.of rfl) (by kernel_rfl) (by simp) (RA.each ?_ (RA.each ?_ (RA.each0))))
  refine RO.extract (d := .r (sl 1 cS ((foldR 1 ((ents w.applied).take ((srvAt w n).applied.toNat)) 0 keepNew).2))) rfl rfl rfl rfl rfl (by decide) (Nat.le_of_ble_eq_true rfl) rfl rfl ?_
  exact RA.to2 hall hf hb (ro11_13 B bo11_9_1 go11_0_1 go11_5_1) rfl rfl (by kernel_rfl)
  refine RO.storeAgg (es := ((Keep.c ((foldR 1 ((ents w.applied).take ((srvAt w n).applied.toNat)) 0 keepNew).1)).map .r)) rfl rfl rfl rfl rfl rfl rfl rfl rfl rfl (Nat.le_of_ble_eq_true rfl) rfl ?_
  exact RA.to2 hall hf hb (ro11_14 B bo11_9_1 go11_0_1 go11_5_1) rfl rfl (by kernel_rfl)
 have ro11_10 : ∀ B, ∀ (go11_0_1 : Nat → Nat → Value), ∀ (go11_5_1 : Nat → Nat → Value), RA f E B all 3 (bt 12 511) ⟨55, [(49, .agg ((Keep.c ((foldR 1 ((ents w.applied).take ((srvAt w n).applied.toNat)) 0 keepNew).1)).map .r)), (50, .r (sl 1 cS ((foldR 1 ((ents w.applied).take ((srvAt w n).applied.toNat)) 0 keepNew).2)))] ++ b0⟩ K := by
  intro B go11_0_1 go11_5_1
  refine RA.of2 hall hf hb (RA.stepH (L := [9]) (Tell.of rfl) (by kernel_rfl) (by simp) (RA.each ?_ (RA.each0)))
  refine RO.alloc (ds := [.r (.v (.slice none 0 0)), .r (.v (.slice none 0 0))]) rfl rfl rfl rfl rfl rfl fun bo11_9_1 => ?_
  exact RA.to2 hall hf hb (ro11_13 B bo11_9_1 go11_0_1 go11_5_1) rfl rfl (by kernel_rfl)
 have ro11_9 : ∀ B, ∀ (bo11_9_1 : Nat), ∀ (go11_0_1 : Nat → Nat → Value), ∀ (go11_5_1 : Nat → Nat → Value), RA f E B all 4 (bt 12 639) ⟨55, [(8, .obj bo11_9_1 [.r (.v (.slice none 0 0)), .r (.v (.slice none 0 0))]), (42, .tup [.agg ((Keep.c ((foldR 1 ((ents w.applied).take ((srvAt w n).applied.toNat)) 0 keepNew).1)).map .r), .r (sl 1 cS ((foldR 1 ((ents w.applied).take ((srvAt w n).applied.toNat)) 0 keepNew).2))])] ++ b0⟩ K := by
  intro B bo11_9_1 go11_0_1 go11_5_1
  refine RA.of2 hall hf hb (RA.stepH (L := [7, 8]) (Tell.of rfl) (by kernel_rfl) (by simp) (RA.each ?_ (RA.each ?_ (RA.each0))))
  refine RO.extract (d := .agg ((Keep.c ((foldR 1 ((ents w.applied).take ((srvAt w n).applied.toNat)) 0 keepNew).1)).map .r)) rfl rfl rfl rfl rfl (by decide) (Nat.le_of_ble_eq_true rfl) rfl rfl ?_
  exact RA.to2 hall hf hb (ro11_11 B bo11_9_1 go11_0_1 go11_5_1) rfl rfl (by kernel_rfl)
  refine RO.extract (d := .r (sl 1 cS ((foldR 1 ((ents w.applied).take ((srvAt w n).applied.toNat)) 0 keepNew).2))) rfl rfl rfl rfl rfl (by decide) (Nat.le_of_ble_eq_true rfl) rfl rfl ?_
  exact RA.to2 hall hf hb (ro11_12 B bo11_9_1 go11_0_1 go11_5_1) rfl rfl (by kernel_rfl)
 have ro11_8 : ∀ B, ∀ (go11_0_1 : Nat → Nat → Value), ∀ (go11_5_1 : Nat → Nat → Value), RA f E B all 4 (bt 12 383) ⟨55, [(42, .tup [.agg ((Keep.c ((foldR 1 ((ents w.applied).take ((srvAt w n).applied.toNat)) 0 keepNew).1)).map .r), .u]), (50, .r (sl 1 cS ((foldR 1 ((ents w.applied).take ((srvAt w n).applied.toNat)) 0 keepNew).2)))] ++ b0⟩ K := by
  intro B go11_0_1 go11_5_1
  refine RA.of2 hall hf hb (RA.stepH (L := [7, 9]) (Tell.of rfl) (by kernel_rfl) (by simp) (RA.each ?_ (RA.each ?_ (RA.each0))))
  refine RO.extract (d := .agg ((Keep.c ((foldR 1 ((ents w.applied).take ((srvAt w n).applied.toNat)) 0 keepNew).1)).map .r)) rfl rfl rfl rfl rfl (by decide) (Nat.le_of_ble_eq_true rfl) rfl rfl ?_
  exact RA.to2 hall hf hb (ro11_10 B go11_0_1 go11_5_1) rfl rfl (by kernel_rfl)
  refine RO.alloc (ds := [.r (.v (.slice none 0 0)), .r (.v (.slice none 0 0))]) rfl rfl rfl rfl rfl rfl fun bo11_9_1 => ?_
  exact RA.to2 hall hf hb (ro11_12 B bo11_9_1 go11_0_1 go11_5_1) rfl rfl (by kernel_rfl)
 have ro11_7 : ∀ B, ∀ (go11_0_1 : Nat → Nat → Value), ∀ (go11_5_1 : Nat → Nat → Value), RA f E B all 4 (bt 12 255) ⟨55, [(42, .tup [.u, .r (sl 1 cS ((foldR 1 ((ents w.applied).take ((srvAt w n).applied.toNat)) 0 keepNew).2))]), (49, .agg ((Keep.c ((foldR 1 ((ents w.applied).take ((srvAt w n).applied.toNat)) 0 keepNew).1)).map .r))] ++ b0⟩ K := by
  intro B go11_0_1 go11_5_1
  refine RA.of2 hall hf hb (RA.stepH (L := [8, 9]) (Tell.of rfl) (by kernel_rfl) (by simp) (RA.each ?_ (RA.each ?_ (RA.each0))))
  refine RO.extract (d := .r (sl 1 cS ((foldR 1 ((ents w.applied).take ((srvAt w n).applied.toNat)) 0 keepNew).2))) rfl rfl rfl rfl rfl (by decide) (Nat.le_of_ble_eq_true rfl) rfl rfl ?_
  exact RA.to2 hall hf hb (ro11_10 B go11_0_1 go11_5_1) rfl rfl (by kernel_rfl)
  refine RO.alloc (ds := [.r (.v (.slice none 0 0)), .r (.v (.slice none 0 0))]) rfl rfl rfl rfl rfl rfl fun bo11_9_1 => ?_
  exact RA.to2 hall hf hb (ro11_11 B bo11_9_1 go11_0_1 go11_5_1) rfl rfl (by kernel_rfl)
 have ro11_6 : ∀ B, ∀ (bo11_9_1 : Nat), ∀ (go11_0_1 : Nat → Nat → Value), ∀ (go11_5_1 : Nat → Nat → Value), RA f E B all 5 (bt 12 575) ⟨55, [(8, .obj bo11_9_1 [.r (.v (.slice none 0 0)), .r (.v (.slice none 0 0))]), (48, .tup [.agg ((Keep.c ((foldR 1 ((ents w.applied).take ((srvAt w n).applied.toNat)) 0 keepNew).1)).map .r), .r (sl 1 cS ((foldR 1 ((ents w.applied).take ((srvAt w n).applied.toNat)) 0 keepNew).2))])] ++ b0⟩ K := by
  intro B bo11_9_1 go11_0_1 go11_5_1
  refine RA.of2 hall hf hb (RA.stepH (L := [6]) (Tell.of rfl) (by kernel_rfl) (by simp) (RA.each ?_ (RA.each0)))
  refine RO.moveMove rfl rfl rfl rfl rfl (by decide) (Nat.le_of_ble_eq_true rfl) (Nat.le_of_ble_eq_true rfl) ?_
  exact RA.to2 hall hf hb (ro11_9 B bo11_9_1 go11_0_1 go11_5_1) rfl rfl (by kernel_rfl)
 have ro11_5 : ∀ B, ∀ (go11_0_1 : Nat → Nat → Value), ∀ (go11_5_1 : Nat → Nat → Value), RA f E B all 5 (bt 12 127) ⟨55, [(42, .tup [.agg ((Keep.c ((foldR 1 ((ents w.applied).take ((srvAt w n).applied.toNat)) 0 keepNew).1)).map .r), .r (sl 1 cS ((foldR 1 ((ents w.applied).take ((srvAt w n).applied.toNat)) 0 keepNew).2))])] ++ b0⟩ K := by
  intro B go11_0_1 go11_5_1
  refine RA.of2 hall hf hb (RA.stepH (L := [7, 8, 9]) (Tell.of rfl) (by kernel_rfl) (by simp) (RA.each ?_ (RA.each ?_ (RA.each ?_ (RA.each0)))))
  refine RO.extract (d := .agg ((Keep.c ((foldR 1 ((ents w.applied).take ((srvAt w n).applied.toNat)) 0 keepNew).1)).map .r)) rfl rfl rfl rfl rfl (by decide) (Nat.le_of_ble_eq_true rfl) rfl rfl ?_
  exact RA.to2 hall hf hb (ro11_7 B go11_0_1 go11_5_1) rfl rfl (by kernel_rfl)
  refine RO.extract (d := .r (sl 1 cS ((foldR 1 ((ents w.applied).take ((srvAt w n).applied.toNat)) 0 keepNew).2))) rfl rfl rfl rfl rfl (by decide) (Nat.le_of_ble_eq_true rfl) rfl rfl ?_
  exact RA.to2 hall hf hb (ro11_8 B go11_0_1 go11_5_1) rfl rfl (by kernel_rfl)
  refine RO.alloc (ds := [.r (.v (.slice none 0 0)), .r (.v (.slice none 0 0))]) rfl rfl rfl rfl rfl rfl fun bo11_9_1 => ?_
  exact RA.to2 hall hf hb (ro11_9 B bo11_9_1 go11_0_1 go11_5_1) rfl rfl (by kernel_rfl)
 have ro11_4 : ∀ B, ∀ (bo11_9_1 : Nat), ∀ (go11_0_1 : Nat → Nat → Value), RA f E B all 6 (bt 12 543) ⟨55, [(8, .obj bo11_9_1 [.r (.v (.slice none 0 0)), .r (.v (.slice none 0 0))]), (43, .agg [.w (sl 3 Session.c keepNew.sessions) (go11_0_1 0 0), .w (sl 3 Item.c keepNew.items) (go11_0_1 0 1)]), (47, .r (sl 3 Entry.c ((ents w.applied).take ((srvAt w n).applied.toNat))))] ++ b0⟩ K := by
  intro B bo11_9_1 go11_0_1
  refine RA.of2 hall hf hb (RA.stepH (L := [5]) (Tell.of rfl) (by kernel_rfl) (by simp) (RA.each ?_ (RA.each0)))
  refine RO.freeze 43 (d' := .agg ((Keep.c keepNew).map .r)) rfl rfl ?_
  refine RO.call rfl rfl (spec_Fold_fn keepNew ((ents w.applied).take ((srvAt w n).applied.toNat)) 1 kn_ok (take_in (ents_in hA)) (by rw [List.length_take]; omega) (idx1 _)) rfl (.cons (.agg (.cons (.r .r) (.cons (.r .r) (.nil)))) (.cons (.one (.r .r)) (.cons (.one (.r .r)) (.nil)))) rfl fun go11_5_1 => ?_
  exact RA.to2 hall hf hb (ro11_6 B bo11_9_1 go11_0_1 go11_5_1) rfl rfl (by kernel_rfl)
 have ro11_3 : ∀ B, ∀ (go11_0_1 : Nat → Nat → Value), ∀ (go11_5_1 : Nat → Nat → Value), RA f E B all 6 (bt 12 63) ⟨55, [(48, .tup [.agg ((Keep.c ((foldR 1 ((ents w.applied).take ((srvAt w n).applied.toNat)) 0 keepNew).1)).map .r), .r (sl 1 cS ((foldR 1 ((ents w.applied).take ((srvAt w n).applied.toNat)) 0 keepNew).2))])] ++ b0⟩ K := by
  intro B go11_0_1 go11_5_1
  refine RA.of2 hall hf hb (RA.stepH (L := [6, 9]) (Tell.of rfl) (by kernel_rfl) (by simp) (RA.each ?_ (RA.each ?_ (RA.each0))))
  refine RO.moveMove rfl rfl rfl rfl rfl (by decide) (Nat.le_of_ble_eq_true rfl) (Nat.le_of_ble_eq_true rfl) ?_
  exact RA.to2 hall hf hb (ro11_5 B go11_0_1 go11_5_1) rfl rfl (by kernel_rfl)
  refine RO.alloc (ds := [.r (.v (.slice none 0 0)), .r (.v (.slice none 0 0))]) rfl rfl rfl rfl rfl rfl fun bo11_9_1 => ?_
  exact RA.to2 hall hf hb (ro11_6 B bo11_9_1 go11_0_1 go11_5_1) rfl rfl (by kernel_rfl)
 have ro11_2 : ∀ B, ∀ (bo11_9_1 : Nat), RA f E B all 7 (bt 12 542) ⟨55, [(8, .obj bo11_9_1 [.r (.v (.slice none 0 0)), .r (.v (.slice none 0 0))]), (47, .r (sl 3 Entry.c ((ents w.applied).take ((srvAt w n).applied.toNat))))] ++ b0⟩ K := by
  intro B bo11_9_1
  refine RA.of2 hall hf hb (RA.stepH (L := [0]) (Tell.of rfl) (by kernel_rfl) (by simp) (RA.each ?_ (RA.each0)))
  refine RO.call rfl rfl (spec_KeepNew_fn ) rfl (.nil) rfl fun go11_0_1 => ?_
  exact RA.to2 hall hf hb (ro11_4 B bo11_9_1 go11_0_1) rfl rfl (by kernel_rfl)
 have ro11_1 : ∀ B, ∀ (go11_0_1 : Nat → Nat → Value), RA f E B all 7 (bt 12 31) ⟨55, [(43, .agg [.w (sl 3 Session.c keepNew.sessions) (go11_0_1 0 0), .w (sl 3 Item.c keepNew.items) (go11_0_1 0 1)]), (47, .r (sl 3 Entry.c ((ents w.applied).take ((srvAt w n).applied.toNat))))] ++ b0⟩ K := by
  intro B go11_0_1
  refine RA.of2 hall hf hb (RA.stepH (L := [5, 9]) (Tell.of rfl) (by kernel_rfl) (by simp) (RA.each ?_ (RA.each ?_ (RA.each0))))
  refine RO.freeze 43 (d' := .agg ((Keep.c keepNew).map .r)) rfl rfl ?_
  refine RO.call rfl rfl (spec_Fold_fn keepNew ((ents w.applied).take ((srvAt w n).applied.toNat)) 1 kn_ok (take_in (ents_in hA)) (by rw [List.length_take]; omega) (idx1 _)) rfl (.cons (.agg (.cons (.r .r) (.cons (.r .r) (.nil)))) (.cons (.one (.r .r)) (.cons (.one (.r .r)) (.nil)))) rfl fun go11_5_1 => ?_
  exact RA.to2 hall hf hb (ro11_3 B go11_0_1 go11_5_1) rfl rfl (by kernel_rfl)
  refine RO.alloc (ds := [.r (.v (.slice none 0 0)), .r (.v (.slice none 0 0))]) rfl rfl rfl rfl rfl rfl fun bo11_9_1 => ?_
  exact RA.to2 hall hf hb (ro11_4 B bo11_9_1 go11_0_1) rfl rfl (by kernel_rfl)
 have ro11_0 : ∀ B, RA f E B all 8 (bt 12 30) ⟨55, [(47, .r (sl 3 Entry.c ((ents w.applied).take ((srvAt w n).applied.toNat))))] ++ b0⟩ K := by
  intro B
  refine RA.of2 hall hf hb (RA.stepH (L := [0, 9]) (Tell.of rfl) (by kernel_rfl) (by simp) (RA.each ?_ (RA.each ?_ (RA.each0))))
  refine RO.call rfl rfl (spec_KeepNew_fn ) rfl (.nil) rfl fun go11_0_1 => ?_
  exact RA.to2 hall hf hb (ro11_1 B go11_0_1) rfl rfl (by kernel_rfl)
  refine RO.alloc (ds := [.r (.v (.slice none 0 0)), .r (.v (.slice none 0 0))]) rfl rfl rfl rfl rfl rfl fun bo11_9_1 => ?_
  exact RA.to2 hall hf hb (ro11_2 B bo11_9_1) rfl rfl (by kernel_rfl)
 refine RA.start (by kernel_rfl) (by kernel_rfl) (m := 12) (ls' := (bt 12 0)) ?_
 refine RA.fr XK 55 9 [1,2,3] (bt 12 14) rfl rfl (by kernel_rfl) (Tell.of rfl) ?_
 (conv=>whnf);refine ⟨rfl,fun B=>?_⟩
 refine RA.first (i := 4) (ls' := (bt 12 30)) (Tell.of rfl) (by kernel_rfl) rfl rfl rfl (VF.p (V.takeSZ (m := (srvAt w n).applied.toNat) rfl rfl rfl rfl rfl rfl (by have h9 := inR_of hap; omega) Entry.len (by have h9 := inR_of hap; omega))) ?_
 exact RA.to2 hall hf hb (ro11_0 B) rfl rfl (by kernel_rfl)
 rintro ⟨bo11_9_1, go11_0_1, go11_5_1⟩
 refine CW.g XK 55 [.o 3] rfl rfl rfl ?_
 refine RW.call rfl (spec_SameKeep_fn ((foldR 1 ((ents w.applied).take ((srvAt w n).applied.toNat)) 0 keepNew).1) ((srvAt w n).keep) (foldR_ok _ _ _ _ kn_ok).okTo) rfl (.cons (.agg (.cons (.r .r) (.cons (.r .r) (.nil)))) (.cons (.agg (.cons (.r .r) (.cons (.r .r) (.nil)))) (.nil))) fun g12 => ?_
 refine RW.g XK 55 [.o 1,.p,.e [4]] rfl rfl rfl ?_
 refine CW.ret ?_
 exact Post.one (RV.b rfl (by exact (fd_yes ⟨fs2.1, hin⟩ hap).symm)) (AOs.a rfl (AOs.r AOs.e))
set_option maxHeartbeats 4000000 in
theorem impl_Session__fn (a : List Session) (b : List Session) : Eng.Fn E.P 88 [.one (.r (sl 3 Session.c a)), .one (.r (sl 3 Session.c b))] (.one (.one (.w (.v (.bool (eqS eqSession a b)))))) [.one (.r (sl 3 Session.c a)), .one (.r (sl 3 Session.c b))] := by
 refine Eng.Fn.intro (E := E) (rvs := [.tmp 4]) Tryz.func88 rfl rfl rfl (by simp [outSlots, moved, rvSlot, sl]) ?_
 intro B g bo
 refine CW.bound (x := .tmp 0) (n := a.length) (AsT.r) (fun hl0 => ?_)
 refine CW.bound (x := .tmp 1) (n := b.length) (AsT.r) (fun hl1 => ?_)
 refine CW.g XK 26 [.e [0,1],.n 1,.e [0,1],.n 1,.e [0,1,10]] rfl rfl rfl ?_
 refine CW.cond rfl (fun h1 => ?_) (fun h1 => ?_)
 refine CW.g XK 26 [.n 1,.e [4]] rfl rfl rfl ?_
 refine CW.ret ?_
 exact Post.one (RV.b rfl (by exact (eqS_ne (by have := h1; simp at this; omega)).symm)) (AOs.r (AOs.r AOs.e))
 refine CW.g XK 26 [.p,.e [0,1],.n 1,.e [0,1,12,13],.p] rfl rfl rfl ?_
 refine CW.loopI 26 (fun (i : Nat) => [(0, .r (sl 3 Session.c a)), (1, .r (sl 3 Session.c b)), (12, I (a.length : Int)), (13, I (i : Int))]) (fun (i : Nat) => i ≤ a.length ∧ eqS eqSession (a.drop i) (b.drop i) = eqS eqSession a b) (fun (i : Nat) => a.length - i) 0 rfl (Le.c rfl <| Le.c rfl <| Le.c rfl <| Le.c rfl <| Le.e) ⟨by omega, by simp⟩ ?_
 rintro i ⟨hb, hr⟩
 have hlen : a.length = b.length := by simp at h1; omega
 refine CW.g XK 26 [.n 1,.e [0,1,12,13,14],.p] rfl rfl rfl ?_
 refine CW.cond rfl (fun h2 => ?_) (fun h2 => ?_)
 have hii : i < a.length := by have := h2; simp at this; first | exact this | omega | (simp; done) | (simp; omega)
 obtain ⟨ei, hei⟩ : ∃ e, a[i]? = some e := ⟨_, List.getElem?_eq_getElem hii⟩
 have hdi := drop_get hei
 have hib : i < b.length := by omega
 obtain ⟨eb, heb⟩ : ∃ e, b[i]? = some e := ⟨_, List.getElem?_eq_getElem hib⟩
 refine CW.g XK 26 [.p,.e [0,1,12,13],.n 1,.e [0,1,5,12,13],.p] rfl rfl rfl ?_
 refine CW.drawn (by kernel_rfl) ?_
 refine RQ.k XK 26 2 rfl ?_
 (conv=>whnf);refine ⟨rfl,?_⟩
 refine RQ.v rfl (V.indexS rfl rfl rfl rfl rfl rfl Session.len hei) ?_
 refine RQ.k XK 26 3 rfl ?_
 (conv=>whnf);refine ⟨rfl,?_⟩
 refine RQ.v rfl (V.indexS rfl rfl rfl rfl rfl rfl Session.len heb) ?_
 refine RQ.k XK 26 1 rfl ?_
 (conv=>whnf);refine ⟨rfl,?_⟩
 refine RQ.v rfl (V.eqAgg (xs := Session.vs ei) (ys := Session.vs eb) rfl rfl rfl (by kernel_rfl) (eq156 ei eb) (.inr ⟨rfl, rfl⟩)) ?_
 refine RQ.nil ?_
 refine CW.g XK 26 [.e [0,1,12,13,24]] rfl rfl rfl ?_
 refine CW.cond rfl (fun h3 => ?_) (fun h3 => ?_)
 have he9 := h3
 refine CW.g XK 26 [.n 1,.e [4]] rfl rfl rfl ?_
 refine CW.ret ?_
 exact Post.one (RV.b rfl (by rw [← hr, eqS_step hei heb, if_neg (by simpa using he9)])) (AOs.r (AOs.r AOs.e))
 have he9 := h3
 refine CW.g XK 26 [.p,.e [0,1,12,13],.p] rfl rfl rfl ?_
 refine RW.v rfl (V.inc rfl rfl rfl hii hl0) ?_
 refine RW.g XK 26 [.o 1,.p] rfl rfl rfl ?_
 exact ⟨i + 1, by omega, ⟨by omega, by rw [← hr, eqS_step hei heb, if_pos (by simpa using he9)]⟩, rfl, Le.c rfl <| Le.c rfl <| Le.c rfl <| Le.c rfl <| Le.e⟩
 have hii : a.length ≤ i := by have := h2; simp at this; first | exact this | omega | (simp; done) | (simp; omega)
 have hdi : a.drop i = [] := List.drop_eq_nil_of_le hii
 refine CW.exit ?_
 refine CW.g XK 26 [.e [],.n 1,.e [4]] rfl rfl rfl ?_
 refine CW.ret ?_
 exact Post.one (RV.b rfl (by rw [← hr]; exact (eqS_end hii hlen).symm)) (AOs.r (AOs.r AOs.e))
set_option maxHeartbeats 4000000 in
theorem impl_Item__fn (a : List Item) (b : List Item) : Eng.Fn E.P 89 [.one (.r (sl 3 Item.c a)), .one (.r (sl 3 Item.c b))] (.one (.one (.w (.v (.bool (eqS eqItem a b)))))) [.one (.r (sl 3 Item.c a)), .one (.r (sl 3 Item.c b))] := by
 refine Eng.Fn.intro (E := E) (rvs := [.tmp 4]) Tryz.func89 rfl rfl rfl (by simp [outSlots, moved, rvSlot, sl]) ?_
 intro B g bo
 refine CW.bound (x := .tmp 0) (n := a.length) (AsT.r) (fun hl0 => ?_)
 refine CW.bound (x := .tmp 1) (n := b.length) (AsT.r) (fun hl1 => ?_)
 refine CW.g XK 26 [.e [0,1],.n 1,.e [0,1],.n 1,.e [0,1,10]] rfl rfl rfl ?_
 refine CW.cond rfl (fun h1 => ?_) (fun h1 => ?_)
 refine CW.g XK 26 [.n 1,.e [4]] rfl rfl rfl ?_
 refine CW.ret ?_
 exact Post.one (RV.b rfl (by exact (eqS_ne (by have := h1; simp at this; omega)).symm)) (AOs.r (AOs.r AOs.e))
 refine CW.g XK 26 [.p,.e [0,1],.n 1,.e [0,1,12,13],.p] rfl rfl rfl ?_
 refine CW.loopI 26 (fun (i : Nat) => [(0, .r (sl 3 Item.c a)), (1, .r (sl 3 Item.c b)), (12, I (a.length : Int)), (13, I (i : Int))]) (fun (i : Nat) => i ≤ a.length ∧ eqS eqItem (a.drop i) (b.drop i) = eqS eqItem a b) (fun (i : Nat) => a.length - i) 0 rfl (Le.c rfl <| Le.c rfl <| Le.c rfl <| Le.c rfl <| Le.e) ⟨by omega, by simp⟩ ?_
 rintro i ⟨hb, hr⟩
 have hlen : a.length = b.length := by simp at h1; omega
 refine CW.g XK 26 [.n 1,.e [0,1,12,13,14],.p] rfl rfl rfl ?_
 refine CW.cond rfl (fun h2 => ?_) (fun h2 => ?_)
 have hii : i < a.length := by have := h2; simp at this; first | exact this | omega | (simp; done) | (simp; omega)
 obtain ⟨ei, hei⟩ : ∃ e, a[i]? = some e := ⟨_, List.getElem?_eq_getElem hii⟩
 have hdi := drop_get hei
 have hib : i < b.length := by omega
 obtain ⟨eb, heb⟩ : ∃ e, b[i]? = some e := ⟨_, List.getElem?_eq_getElem hib⟩
 refine CW.g XK 26 [.p,.e [0,1,12,13],.n 1,.e [0,1,5,12,13],.p] rfl rfl rfl ?_
 refine CW.drawn (by kernel_rfl) ?_
 refine RQ.k XK 26 2 rfl ?_
 (conv=>whnf);refine ⟨rfl,?_⟩
 refine RQ.v rfl (V.indexS rfl rfl rfl rfl rfl rfl Item.len hei) ?_
 refine RQ.k XK 26 3 rfl ?_
 (conv=>whnf);refine ⟨rfl,?_⟩
 refine RQ.v rfl (V.indexS rfl rfl rfl rfl rfl rfl Item.len heb) ?_
 refine RQ.k XK 26 1 rfl ?_
 (conv=>whnf);refine ⟨rfl,?_⟩
 refine RQ.v rfl (V.eqAgg (xs := Item.vs ei) (ys := Item.vs eb) rfl rfl rfl (by kernel_rfl) (eq71 ei eb) (.inr ⟨rfl, rfl⟩)) ?_
 refine RQ.nil ?_
 refine CW.g XK 26 [.e [0,1,12,13,24]] rfl rfl rfl ?_
 refine CW.cond rfl (fun h3 => ?_) (fun h3 => ?_)
 have he9 := h3
 refine CW.g XK 26 [.n 1,.e [4]] rfl rfl rfl ?_
 refine CW.ret ?_
 exact Post.one (RV.b rfl (by rw [← hr, eqS_step hei heb, if_neg (by simpa using he9)])) (AOs.r (AOs.r AOs.e))
 have he9 := h3
 refine CW.g XK 26 [.p,.e [0,1,12,13],.p] rfl rfl rfl ?_
 refine RW.v rfl (V.inc rfl rfl rfl hii hl0) ?_
 refine RW.g XK 26 [.o 1,.p] rfl rfl rfl ?_
 exact ⟨i + 1, by omega, ⟨by omega, by rw [← hr, eqS_step hei heb, if_pos (by simpa using he9)]⟩, rfl, Le.c rfl <| Le.c rfl <| Le.c rfl <| Le.c rfl <| Le.e⟩
 have hii : a.length ≤ i := by have := h2; simp at this; first | exact this | omega | (simp; done) | (simp; omega)
 have hdi : a.drop i = [] := List.drop_eq_nil_of_le hii
 refine CW.exit ?_
 refine CW.g XK 26 [.e [],.n 1,.e [4]] rfl rfl rfl ?_
 refine CW.ret ?_
 exact Post.one (RV.b rfl (by rw [← hr]; exact (eqS_end hii hlen).symm)) (AOs.r (AOs.r AOs.e))
set_option maxHeartbeats 4000000 in
theorem impl_SameKeep_fn (a : Keep) (b : Keep) : Eng.Fn E.P 50 [.agg ((Keep.c a).map .r), .agg ((Keep.c b).map .r)] (.one (.one (.w (.v (.bool (eqKeep a b)))))) [.agg ((Keep.c a).map .r), .agg ((Keep.c b).map .r)] := by
 refine Eng.Fn.intro (E := E) (rvs := [.tmp 4]) Tryz.func50 rfl rfl rfl (by simp [outSlots, moved, rvSlot, sl]) ?_
 intro B g bo
 refine CW.h XK 17 [.e [0,1],.o 1] rfl ?_;(conv=>whnf);intro b1;(conv=>whnf);refine ⟨rfl,?_⟩
 refine RW.freezeB (ts := (Keep.c a)) 2 rfl (DRd.r (DRd.r DRd.e)) ?_
 refine RW.h XK 17 [.o 1] rfl ?_;(conv=>whnf);intro b2;(conv=>whnf);refine ⟨rfl,?_⟩
 refine RW.freezeB (ts := (Keep.c b)) 3 rfl (DRd.r (DRd.r DRd.e)) ?_
 refine RW.g XK 17 [.o 1,.p,.e [2,3]] rfl rfl rfl ?_
 refine CW.seqJ 17 (fun (v3 : Bool) => [(4, Bo v3)]) (fun v3 => v3 = ((eqS eqSession a.sessions b.sessions) && (eqS eqItem a.items b.items))) ?_ ?_
 refine CW.g XK 17 [.o 4] rfl rfl rfl ?_
 refine RW.call rfl (impl_Session__fn a.sessions b.sessions) rfl (.cons (.one (.r .r)) (.cons (.one (.r .r)) (.nil))) fun g4 => ?_
 refine RW.g XK 17 [.o 1] rfl rfl rfl ?_
 refine RW.gv rfl rfl rfl rfl (fun h5 => V.fieldR rfl rfl rfl rfl (by decide) rfl (Nat.le_of_ble_eq_true rfl)) (fun h5 => ?_) (fun h5 => ?_)
 refine RW.g XK 17 [.o 3] rfl rfl rfl ?_
 refine RW.gcall rfl rfl rfl rfl (impl_Item__fn a.items b.items) rfl (.cons (.one (.r .r)) (.cons (.one (.r .r)) (.nil))) fun g6 => ?_
 refine RW.g XK 17 [.o 2,.p] rfl rfl rfl ?_
 exact ⟨_, by first | rfl | (simp_all; done) | (simp_all; omega) | grind, rfl, Le.of rfl⟩
 refine RW.g XK 17 [.o 6,.p] rfl rfl rfl ?_
 exact ⟨_, by first | rfl | (simp_all; done) | (simp_all; omega) | grind, rfl, Le.of rfl⟩
 intro v3 hv7
 refine CW.ret ?_
 exact Post.one (RV.b rfl (by first | rfl | simp_all [eqKeep])) (AOs.a rfl (AOs.a rfl AOs.e))
set_option maxHeartbeats 4000000 in
theorem impl_Folded_fn (w : World) (n : Int) (hok : okToWorld w) : Eng.Fn E.P 12 [.agg ((World.c w).map .r), .one (.r (.v (.int .i64 n)))] (.one (.one (.w (.v (.bool (fdB w n)))))) [.agg ((World.c w).map .r), .one (.r (.v (.int .i64 n)))] := by
 refine Eng.Fn.intro (E := E) (rvs := [.tmp 4]) Tryz.func12 rfl rfl rfl (by simp [outSlots, moved, rvSlot, sl]) ?_
 intro B g bo
 refine CW.g XK 51 [.e [0,1]] rfl rfl rfl ?_
 have hS : okSl okToServer w.servers := hok.2.1
 have hA : okSl okToApplied w.applied := hok.2.2.2.2.2.1
 have hEl : (ents w.applied).length ≤ 1048576 := Nat.le_trans (ents_len w.applied) hA.1
 have hLS : w.servers.length ≤ maxLen := by have := hS.1; simp only [maxLen]; omega
 refine CW.h XK 51 [.o 1] rfl ?_;(conv=>whnf);intro b1;(conv=>whnf);refine ⟨rfl,?_⟩
 refine RW.freezeB (ts := (World.c w)) 2 rfl (DRd.r (DRd.r (DRd.r (DRd.r (DRd.r (DRd.r (DRd.r DRd.e))))))) ?_
 refine RW.g XK 51 [.o 1,.p,.e [1,2],.o 2] rfl rfl rfl ?_
 refine RW.call rfl (impl_Entries_fn w.applied hA.1) rfl (.cons (.one (.r .r)) (.nil)) fun g2 => ?_
 refine RW.g XK 51 [.o 5,.p,.e [1,2,5,6],.p] rfl rfl rfl ?_
 refine CW.seqJ 51 (fun (v3 : Bool) => [(1, I n), (2, .rp (World.c w)), (5, .r (sl 3 Entry.c (ents w.applied))), (25, Bo v3)]) (fun v3 => v3 = ((!(pairs badApplied [] w.applied)) || (!(inR n 1 (w.servers.length : Int))))) ?_ ?_
 refine CW.g XK 51 [.o 3] rfl rfl rfl ?_
 refine RW.gv rfl rfl rfl rfl (fun h4 => V.mv (d := I n) rfl rfl) (fun h4 => ?_) (fun h4 => ?_)
 refine RW.g XK 51 [.o 3] rfl rfl rfl ?_
 refine RW.gcall rfl rfl rfl rfl (impl_within_fn n 1 (w.servers.length : Int)) rfl (.cons (.one (.r .r)) (.cons (.one (.r .r)) (.cons (.one (.r .r)) (.nil)))) fun g5 => ?_
 refine RW.g XK 51 [.o 2,.p] rfl rfl rfl ?_
 exact ⟨_, by first | rfl | (simp_all; done) | (simp_all; omega) | grind, rfl, Le.of rfl⟩
 refine RW.g XK 51 [.o 6,.p] rfl rfl rfl ?_
 exact ⟨_, by first | rfl | (simp_all; done) | (simp_all; omega) | grind, rfl, Le.of rfl⟩
 intro v3 hv6
 refine CW.cond rfl (fun h7 => ?_) (fun h7 => ?_)
 have hvv := hv6.symm.trans h7
 refine CW.g XK 51 [.n 1,.e [4]] rfl rfl rfl ?_
 refine CW.ret ?_
 exact Post.one (RV.b rfl (by exact (fd_no1 hvv).symm)) (AOs.a rfl (AOs.r AOs.e))
 have fd2 := fd_2 (hv6.symm.trans h7)
 have hin := fd2.2
 refine CW.g XK 51 [.p,.e [1,2,5],.o 4] rfl rfl rfl ?_
 refine RW.v rfl (V.indexZ (m := (n.toNat - 1)) (v := (srvAt w n)) rfl rfl rfl rfl rfl rfl (srv_ix hin hS.1) Server.len (srv_some hin)) ?_
 refine RW.h XK 51 [.o 3] rfl ?_;(conv=>whnf);intro b8;(conv=>whnf);refine ⟨rfl,?_⟩
 refine RW.freezeB (ts := [.v (.int .i64 (((srvAt w n).node).id)), .v (.int .i64 (((srvAt w n).node).term_)), .v (.int .i64 (((srvAt w n).node).vote)), .v (.int .i64 (((srvAt w n).node).role)), .v (.int .i64 (((srvAt w n).node).lead)), sl 1 cI (((srvAt w n).node).conf), .v (.int .i64 ((((srvAt w n).node).log).start)), .v (.int .i64 ((((srvAt w n).node).log).startTerm)), sl 3 Entry.c ((((srvAt w n).node).log).entries), .v (.int .i64 (((srvAt w n).node).commit)), .v (.int .i64 (((srvAt w n).node).clock)), .v (.int .i64 (((srvAt w n).node).limit)), sl 1 cI (((srvAt w n).node).votes), sl 4 Peer.c (((srvAt w n).node).peers), sl 3 File.c (((srvAt w n).disk).files), .v (.int .i64 (((srvAt w n).journal).number)), .v (.int .i64 (((srvAt w n).journal).term_)), .v (.int .i64 (((srvAt w n).journal).vote)), .v (.int .i64 ((((srvAt w n).journal).log).start)), .v (.int .i64 ((((srvAt w n).journal).log).startTerm)), sl 3 Entry.c ((((srvAt w n).journal).log).entries), sl 3 Session.c (((srvAt w n).keep).sessions), sl 3 Item.c (((srvAt w n).keep).items), .v (.int .i64 ((srvAt w n).applied)), .v (.string ((srvAt w n).stage)), .v (.int .i64 ((srvAt w n).stageAt)), .v (.int .i64 ((srvAt w n).stageTerm))]) 7 rfl (DRd.r (DRd.r (DRd.r (DRd.r (DRd.r (DRd.r (DRd.r (DRd.r (DRd.r (DRd.r (DRd.r (DRd.r (DRd.r (DRd.r (DRd.r (DRd.r (DRd.r (DRd.r (DRd.r (DRd.r (DRd.r (DRd.r (DRd.r (DRd.r (DRd.r (DRd.r (DRd.r DRd.e))))))))))))))))))))))))))) ?_
 refine RW.g XK 51 [.p,.e [5,7],.o 4] rfl rfl rfl ?_
 refine RW.call rfl (impl_within_fn ((srvAt w n).applied) 0 ((ents w.applied).length : Int)) rfl (.cons (.one (.r .r)) (.cons (.one (.r .r)) (.cons (.one (.r .r)) (.nil)))) fun g9 => ?_
 refine RW.g XK 51 [.o 1,.p,.e [5,7,37]] rfl rfl rfl ?_
 refine CW.cond rfl (fun h10 => ?_) (fun h10 => ?_)
 have hno := nT h10
 refine CW.g XK 51 [.n 1,.e [4]] rfl rfl rfl ?_
 refine CW.ret ?_
 exact Post.one (RV.b rfl (by exact (fd_no2 hno).symm)) (AOs.a rfl (AOs.r AOs.e))
 have hap := nF h10
 refine CW.g XK 51 [.p,.e [5,7]] rfl rfl rfl ?_
 refine CW.anyJ2 (fc := []) (L0 := [(7, .rp [.v (.int .i64 (((srvAt w n).node).id)), .v (.int .i64 (((srvAt w n).node).term_)), .v (.int .i64 (((srvAt w n).node).vote)), .v (.int .i64 (((srvAt w n).node).role)), .v (.int .i64 (((srvAt w n).node).lead)), sl 1 cI (((srvAt w n).node).conf), .v (.int .i64 ((((srvAt w n).node).log).start)), .v (.int .i64 ((((srvAt w n).node).log).startTerm)), sl 3 Entry.c ((((srvAt w n).node).log).entries), .v (.int .i64 (((srvAt w n).node).commit)), .v (.int .i64 (((srvAt w n).node).clock)), .v (.int .i64 (((srvAt w n).node).limit)), sl 1 cI (((srvAt w n).node).votes), sl 4 Peer.c (((srvAt w n).node).peers), sl 3 File.c (((srvAt w n).disk).files), .v (.int .i64 (((srvAt w n).journal).number)), .v (.int .i64 (((srvAt w n).journal).term_)), .v (.int .i64 (((srvAt w n).journal).vote)), .v (.int .i64 ((((srvAt w n).journal).log).start)), .v (.int .i64 ((((srvAt w n).journal).log).startTerm)), sl 3 Entry.c ((((srvAt w n).journal).log).entries), sl 3 Session.c (((srvAt w n).keep).sessions), sl 3 Item.c (((srvAt w n).keep).items), .v (.int .i64 ((srvAt w n).applied)), .v (.string ((srvAt w n).stage)), .v (.int .i64 ((srvAt w n).stageAt)), .v (.int .i64 ((srvAt w n).stageTerm))])]) 51 (fun (zz : Nat × (Nat → Nat → Value) × (Nat → Nat → Value)) => match zz with | (bo11_9_1, go11_0_1, go11_5_1) => [(8, .obj bo11_9_1 ((Keep.c ((foldR 1 ((ents w.applied).take ((srvAt w n).applied.toNat)) 0 keepNew).1)).map .r))]) (fun all hall f hf b0 hb K hK => ?_) ?_
 have ro11_15 : ∀ B, ∀ (bo11_9_1 : Nat), ∀ (go11_0_1 : Nat → Nat → Value), ∀ (go11_5_1 : Nat → Nat → Value), RA f E B all 0 (bt 12 4095) ⟨51, [(8, .obj bo11_9_1 ((Keep.c ((foldR 1 ((ents w.applied).take ((srvAt w n).applied.toNat)) 0 keepNew).1)).map .r))] ++ b0⟩ K := by
  intro B bo11_9_1 go11_0_1 go11_5_1
  exact RA.of2 hall hf hb (RA.finH (Tell.of rfl) (by kernel_rfl) (hK (bo11_9_1, go11_0_1, go11_5_1) _ rfl (Le.of rfl)))
 have ro11_14 : ∀ B, ∀ (bo11_9_1 : Nat), ∀ (go11_0_1 : Nat → Nat → Value), ∀ (go11_5_1 : Nat → Nat → Value), RA f E B all 2 (bt 12 1791) ⟨51, [(8, .obj bo11_9_1 ((Keep.c ((foldR 1 ((ents w.applied).take ((srvAt w n).applied.toNat)) 0 keepNew).1)).map .r)), (38, .tup [.u, .r (sl 1 cS ((foldR 1 ((ents w.applied).take ((srvAt w n).applied.toNat)) 0 keepNew).2))])] ++ b0⟩ K := by
  intro B bo11_9_1 go11_0_1 go11_5_1
  refine RA.of2 hall hf hb (RA.stepH (L := [8]) (Tell.of rfl) (by kernel_rfl) (by simp) (RA.each ?_ (RA.each0)))
  refine RO.extract (d := .r (sl 1 cS ((foldR 1 ((ents w.applied).take ((srvAt w n).applied.toNat)) 0 keepNew).2))) rfl rfl rfl rfl rfl (by decide) (Nat.le_of_ble_eq_true rfl) rfl rfl ?_
  refine RA.fr XK 51 0 [11] (bt 12 4095) rfl rfl (by kernel_rfl) (Tell.of rfl) ?_
  (conv=>whnf);refine ⟨rfl,fun B=>?_⟩
  exact RA.to2 hall hf hb (ro11_15 B bo11_9_1 go11_0_1 go11_5_1) rfl rfl (by kernel_rfl)
 have ro11_13 : ∀ B, ∀ (bo11_9_1 : Nat), ∀ (go11_0_1 : Nat → Nat → Value), ∀ (go11_5_1 : Nat → Nat → Value), RA f E B all 2 (bt 12 1023) ⟨51, [(8, .obj bo11_9_1 [.r (.v (.slice none 0 0)), .r (.v (.slice none 0 0))]), (45, .agg ((Keep.c ((foldR 1 ((ents w.applied).take ((srvAt w n).applied.toNat)) 0 keepNew).1)).map .r)), (46, .r (sl 1 cS ((foldR 1 ((ents w.applied).take ((srvAt w n).applied.toNat)) 0 keepNew).2)))] ++ b0⟩ K := by
  intro B bo11_9_1 go11_0_1 go11_5_1
  refine RA.of2 hall hf hb (RA.stepH (L := [10]) (Tell.of rfl) (by kernel_rfl) (by simp) (RA.each ?_ (RA.each0)))
  refine RO.storeAgg (es := ((Keep.c ((foldR 1 ((ents w.applied).take ((srvAt w n).applied.toNat)) 0 keepNew).1)).map .r)) rfl rfl rfl rfl rfl rfl rfl rfl rfl rfl (Nat.le_of_ble_eq_true rfl) rfl ?_
  refine RA.fr XK 51 0 [11] (bt 12 4095) rfl rfl (by kernel_rfl) (Tell.of rfl) ?_
  (conv=>whnf);refine ⟨rfl,fun B=>?_⟩
  exact RA.to2 hall hf hb (ro11_15 B bo11_9_1 go11_0_1 go11_5_1) rfl rfl (by kernel_rfl)
 have ro11_12 : ∀ B, ∀ (bo11_9_1 : Nat), ∀ (go11_0_1 : Nat → Nat → Value), ∀ (go11_5_1 : Nat → Nat → Value), RA f E B all 3 (bt 12 895) ⟨51, [(8, .obj bo11_9_1 [.r (.v (.slice none 0 0)), .r (.v (.slice none 0 0))]), (38, .tup [.agg ((Keep.c ((foldR 1 ((ents w.applied).take ((srvAt w n).applied.toNat)) 0 keepNew).1)).map .r), .u]), (46, .r (sl 1 cS ((foldR 1 ((ents w.applied).take ((srvAt w n).applied.toNat)) 0 keepNew).2)))] ++ b0⟩ K := by
  intro B bo11_9_1 go11_0_1 go11_5_1
  refine RA.of2 hall hf hb (RA.stepH (L := [7]) (Tell.of rfl) (by kernel_rfl) (by simp) (RA.each ?_ (RA.each0)))
  refine RO.extract (d := .agg ((Keep.c ((foldR 1 ((ents w.applied).take ((srvAt w n).applied.toNat)) 0 keepNew).1)).map .r)) rfl rfl rfl rfl rfl (by decide) (Nat.le_of_ble_eq_true rfl) rfl rfl ?_
  exact RA.to2 hall hf hb (ro11_13 B bo11_9_1 go11_0_1 go11_5_1) rfl rfl (by kernel_rfl)
 have ro11_11 : ∀ B, ∀ (bo11_9_1 : Nat), ∀ (go11_0_1 : Nat → Nat → Value), ∀ (go11_5_1 : Nat → Nat → Value), RA f E B all 3 (bt 12 767) ⟨51, [(8, .obj bo11_9_1 [.r (.v (.slice none 0 0)), .r (.v (.slice none 0 0))]), (38, .tup [.u, .r (sl 1 cS ((foldR 1 ((ents w.applied).take ((srvAt w n).applied.toNat)) 0 keepNew).2))]), (45, .agg ((Keep.c ((foldR 1 ((ents w.applied).take ((srvAt w n).applied.toNat)) 0 keepNew).1)).map .r))] ++ b0⟩ K := by
  intro B bo11_9_1 go11_0_1 go11_5_1
  refine RA.of2 hall hf hb (RA.stepH (L := [8, 10]) (Tell.of rfl) (by kernel_rfl) (by simp) (RA.each ?_ (RA.each ?_ (RA.each0))))
  refine RO.extract (d := .r (sl 1 cS ((foldR 1 ((ents w.applied).take ((srvAt w n).applied.toNat)) 0 keepNew).2))) rfl rfl rfl rfl rfl (by decide) (Nat.le_of_ble_eq_true rfl) rfl rfl ?_
  exact RA.to2 hall hf hb (ro11_13 B bo11_9_1 go11_0_1 go11_5_1) rfl rfl (by kernel_rfl)
  refine RO.storeAgg (es := ((Keep.c ((foldR 1 ((ents w.applied).take ((srvAt w n).applied.toNat)) 0 keepNew).1)).map .r)) rfl rfl rfl rfl rfl rfl rfl rfl rfl rfl (Nat.le_of_ble_eq_true rfl) rfl ?_
  exact RA.to2 hall hf hb (ro11_14 B bo11_9_1 go11_0_1 go11_5_1) rfl rfl (by kernel_rfl)
 have ro11_10 : ∀ B, ∀ (go11_0_1 : Nat → Nat → Value), ∀ (go11_5_1 : Nat → Nat → Value), RA f E B all 3 (bt 12 511) ⟨51, [(45, .agg ((Keep.c ((foldR 1 ((ents w.applied).take ((srvAt w n).applied.toNat)) 0 keepNew).1)).map .r)), (46, .r (sl 1 cS ((foldR 1 ((ents w.applied).take ((srvAt w n).applied.toNat)) 0 keepNew).2)))] ++ b0⟩ K := by
  intro B go11_0_1 go11_5_1
  refine RA.of2 hall hf hb (RA.stepH (L := [9]) (Tell.of rfl) (by kernel_rfl) (by simp) (RA.each ?_ (RA.each0)))
  refine RO.alloc (ds := [.r (.v (.slice none 0 0)), .r (.v (.slice none 0 0))]) rfl rfl rfl rfl rfl rfl fun bo11_9_1 => ?_
  exact RA.to2 hall hf hb (ro11_13 B bo11_9_1 go11_0_1 go11_5_1) rfl rfl (by kernel_rfl)
 have ro11_9 : ∀ B, ∀ (bo11_9_1 : Nat), ∀ (go11_0_1 : Nat → Nat → Value), ∀ (go11_5_1 : Nat → Nat → Value), RA f E B all 4 (bt 12 639) ⟨51, [(8, .obj bo11_9_1 [.r (.v (.slice none 0 0)), .r (.v (.slice none 0 0))]), (38, .tup [.agg ((Keep.c ((foldR 1 ((ents w.applied).take ((srvAt w n).applied.toNat)) 0 keepNew).1)).map .r), .r (sl 1 cS ((foldR 1 ((ents w.applied).take ((srvAt w n).applied.toNat)) 0 keepNew).2))])] ++ b0⟩ K := by
  intro B bo11_9_1 go11_0_1 go11_5_1
  refine RA.of2 hall hf hb (RA.stepH (L := [7, 8]) (Tell.of rfl) (by kernel_rfl) (by simp) (RA.each ?_ (RA.each ?_ (RA.each0))))
  refine RO.extract (d := .agg ((Keep.c ((foldR 1 ((ents w.applied).take ((srvAt w n).applied.toNat)) 0 keepNew).1)).map .r)) rfl rfl rfl rfl rfl (by decide) (Nat.le_of_ble_eq_true rfl) rfl rfl ?_
  exact RA.to2 hall hf hb (ro11_11 B bo11_9_1 go11_0_1 go11_5_1) rfl rfl (by kernel_rfl)
  refine RO.extract (d := .r (sl 1 cS ((foldR 1 ((ents w.applied).take ((srvAt w n).applied.toNat)) 0 keepNew).2))) rfl rfl rfl rfl rfl (by decide) (Nat.le_of_ble_eq_true rfl) rfl rfl ?_
  exact RA.to2 hall hf hb (ro11_12 B bo11_9_1 go11_0_1 go11_5_1) rfl rfl (by kernel_rfl)
 have ro11_8 : ∀ B, ∀ (go11_0_1 : Nat → Nat → Value), ∀ (go11_5_1 : Nat → Nat → Value), RA f E B all 4 (bt 12 383) ⟨51, [(38, .tup [.agg ((Keep.c ((foldR 1 ((ents w.applied).take ((srvAt w n).applied.toNat)) 0 keepNew).1)).map .r), .u]), (46, .r (sl 1 cS ((foldR 1 ((ents w.applied).take ((srvAt w n).applied.toNat)) 0 keepNew).2)))] ++ b0⟩ K := by
  intro B go11_0_1 go11_5_1
  refine RA.of2 hall hf hb (RA.stepH (L := [7, 9]) (Tell.of rfl) (by kernel_rfl) (by simp) (RA.each ?_ (RA.each ?_ (RA.each0))))
  refine RO.extract (d := .agg ((Keep.c ((foldR 1 ((ents w.applied).take ((srvAt w n).applied.toNat)) 0 keepNew).1)).map .r)) rfl rfl rfl rfl rfl (by decide) (Nat.le_of_ble_eq_true rfl) rfl rfl ?_
  exact RA.to2 hall hf hb (ro11_10 B go11_0_1 go11_5_1) rfl rfl (by kernel_rfl)
  refine RO.alloc (ds := [.r (.v (.slice none 0 0)), .r (.v (.slice none 0 0))]) rfl rfl rfl rfl rfl rfl fun bo11_9_1 => ?_
  exact RA.to2 hall hf hb (ro11_12 B bo11_9_1 go11_0_1 go11_5_1) rfl rfl (by kernel_rfl)
 have ro11_7 : ∀ B, ∀ (go11_0_1 : Nat → Nat → Value), ∀ (go11_5_1 : Nat → Nat → Value), RA f E B all 4 (bt 12 255) ⟨51, [(38, .tup [.u, .r (sl 1 cS ((foldR 1 ((ents w.applied).take ((srvAt w n).applied.toNat)) 0 keepNew).2))]), (45, .agg ((Keep.c ((foldR 1 ((ents w.applied).take ((srvAt w n).applied.toNat)) 0 keepNew).1)).map .r))] ++ b0⟩ K := by
  intro B go11_0_1 go11_5_1
  refine RA.of2 hall hf hb (RA.stepH (L := [8, 9]) (Tell.of rfl) (by kernel_rfl) (by simp) (RA.each ?_ (RA.each ?_ (RA.each0))))
  refine RO.extract (d := .r (sl 1 cS ((foldR 1 ((ents w.applied).take ((srvAt w n).applied.toNat)) 0 keepNew).2))) rfl rfl rfl rfl rfl (by decide) (Nat.le_of_ble_eq_true rfl) rfl rfl ?_
  exact RA.to2 hall hf hb (ro11_10 B go11_0_1 go11_5_1) rfl rfl (by kernel_rfl)
  refine RO.alloc (ds := [.r (.v (.slice none 0 0)), .r (.v (.slice none 0 0))]) rfl rfl rfl rfl rfl rfl fun bo11_9_1 => ?_
  exact RA.to2 hall hf hb (ro11_11 B bo11_9_1 go11_0_1 go11_5_1) rfl rfl (by kernel_rfl)
 have ro11_6 : ∀ B, ∀ (bo11_9_1 : Nat), ∀ (go11_0_1 : Nat → Nat → Value), ∀ (go11_5_1 : Nat → Nat → Value), RA f E B all 5 (bt 12 575) ⟨51, [(8, .obj bo11_9_1 [.r (.v (.slice none 0 0)), .r (.v (.slice none 0 0))]), (44, .tup [.agg ((Keep.c ((foldR 1 ((ents w.applied).take ((srvAt w n).applied.toNat)) 0 keepNew).1)).map .r), .r (sl 1 cS ((foldR 1 ((ents w.applied).take ((srvAt w n).applied.toNat)) 0 keepNew).2))])] ++ b0⟩ K := by
  intro B bo11_9_1 go11_0_1 go11_5_1
  refine RA.of2 hall hf hb (RA.stepH (L := [6]) (Tell.of rfl) (by kernel_rfl) (by simp) (RA.each ?_ (RA.each0)))
  refine RO.moveMove rfl rfl rfl rfl rfl (by decide) (Nat.le_of_ble_eq_true rfl) (Nat.le_of_ble_eq_true rfl) ?_
  exact RA.to2 hall hf hb (ro11_9 B bo11_9_1 go11_0_1 go11_5_1) rfl rfl (by kernel_rfl)
 have ro11_5 : ∀ B, ∀ (go11_0_1 : Nat → Nat → Value), ∀ (go11_5_1 : Nat → Nat → Value), RA f E B all 5 (bt 12 127) ⟨51, [(38, .tup [.agg ((Keep.c ((foldR 1 ((ents w.applied).take ((srvAt w n).applied.toNat)) 0 keepNew).1)).map .r), .r (sl 1 cS ((foldR 1 ((ents w.applied).take ((srvAt w n).applied.toNat)) 0 keepNew).2))])] ++ b0⟩ K := by
  intro B go11_0_1 go11_5_1
  refine RA.of2 hall hf hb (RA.stepH (L := [7, 8, 9]) (Tell.of rfl) (by kernel_rfl) (by simp) (RA.each ?_ (RA.each ?_ (RA.each ?_ (RA.each0)))))
  refine RO.extract (d := .agg ((Keep.c ((foldR 1 ((ents w.applied).take ((srvAt w n).applied.toNat)) 0 keepNew).1)).map .r)) rfl rfl rfl rfl rfl (by decide) (Nat.le_of_ble_eq_true rfl) rfl rfl ?_
  exact RA.to2 hall hf hb (ro11_7 B go11_0_1 go11_5_1) rfl rfl (by kernel_rfl)
  refine RO.extract (d := .r (sl 1 cS ((foldR 1 ((ents w.applied).take ((srvAt w n).applied.toNat)) 0 keepNew).2))) rfl rfl rfl rfl rfl (by decide) (Nat.le_of_ble_eq_true rfl) rfl rfl ?_
  exact RA.to2 hall hf hb (ro11_8 B go11_0_1 go11_5_1) rfl rfl (by kernel_rfl)
  refine RO.alloc (ds := [.r (.v (.slice none 0 0)), .r (.v (.slice none 0 0))]) rfl rfl rfl rfl rfl rfl fun bo11_9_1 => ?_
  exact RA.to2 hall hf hb (ro11_9 B bo11_9_1 go11_0_1 go11_5_1) rfl rfl (by kernel_rfl)
 have ro11_4 : ∀ B, ∀ (bo11_9_1 : Nat), ∀ (go11_0_1 : Nat → Nat → Value), RA f E B all 6 (bt 12 543) ⟨51, [(8, .obj bo11_9_1 [.r (.v (.slice none 0 0)), .r (.v (.slice none 0 0))]), (39, .agg [.w (sl 3 Session.c keepNew.sessions) (go11_0_1 0 0), .w (sl 3 Item.c keepNew.items) (go11_0_1 0 1)]), (43, .r (sl 3 Entry.c ((ents w.applied).take ((srvAt w n).applied.toNat))))] ++ b0⟩ K := by
  intro B bo11_9_1 go11_0_1
  refine RA.of2 hall hf hb (RA.stepH (L := [5]) (Tell.of rfl) (by kernel_rfl) (by simp) (RA.each ?_ (RA.each0)))
  refine RO.freeze 39 (d' := .agg ((Keep.c keepNew).map .r)) rfl rfl ?_
  refine RO.call rfl rfl (impl_Fold_fn keepNew ((ents w.applied).take ((srvAt w n).applied.toNat)) 1 kn_ok (take_in (ents_in hA)) (by rw [List.length_take]; omega)) rfl (.cons (.agg (.cons (.r .r) (.cons (.r .r) (.nil)))) (.cons (.one (.r .r)) (.cons (.one (.r .r)) (.nil)))) rfl fun go11_5_1 => ?_
  exact RA.to2 hall hf hb (ro11_6 B bo11_9_1 go11_0_1 go11_5_1) rfl rfl (by kernel_rfl)
 have ro11_3 : ∀ B, ∀ (go11_0_1 : Nat → Nat → Value), ∀ (go11_5_1 : Nat → Nat → Value), RA f E B all 6 (bt 12 63) ⟨51, [(44, .tup [.agg ((Keep.c ((foldR 1 ((ents w.applied).take ((srvAt w n).applied.toNat)) 0 keepNew).1)).map .r), .r (sl 1 cS ((foldR 1 ((ents w.applied).take ((srvAt w n).applied.toNat)) 0 keepNew).2))])] ++ b0⟩ K := by
  intro B go11_0_1 go11_5_1
  refine RA.of2 hall hf hb (RA.stepH (L := [6, 9]) (Tell.of rfl) (by kernel_rfl) (by simp) (RA.each ?_ (RA.each ?_ (RA.each0))))
  refine RO.moveMove rfl rfl rfl rfl rfl (by decide) (Nat.le_of_ble_eq_true rfl) (Nat.le_of_ble_eq_true rfl) ?_
  exact RA.to2 hall hf hb (ro11_5 B go11_0_1 go11_5_1) rfl rfl (by kernel_rfl)
  refine RO.alloc (ds := [.r (.v (.slice none 0 0)), .r (.v (.slice none 0 0))]) rfl rfl rfl rfl rfl rfl fun bo11_9_1 => ?_
  exact RA.to2 hall hf hb (ro11_6 B bo11_9_1 go11_0_1 go11_5_1) rfl rfl (by kernel_rfl)
 have ro11_2 : ∀ B, ∀ (bo11_9_1 : Nat), RA f E B all 7 (bt 12 542) ⟨51, [(8, .obj bo11_9_1 [.r (.v (.slice none 0 0)), .r (.v (.slice none 0 0))]), (43, .r (sl 3 Entry.c ((ents w.applied).take ((srvAt w n).applied.toNat))))] ++ b0⟩ K := by
  intro B bo11_9_1
  refine RA.of2 hall hf hb (RA.stepH (L := [0]) (Tell.of rfl) (by kernel_rfl) (by simp) (RA.each ?_ (RA.each0)))
  refine RO.call rfl rfl (impl_KeepNew_fn ) rfl (.nil) rfl fun go11_0_1 => ?_
  exact RA.to2 hall hf hb (ro11_4 B bo11_9_1 go11_0_1) rfl rfl (by kernel_rfl)
 have ro11_1 : ∀ B, ∀ (go11_0_1 : Nat → Nat → Value), RA f E B all 7 (bt 12 31) ⟨51, [(39, .agg [.w (sl 3 Session.c keepNew.sessions) (go11_0_1 0 0), .w (sl 3 Item.c keepNew.items) (go11_0_1 0 1)]), (43, .r (sl 3 Entry.c ((ents w.applied).take ((srvAt w n).applied.toNat))))] ++ b0⟩ K := by
  intro B go11_0_1
  refine RA.of2 hall hf hb (RA.stepH (L := [5, 9]) (Tell.of rfl) (by kernel_rfl) (by simp) (RA.each ?_ (RA.each ?_ (RA.each0))))
  refine RO.freeze 39 (d' := .agg ((Keep.c keepNew).map .r)) rfl rfl ?_
  refine RO.call rfl rfl (impl_Fold_fn keepNew ((ents w.applied).take ((srvAt w n).applied.toNat)) 1 kn_ok (take_in (ents_in hA)) (by rw [List.length_take]; omega)) rfl (.cons (.agg (.cons (.r .r) (.cons (.r .r) (.nil)))) (.cons (.one (.r .r)) (.cons (.one (.r .r)) (.nil)))) rfl fun go11_5_1 => ?_
  exact RA.to2 hall hf hb (ro11_3 B go11_0_1 go11_5_1) rfl rfl (by kernel_rfl)
  refine RO.alloc (ds := [.r (.v (.slice none 0 0)), .r (.v (.slice none 0 0))]) rfl rfl rfl rfl rfl rfl fun bo11_9_1 => ?_
  exact RA.to2 hall hf hb (ro11_4 B bo11_9_1 go11_0_1) rfl rfl (by kernel_rfl)
 have ro11_0 : ∀ B, RA f E B all 8 (bt 12 30) ⟨51, [(43, .r (sl 3 Entry.c ((ents w.applied).take ((srvAt w n).applied.toNat))))] ++ b0⟩ K := by
  intro B
  refine RA.of2 hall hf hb (RA.stepH (L := [0, 9]) (Tell.of rfl) (by kernel_rfl) (by simp) (RA.each ?_ (RA.each ?_ (RA.each0))))
  refine RO.call rfl rfl (impl_KeepNew_fn ) rfl (.nil) rfl fun go11_0_1 => ?_
  exact RA.to2 hall hf hb (ro11_1 B go11_0_1) rfl rfl (by kernel_rfl)
  refine RO.alloc (ds := [.r (.v (.slice none 0 0)), .r (.v (.slice none 0 0))]) rfl rfl rfl rfl rfl rfl fun bo11_9_1 => ?_
  exact RA.to2 hall hf hb (ro11_2 B bo11_9_1) rfl rfl (by kernel_rfl)
 refine RA.start (by kernel_rfl) (by kernel_rfl) (m := 12) (ls' := (bt 12 0)) ?_
 refine RA.fr XK 51 9 [1,2,3] (bt 12 14) rfl rfl (by kernel_rfl) (Tell.of rfl) ?_
 (conv=>whnf);refine ⟨rfl,fun B=>?_⟩
 refine RA.first (i := 4) (ls' := (bt 12 30)) (Tell.of rfl) (by kernel_rfl) rfl rfl rfl (VF.p (V.takeSZ (m := (srvAt w n).applied.toNat) rfl rfl rfl rfl rfl rfl (by have h9 := inR_of hap; omega) Entry.len (by have h9 := inR_of hap; omega))) ?_
 exact RA.to2 hall hf hb (ro11_0 B) rfl rfl (by kernel_rfl)
 rintro ⟨bo11_9_1, go11_0_1, go11_5_1⟩
 refine CW.g XK 51 [.o 3] rfl rfl rfl ?_
 refine RW.call rfl (impl_SameKeep_fn ((foldR 1 ((ents w.applied).take ((srvAt w n).applied.toNat)) 0 keepNew).1) ((srvAt w n).keep)) rfl (.cons (.agg (.cons (.r .r) (.cons (.r .r) (.nil)))) (.cons (.agg (.cons (.r .r) (.cons (.r .r) (.nil)))) (.nil))) fun g12 => ?_
 refine RW.g XK 51 [.o 1,.p,.e [4]] rfl rfl rfl ?_
 refine CW.ret ?_
 exact Post.one (RV.b rfl (by exact (fd_yes fd2 hap).symm)) (AOs.a rfl (AOs.r AOs.e))
end Go.Proofs.YtdipdkfbaehglaaGreatDoor.Y
