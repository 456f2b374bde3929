import Derived.Test.YtaeagpakloggfaaDoorWFoldsD
namespace Go.Proofs.YtaeagpakloggfaaDoor.Y
open Go Go.RowKit Go.Eng Go.Proofs
set_option maxRecDepth 10000
set_option maxHeartbeats 4000000 in
theorem spec_l15Keep_fn (c : l01Cur) (size : Int) (hc : curOk c) (hs : size ≤ 40) : Eng.Fn E.P 44 [.ob ((l01Cur.c c).map .r), .one (.r (.v (.int .i64 size)))] (.one (.agg ((Keep.c ((keepN c size).1)).map .r))) [.ob ((l01Cur.c ((keepN c size).2)).map .r), .one (.r (.v (.int .i64 size)))] := by
 refine Eng.Fn.intro (E := E) (rvs := [.cell 4 31]) Tryd.func44 rfl rfl rfl (by simp [outSlots, moved, rvSlot, sl]) ?_
 intro B g bo
 refine CW.keep 40 [0,1] rfl ?_;(conv=>whnf);refine ⟨?_⟩
 refine CW.k XK 40 1 [0,1,4] rfl ?_
 (conv=>whnf);intro b1;(conv=>whnf);refine ⟨rfl,?_⟩
 refine CW.seq ?_
 refine CW.region ?_
 refine RW.call rfl (spec_KeepNew_fn ) rfl (.nil) fun g2 => ?_
 refine RW.k XK 40 1 rfl ?_
 (conv=>whnf);refine ⟨rfl,?_⟩
 refine RW.freeze 13 (d' := .agg ((Keep.c keepNew).map .r)) rfl rfl ?_
 refine RW.call rfl (spec_Perform_fn keepNew 1 (⟨1, 0, 0, ⟨#[]⟩, ⟨#[]⟩, 0⟩ : Command) keepNew_ok.okTo) rfl (.cons (.agg (.cons (.r .r) (.cons (.r .r) (.nil)))) (.cons (.one (.r .r)) (.cons (.agg (.cons (.r .r) (.cons (.r .r) (.cons (.r .r) (.cons (.r .r) (.cons (.r .r) (.cons (.r .r) (.nil)))))))) (.nil)))) fun g3 => ?_
 refine RW.k XK 40 8 rfl ?_
 (conv=>whnf);intro b4;(conv=>whnf);refine ⟨rfl,?_⟩
 refine RW.nil ?_
 refine CW.keep 40 [0,1,4,5] rfl ?_;(conv=>whnf);refine ⟨?_⟩
 refine CW.seq ?_
 refine CW.k XK 40 1 [0,1,4,5,8] rfl ?_
 (conv=>whnf);refine ⟨rfl,?_⟩
 refine CW.block ?_
 refine CW.loopI 40 (fun (zz : Nat × l01Cur × Keep) => match zz with | (i, d, k) => [(0, .obj (bo 0) ((l01Cur.c d).map .r)), (1, I size), (4, .obj b1 [.r (.v (.slice none 0 0)), .r (.v (.slice none 0 0))]), (5, .obj b4 ((Keep.c k).map .r)), (8, I (i : Int))]) (fun (zz : Nat × l01Cur × Keep) => match zz with | (i, d, k) => KeP c size i d k) (fun (zz : Nat × l01Cur × Keep) => match zz with | (i, d, k) => size.toNat - i) (0, _, _) rfl (Le.c rfl <| Le.c rfl <| Le.c rfl <| Le.c rfl <| Le.c rfl <| Le.e) (KeP.init hc) ?_
 rintro ⟨i, d, k⟩ hP
 refine CW.seq ?_
 refine CW.seq ?_
 refine CW.region ?_
 refine RW.k XK 40 3 rfl ?_
 (conv=>whnf);refine ⟨rfl,?_⟩
 refine RW.callP (k := 0) (spec_l01Below_fn d size hP.hc) rfl rfl (Nat.le_of_ble_eq_true rfl) (by decide) rfl (DT.r (DT.r (DT.r DT.e))) (AsPs.here rfl (.cons (.one (.r .r)) (.nil))) fun g5 q6 => ?_
 refine RW.k XK 40 1 rfl ?_
 (conv=>whnf);refine ⟨rfl,?_⟩
 refine RW.nil ?_
 refine CW.keep 40 [0,1,4,5,8,23] rfl ?_;(conv=>whnf);refine ⟨?_⟩
 refine CW.cond rfl (fun h7 => ?_) (fun h7 => ?_)
 ·skip
  have hlt := of_decide_eq_true h7
  refine CW.skip ?_
  refine CW.keep 40 [0,1,4,5,8] rfl ?_;(conv=>whnf);refine ⟨?_⟩
  refine CW.seq ?_
  refine CW.block ?_
  refine CW.anyJ2 (fc := [(4, b1, [.slice none 0 0, .slice none 0 0])]) (L0 := [(1, I size), (4, .obj b1 [.r (.v (.slice none 0 0)), .r (.v (.slice none 0 0))]), (5, .obj b4 ((Keep.c k).map .r)), (8, I (i : Int))]) 40 (fun (zz : Nat × (Nat → Nat → Value) × (Nat → Nat → Value) × (Nat → Value)) => match zz with | (bo8_11_1, go8_5_1, go8_6_1, qo8_5_2) => [(0, .obj (bo 0) ((l01Cur.c ((commandN ((belowN d size).2) k).2)).map .r)), (9, .obj bo8_11_1 ((Keep.c ((perfK k (IntKind.i64.wrap ((i : Int) + 2)) ((commandN ((belowN d size).2) k).1)).1)).map .r)), (11, Bo ((perfK k (IntKind.i64.wrap ((i : Int) + 2)) ((commandN ((belowN d size).2) k).1)).2.2))]) (fun all hall f hf b0 hb K hK => ?_) ?_
  ·skip
   have ro8_33 : ∀ B, ∀ (bo8_11_1 : Nat), ∀ (go8_5_1 : Nat → Nat → Value), ∀ (go8_6_1 : Nat → Nat → Value), ∀ (qo8_5_2 : Nat → Value), RA f E B all 0 (bt 15 32767) ⟨40, [(0, .obj (bo 0) ((l01Cur.c ((commandN ((belowN d size).2) k).2)).map .r)), (9, .obj bo8_11_1 ((Keep.c ((perfK k (IntKind.i64.wrap ((i : Int) + 2)) ((commandN ((belowN d size).2) k).1)).1)).map .r)), (11, Bo ((perfK k (IntKind.i64.wrap ((i : Int) + 2)) ((commandN ((belowN d size).2) k).1)).2.2))] ++ b0⟩ K := by
    intro B bo8_11_1 go8_5_1 go8_6_1 qo8_5_2
    exact RA.of2 hall hf hb (RA.finH (Tell.of rfl) (by kernel_rfl) (hK (bo8_11_1, go8_5_1, go8_6_1, qo8_5_2) _ rfl (Le.of rfl)))
   have ro8_32 : ∀ B, ∀ (bo8_11_1 : Nat), ∀ (go8_5_1 : Nat → Nat → Value), ∀ (go8_6_1 : Nat → Nat → Value), ∀ (qo8_5_2 : Nat → Value), RA f E B all 2 (bt 15 15359) ⟨40, [(0, .obj (bo 0) ((l01Cur.c ((commandN ((belowN d size).2) k).2)).map .r)), (9, .obj bo8_11_1 ((Keep.c ((perfK k (IntKind.i64.wrap ((i : Int) + 2)) ((commandN ((belowN d size).2) k).1)).1)).map .r)), (26, .tup [.u, .u, Bo ((perfK k (IntKind.i64.wrap ((i : Int) + 2)) ((commandN ((belowN d size).2) k).1)).2.2)])] ++ b0⟩ K := by
    intro B bo8_11_1 go8_5_1 go8_6_1 qo8_5_2
    refine RA.of2 hall hf hb (RA.stepH (L := [10]) (Tell.of rfl) (by kernel_rfl) (by simp) (RA.each ?_ (RA.each0)))
    ·skip
     refine RO.extract (d := Bo ((perfK k (IntKind.i64.wrap ((i : Int) + 2)) ((commandN ((belowN d size).2) k).1)).2.2)) rfl rfl rfl rfl rfl (by decide) (Nat.le_of_ble_eq_true rfl) rfl rfl ?_
     refine RA.fr XK 40 0 [14] (bt 15 32767) rfl rfl (by kernel_rfl) (Tell.of rfl) ?_
     (conv=>whnf);refine ⟨rfl,fun B=>?_⟩
     exact RA.to2 hall hf hb (ro8_33 B bo8_11_1 go8_5_1 go8_6_1 qo8_5_2) rfl rfl (by kernel_rfl)
   have ro8_31 : ∀ B, ∀ (bo8_11_1 : Nat), ∀ (go8_5_1 : Nat → Nat → Value), ∀ (go8_6_1 : Nat → Nat → Value), ∀ (qo8_5_2 : Nat → Value), RA f E B all 3 (bt 15 7679) ⟨40, [(0, .obj (bo 0) ((l01Cur.c ((commandN ((belowN d size).2) k).2)).map .r)), (9, .obj bo8_11_1 ((Keep.c ((perfK k (IntKind.i64.wrap ((i : Int) + 2)) ((commandN ((belowN d size).2) k).1)).1)).map .r)), (26, .tup [.u, S ((perfK k (IntKind.i64.wrap ((i : Int) + 2)) ((commandN ((belowN d size).2) k).1)).2.1), .u]), (36, Bo ((perfK k (IntKind.i64.wrap ((i : Int) + 2)) ((commandN ((belowN d size).2) k).1)).2.2))] ++ b0⟩ K := by
    intro B bo8_11_1 go8_5_1 go8_6_1 qo8_5_2
    refine RA.of2 hall hf hb (RA.stepH (L := [9]) (Tell.of rfl) (by kernel_rfl) (by simp) (RA.each ?_ (RA.each0)))
    ·skip
     refine RO.extract (d := S ((perfK k (IntKind.i64.wrap ((i : Int) + 2)) ((commandN ((belowN d size).2) k).1)).2.1)) rfl rfl rfl rfl rfl (by decide) (Nat.le_of_ble_eq_true rfl) rfl rfl ?_
     refine RA.fr XK 40 0 [13,14] (bt 15 32767) rfl rfl (by kernel_rfl) (Tell.of rfl) ?_
     (conv=>whnf);refine ⟨rfl,fun B=>?_⟩
     exact RA.to2 hall hf hb (ro8_33 B bo8_11_1 go8_5_1 go8_6_1 qo8_5_2) rfl rfl (by kernel_rfl)
   have ro8_30 : ∀ B, ∀ (bo8_11_1 : Nat), ∀ (go8_5_1 : Nat → Nat → Value), ∀ (go8_6_1 : Nat → Nat → Value), ∀ (qo8_5_2 : Nat → Value), RA f E B all 3 (bt 15 4095) ⟨40, [(0, .obj (bo 0) ((l01Cur.c ((commandN ((belowN d size).2) k).2)).map .r)), (9, .obj bo8_11_1 [.r (.v (.slice none 0 0)), .r (.v (.slice none 0 0))]), (34, .agg ((Keep.c ((perfK k (IntKind.i64.wrap ((i : Int) + 2)) ((commandN ((belowN d size).2) k).1)).1)).map .r)), (35, S ((perfK k (IntKind.i64.wrap ((i : Int) + 2)) ((commandN ((belowN d size).2) k).1)).2.1)), (36, Bo ((perfK k (IntKind.i64.wrap ((i : Int) + 2)) ((commandN ((belowN d size).2) k).1)).2.2))] ++ b0⟩ K := by
    intro B bo8_11_1 go8_5_1 go8_6_1 qo8_5_2
    refine RA.of2 hall hf hb (RA.stepH (L := [12]) (Tell.of rfl) (by kernel_rfl) (by simp) (RA.each ?_ (RA.each0)))
    ·skip
     refine RO.storeAgg (es := ((Keep.c ((perfK k (IntKind.i64.wrap ((i : Int) + 2)) ((commandN ((belowN d size).2) k).1)).1)).map .r)) rfl rfl rfl rfl rfl rfl rfl rfl rfl rfl (Nat.le_of_ble_eq_true rfl) rfl ?_
     refine RA.fr XK 40 0 [13,14] (bt 15 32767) rfl rfl (by kernel_rfl) (Tell.of rfl) ?_
     (conv=>whnf);refine ⟨rfl,fun B=>?_⟩
     exact RA.to2 hall hf hb (ro8_33 B bo8_11_1 go8_5_1 go8_6_1 qo8_5_2) rfl rfl (by kernel_rfl)
   have ro8_29 : ∀ B, ∀ (bo8_11_1 : Nat), ∀ (go8_5_1 : Nat → Nat → Value), ∀ (go8_6_1 : Nat → Nat → Value), ∀ (qo8_5_2 : Nat → Value), RA f E B all 4 (bt 15 3839) ⟨40, [(0, .obj (bo 0) ((l01Cur.c ((commandN ((belowN d size).2) k).2)).map .r)), (9, .obj bo8_11_1 [.r (.v (.slice none 0 0)), .r (.v (.slice none 0 0))]), (26, .tup [.agg ((Keep.c ((perfK k (IntKind.i64.wrap ((i : Int) + 2)) ((commandN ((belowN d size).2) k).1)).1)).map .r), .u, .u]), (35, S ((perfK k (IntKind.i64.wrap ((i : Int) + 2)) ((commandN ((belowN d size).2) k).1)).2.1)), (36, Bo ((perfK k (IntKind.i64.wrap ((i : Int) + 2)) ((commandN ((belowN d size).2) k).1)).2.2))] ++ b0⟩ K := by
    intro B bo8_11_1 go8_5_1 go8_6_1 qo8_5_2
    refine RA.of2 hall hf hb (RA.stepH (L := [8]) (Tell.of rfl) (by kernel_rfl) (by simp) (RA.each ?_ (RA.each0)))
    ·skip
     refine RO.extract (d := .agg ((Keep.c ((perfK k (IntKind.i64.wrap ((i : Int) + 2)) ((commandN ((belowN d size).2) k).1)).1)).map .r)) rfl rfl rfl rfl rfl (by decide) (Nat.le_of_ble_eq_true rfl) rfl rfl ?_
     exact RA.to2 hall hf hb (ro8_30 B bo8_11_1 go8_5_1 go8_6_1 qo8_5_2) rfl rfl (by kernel_rfl)
   have ro8_28 : ∀ B, ∀ (bo8_11_1 : Nat), ∀ (go8_5_1 : Nat → Nat → Value), ∀ (go8_6_1 : Nat → Nat → Value), ∀ (qo8_5_2 : Nat → Value), RA f E B all 4 (bt 15 6655) ⟨40, [(0, .obj (bo 0) ((l01Cur.c ((commandN ((belowN d size).2) k).2)).map .r)), (9, .obj bo8_11_1 ((Keep.c ((perfK k (IntKind.i64.wrap ((i : Int) + 2)) ((commandN ((belowN d size).2) k).1)).1)).map .r)), (26, .tup [.u, S ((perfK k (IntKind.i64.wrap ((i : Int) + 2)) ((commandN ((belowN d size).2) k).1)).2.1), Bo ((perfK k (IntKind.i64.wrap ((i : Int) + 2)) ((commandN ((belowN d size).2) k).1)).2.2)])] ++ b0⟩ K := by
    intro B bo8_11_1 go8_5_1 go8_6_1 qo8_5_2
    refine RA.of2 hall hf hb (RA.stepH (L := [9, 10]) (Tell.of rfl) (by kernel_rfl) (by simp) (RA.each ?_ (RA.each ?_ (RA.each0))))
    ·skip
     refine RO.extract (d := S ((perfK k (IntKind.i64.wrap ((i : Int) + 2)) ((commandN ((belowN d size).2) k).1)).2.1)) rfl rfl rfl rfl rfl (by decide) (Nat.le_of_ble_eq_true rfl) rfl rfl ?_
     refine RA.fr XK 40 2 [13] (bt 15 15359) rfl rfl (by kernel_rfl) (Tell.of rfl) ?_
     (conv=>whnf);refine ⟨rfl,fun B=>?_⟩
     exact RA.to2 hall hf hb (ro8_32 B bo8_11_1 go8_5_1 go8_6_1 qo8_5_2) rfl rfl (by kernel_rfl)
    ·skip
     refine RO.extract (d := Bo ((perfK k (IntKind.i64.wrap ((i : Int) + 2)) ((commandN ((belowN d size).2) k).1)).2.2)) rfl rfl rfl rfl rfl (by decide) (Nat.le_of_ble_eq_true rfl) rfl rfl ?_
     exact RA.to2 hall hf hb (ro8_31 B bo8_11_1 go8_5_1 go8_6_1 qo8_5_2) rfl rfl (by kernel_rfl)
   have ro8_27 : ∀ B, ∀ (bo8_11_1 : Nat), ∀ (go8_5_1 : Nat → Nat → Value), ∀ (go8_6_1 : Nat → Nat → Value), ∀ (qo8_5_2 : Nat → Value), RA f E B all 4 (bt 15 3583) ⟨40, [(0, .obj (bo 0) ((l01Cur.c ((commandN ((belowN d size).2) k).2)).map .r)), (9, .obj bo8_11_1 [.r (.v (.slice none 0 0)), .r (.v (.slice none 0 0))]), (26, .tup [.u, S ((perfK k (IntKind.i64.wrap ((i : Int) + 2)) ((commandN ((belowN d size).2) k).1)).2.1), .u]), (34, .agg ((Keep.c ((perfK k (IntKind.i64.wrap ((i : Int) + 2)) ((commandN ((belowN d size).2) k).1)).1)).map .r)), (36, Bo ((perfK k (IntKind.i64.wrap ((i : Int) + 2)) ((commandN ((belowN d size).2) k).1)).2.2))] ++ b0⟩ K := by
    intro B bo8_11_1 go8_5_1 go8_6_1 qo8_5_2
    refine RA.of2 hall hf hb (RA.stepH (L := [9, 12]) (Tell.of rfl) (by kernel_rfl) (by simp) (RA.each ?_ (RA.each ?_ (RA.each0))))
    ·skip
     refine RO.extract (d := S ((perfK k (IntKind.i64.wrap ((i : Int) + 2)) ((commandN ((belowN d size).2) k).1)).2.1)) rfl rfl rfl rfl rfl (by decide) (Nat.le_of_ble_eq_true rfl) rfl rfl ?_
     exact RA.to2 hall hf hb (ro8_30 B bo8_11_1 go8_5_1 go8_6_1 qo8_5_2) rfl rfl (by kernel_rfl)
    ·skip
     refine RO.storeAgg (es := ((Keep.c ((perfK k (IntKind.i64.wrap ((i : Int) + 2)) ((commandN ((belowN d size).2) k).1)).1)).map .r)) rfl rfl rfl rfl rfl rfl rfl rfl rfl rfl (Nat.le_of_ble_eq_true rfl) rfl ?_
     exact RA.to2 hall hf hb (ro8_31 B bo8_11_1 go8_5_1 go8_6_1 qo8_5_2) rfl rfl (by kernel_rfl)
   have ro8_26 : ∀ B, ∀ (bo8_11_1 : Nat), ∀ (go8_5_1 : Nat → Nat → Value), ∀ (go8_6_1 : Nat → Nat → Value), ∀ (qo8_5_2 : Nat → Value), RA f E B all 4 (bt 15 3071) ⟨40, [(0, .obj (bo 0) ((l01Cur.c ((commandN ((belowN d size).2) k).2)).map .r)), (9, .obj bo8_11_1 [.r (.v (.slice none 0 0)), .r (.v (.slice none 0 0))]), (26, .tup [.u, .u, Bo ((perfK k (IntKind.i64.wrap ((i : Int) + 2)) ((commandN ((belowN d size).2) k).1)).2.2)]), (34, .agg ((Keep.c ((perfK k (IntKind.i64.wrap ((i : Int) + 2)) ((commandN ((belowN d size).2) k).1)).1)).map .r)), (35, S ((perfK k (IntKind.i64.wrap ((i : Int) + 2)) ((commandN ((belowN d size).2) k).1)).2.1))] ++ b0⟩ K := by
    intro B bo8_11_1 go8_5_1 go8_6_1 qo8_5_2
    refine RA.of2 hall hf hb (RA.stepH (L := [10, 12]) (Tell.of rfl) (by kernel_rfl) (by simp) (RA.each ?_ (RA.each ?_ (RA.each0))))
    ·skip
     refine RO.extract (d := Bo ((perfK k (IntKind.i64.wrap ((i : Int) + 2)) ((commandN ((belowN d size).2) k).1)).2.2)) rfl rfl rfl rfl rfl (by decide) (Nat.le_of_ble_eq_true rfl) rfl rfl ?_
     exact RA.to2 hall hf hb (ro8_30 B bo8_11_1 go8_5_1 go8_6_1 qo8_5_2) rfl rfl (by kernel_rfl)
    ·skip
     refine RO.storeAgg (es := ((Keep.c ((perfK k (IntKind.i64.wrap ((i : Int) + 2)) ((commandN ((belowN d size).2) k).1)).1)).map .r)) rfl rfl rfl rfl rfl rfl rfl rfl rfl rfl (Nat.le_of_ble_eq_true rfl) rfl ?_
     refine RA.fr XK 40 2 [13] (bt 15 15359) rfl rfl (by kernel_rfl) (Tell.of rfl) ?_
     (conv=>whnf);refine ⟨rfl,fun B=>?_⟩
     exact RA.to2 hall hf hb (ro8_32 B bo8_11_1 go8_5_1 go8_6_1 qo8_5_2) rfl rfl (by kernel_rfl)
   have ro8_25 : ∀ B, ∀ (go8_5_1 : Nat → Nat → Value), ∀ (go8_6_1 : Nat → Nat → Value), ∀ (qo8_5_2 : Nat → Value), RA f E B all 4 (bt 15 2047) ⟨40, [(0, .obj (bo 0) ((l01Cur.c ((commandN ((belowN d size).2) k).2)).map .r)), (34, .agg ((Keep.c ((perfK k (IntKind.i64.wrap ((i : Int) + 2)) ((commandN ((belowN d size).2) k).1)).1)).map .r)), (35, S ((perfK k (IntKind.i64.wrap ((i : Int) + 2)) ((commandN ((belowN d size).2) k).1)).2.1)), (36, Bo ((perfK k (IntKind.i64.wrap ((i : Int) + 2)) ((commandN ((belowN d size).2) k).1)).2.2))] ++ b0⟩ K := by
    intro B go8_5_1 go8_6_1 qo8_5_2
    refine RA.of2 hall hf hb (RA.stepH (L := [11]) (Tell.of rfl) (by kernel_rfl) (by simp) (RA.each ?_ (RA.each0)))
    ·skip
     refine RO.alloc (ds := [.r (.v (.slice none 0 0)), .r (.v (.slice none 0 0))]) rfl rfl rfl rfl rfl rfl fun bo8_11_1 => ?_
     exact RA.to2 hall hf hb (ro8_30 B bo8_11_1 go8_5_1 go8_6_1 qo8_5_2) rfl rfl (by kernel_rfl)
   have ro8_24 : ∀ B, ∀ (bo8_11_1 : Nat), ∀ (go8_5_1 : Nat → Nat → Value), ∀ (go8_6_1 : Nat → Nat → Value), ∀ (qo8_5_2 : Nat → Value), RA f E B all 5 (bt 15 3327) ⟨40, [(0, .obj (bo 0) ((l01Cur.c ((commandN ((belowN d size).2) k).2)).map .r)), (9, .obj bo8_11_1 [.r (.v (.slice none 0 0)), .r (.v (.slice none 0 0))]), (26, .tup [.agg ((Keep.c ((perfK k (IntKind.i64.wrap ((i : Int) + 2)) ((commandN ((belowN d size).2) k).1)).1)).map .r), S ((perfK k (IntKind.i64.wrap ((i : Int) + 2)) ((commandN ((belowN d size).2) k).1)).2.1), .u]), (36, Bo ((perfK k (IntKind.i64.wrap ((i : Int) + 2)) ((commandN ((belowN d size).2) k).1)).2.2))] ++ b0⟩ K := by
    intro B bo8_11_1 go8_5_1 go8_6_1 qo8_5_2
    refine RA.of2 hall hf hb (RA.stepH (L := [8, 9]) (Tell.of rfl) (by kernel_rfl) (by simp) (RA.each ?_ (RA.each ?_ (RA.each0))))
    ·skip
     refine RO.extract (d := .agg ((Keep.c ((perfK k (IntKind.i64.wrap ((i : Int) + 2)) ((commandN ((belowN d size).2) k).1)).1)).map .r)) rfl rfl rfl rfl rfl (by decide) (Nat.le_of_ble_eq_true rfl) rfl rfl ?_
     exact RA.to2 hall hf hb (ro8_27 B bo8_11_1 go8_5_1 go8_6_1 qo8_5_2) rfl rfl (by kernel_rfl)
    ·skip
     refine RO.extract (d := S ((perfK k (IntKind.i64.wrap ((i : Int) + 2)) ((commandN ((belowN d size).2) k).1)).2.1)) rfl rfl rfl rfl rfl (by decide) (Nat.le_of_ble_eq_true rfl) rfl rfl ?_
     exact RA.to2 hall hf hb (ro8_29 B bo8_11_1 go8_5_1 go8_6_1 qo8_5_2) rfl rfl (by kernel_rfl)
   have ro8_23 : ∀ B, ∀ (bo8_11_1 : Nat), ∀ (go8_5_1 : Nat → Nat → Value), ∀ (go8_6_1 : Nat → Nat → Value), ∀ (qo8_5_2 : Nat → Value), RA f E B all 5 (bt 15 2815) ⟨40, [(0, .obj (bo 0) ((l01Cur.c ((commandN ((belowN d size).2) k).2)).map .r)), (9, .obj bo8_11_1 [.r (.v (.slice none 0 0)), .r (.v (.slice none 0 0))]), (26, .tup [.agg ((Keep.c ((perfK k (IntKind.i64.wrap ((i : Int) + 2)) ((commandN ((belowN d size).2) k).1)).1)).map .r), .u, Bo ((perfK k (IntKind.i64.wrap ((i : Int) + 2)) ((commandN ((belowN d size).2) k).1)).2.2)]), (35, S ((perfK k (IntKind.i64.wrap ((i : Int) + 2)) ((commandN ((belowN d size).2) k).1)).2.1))] ++ b0⟩ K := by
    intro B bo8_11_1 go8_5_1 go8_6_1 qo8_5_2
    refine RA.of2 hall hf hb (RA.stepH (L := [8, 10]) (Tell.of rfl) (by kernel_rfl) (by simp) (RA.each ?_ (RA.each ?_ (RA.each0))))
    ·skip
     refine RO.extract (d := .agg ((Keep.c ((perfK k (IntKind.i64.wrap ((i : Int) + 2)) ((commandN ((belowN d size).2) k).1)).1)).map .r)) rfl rfl rfl rfl rfl (by decide) (Nat.le_of_ble_eq_true rfl) rfl rfl ?_
     exact RA.to2 hall hf hb (ro8_26 B bo8_11_1 go8_5_1 go8_6_1 qo8_5_2) rfl rfl (by kernel_rfl)
    ·skip
     refine RO.extract (d := Bo ((perfK k (IntKind.i64.wrap ((i : Int) + 2)) ((commandN ((belowN d size).2) k).1)).2.2)) rfl rfl rfl rfl rfl (by decide) (Nat.le_of_ble_eq_true rfl) rfl rfl ?_
     exact RA.to2 hall hf hb (ro8_29 B bo8_11_1 go8_5_1 go8_6_1 qo8_5_2) rfl rfl (by kernel_rfl)
   have ro8_22 : ∀ B, ∀ (go8_5_1 : Nat → Nat → Value), ∀ (go8_6_1 : Nat → Nat → Value), ∀ (qo8_5_2 : Nat → Value), RA f E B all 5 (bt 15 1791) ⟨40, [(0, .obj (bo 0) ((l01Cur.c ((commandN ((belowN d size).2) k).2)).map .r)), (26, .tup [.agg ((Keep.c ((perfK k (IntKind.i64.wrap ((i : Int) + 2)) ((commandN ((belowN d size).2) k).1)).1)).map .r), .u, .u]), (35, S ((perfK k (IntKind.i64.wrap ((i : Int) + 2)) ((commandN ((belowN d size).2) k).1)).2.1)), (36, Bo ((perfK k (IntKind.i64.wrap ((i : Int) + 2)) ((commandN ((belowN d size).2) k).1)).2.2))] ++ b0⟩ K := by
    intro B go8_5_1 go8_6_1 qo8_5_2
    refine RA.of2 hall hf hb (RA.stepH (L := [8, 11]) (Tell.of rfl) (by kernel_rfl) (by simp) (RA.each ?_ (RA.each ?_ (RA.each0))))
    ·skip
     refine RO.extract (d := .agg ((Keep.c ((perfK k (IntKind.i64.wrap ((i : Int) + 2)) ((commandN ((belowN d size).2) k).1)).1)).map .r)) rfl rfl rfl rfl rfl (by decide) (Nat.le_of_ble_eq_true rfl) rfl rfl ?_
     exact RA.to2 hall hf hb (ro8_25 B go8_5_1 go8_6_1 qo8_5_2) rfl rfl (by kernel_rfl)
    ·skip
     refine RO.alloc (ds := [.r (.v (.slice none 0 0)), .r (.v (.slice none 0 0))]) rfl rfl rfl rfl rfl rfl fun bo8_11_1 => ?_
     exact RA.to2 hall hf hb (ro8_29 B bo8_11_1 go8_5_1 go8_6_1 qo8_5_2) rfl rfl (by kernel_rfl)
   have ro8_21 : ∀ B, ∀ (bo8_11_1 : Nat), ∀ (go8_5_1 : Nat → Nat → Value), ∀ (go8_6_1 : Nat → Nat → Value), ∀ (qo8_5_2 : Nat → Value), RA f E B all 5 (bt 15 2559) ⟨40, [(0, .obj (bo 0) ((l01Cur.c ((commandN ((belowN d size).2) k).2)).map .r)), (9, .obj bo8_11_1 [.r (.v (.slice none 0 0)), .r (.v (.slice none 0 0))]), (26, .tup [.u, S ((perfK k (IntKind.i64.wrap ((i : Int) + 2)) ((commandN ((belowN d size).2) k).1)).2.1), Bo ((perfK k (IntKind.i64.wrap ((i : Int) + 2)) ((commandN ((belowN d size).2) k).1)).2.2)]), (34, .agg ((Keep.c ((perfK k (IntKind.i64.wrap ((i : Int) + 2)) ((commandN ((belowN d size).2) k).1)).1)).map .r))] ++ b0⟩ K := by
    intro B bo8_11_1 go8_5_1 go8_6_1 qo8_5_2
    refine RA.of2 hall hf hb (RA.stepH (L := [9, 10, 12]) (Tell.of rfl) (by kernel_rfl) (by simp) (RA.each ?_ (RA.each ?_ (RA.each ?_ (RA.each0)))))
    ·skip
     refine RO.extract (d := S ((perfK k (IntKind.i64.wrap ((i : Int) + 2)) ((commandN ((belowN d size).2) k).1)).2.1)) rfl rfl rfl rfl rfl (by decide) (Nat.le_of_ble_eq_true rfl) rfl rfl ?_
     exact RA.to2 hall hf hb (ro8_26 B bo8_11_1 go8_5_1 go8_6_1 qo8_5_2) rfl rfl (by kernel_rfl)
    ·skip
     refine RO.extract (d := Bo ((perfK k (IntKind.i64.wrap ((i : Int) + 2)) ((commandN ((belowN d size).2) k).1)).2.2)) rfl rfl rfl rfl rfl (by decide) (Nat.le_of_ble_eq_true rfl) rfl rfl ?_
     exact RA.to2 hall hf hb (ro8_27 B bo8_11_1 go8_5_1 go8_6_1 qo8_5_2) rfl rfl (by kernel_rfl)
    ·skip
     refine RO.storeAgg (es := ((Keep.c ((perfK k (IntKind.i64.wrap ((i : Int) + 2)) ((commandN ((belowN d size).2) k).1)).1)).map .r)) rfl rfl rfl rfl rfl rfl rfl rfl rfl rfl (Nat.le_of_ble_eq_true rfl) rfl ?_
     exact RA.to2 hall hf hb (ro8_28 B bo8_11_1 go8_5_1 go8_6_1 qo8_5_2) rfl rfl (by kernel_rfl)
   have ro8_20 : ∀ B, ∀ (go8_5_1 : Nat → Nat → Value), ∀ (go8_6_1 : Nat → Nat → Value), ∀ (qo8_5_2 : Nat → Value), RA f E B all 5 (bt 15 1535) ⟨40, [(0, .obj (bo 0) ((l01Cur.c ((commandN ((belowN d size).2) k).2)).map .r)), (26, .tup [.u, S ((perfK k (IntKind.i64.wrap ((i : Int) + 2)) ((commandN ((belowN d size).2) k).1)).2.1), .u]), (34, .agg ((Keep.c ((perfK k (IntKind.i64.wrap ((i : Int) + 2)) ((commandN ((belowN d size).2) k).1)).1)).map .r)), (36, Bo ((perfK k (IntKind.i64.wrap ((i : Int) + 2)) ((commandN ((belowN d size).2) k).1)).2.2))] ++ b0⟩ K := by
    intro B go8_5_1 go8_6_1 qo8_5_2
    refine RA.of2 hall hf hb (RA.stepH (L := [9, 11]) (Tell.of rfl) (by kernel_rfl) (by simp) (RA.each ?_ (RA.each ?_ (RA.each0))))
    ·skip
     refine RO.extract (d := S ((perfK k (IntKind.i64.wrap ((i : Int) + 2)) ((commandN ((belowN d size).2) k).1)).2.1)) rfl rfl rfl rfl rfl (by decide) (Nat.le_of_ble_eq_true rfl) rfl rfl ?_
     exact RA.to2 hall hf hb (ro8_25 B go8_5_1 go8_6_1 qo8_5_2) rfl rfl (by kernel_rfl)
    ·skip
     refine RO.alloc (ds := [.r (.v (.slice none 0 0)), .r (.v (.slice none 0 0))]) rfl rfl rfl rfl rfl rfl fun bo8_11_1 => ?_
     exact RA.to2 hall hf hb (ro8_27 B bo8_11_1 go8_5_1 go8_6_1 qo8_5_2) rfl rfl (by kernel_rfl)
   have ro8_19 : ∀ B, ∀ (go8_5_1 : Nat → Nat → Value), ∀ (go8_6_1 : Nat → Nat → Value), ∀ (qo8_5_2 : Nat → Value), RA f E B all 5 (bt 15 1023) ⟨40, [(0, .obj (bo 0) ((l01Cur.c ((commandN ((belowN d size).2) k).2)).map .r)), (26, .tup [.u, .u, Bo ((perfK k (IntKind.i64.wrap ((i : Int) + 2)) ((commandN ((belowN d size).2) k).1)).2.2)]), (34, .agg ((Keep.c ((perfK k (IntKind.i64.wrap ((i : Int) + 2)) ((commandN ((belowN d size).2) k).1)).1)).map .r)), (35, S ((perfK k (IntKind.i64.wrap ((i : Int) + 2)) ((commandN ((belowN d size).2) k).1)).2.1))] ++ b0⟩ K := by
    intro B go8_5_1 go8_6_1 qo8_5_2
    refine RA.of2 hall hf hb (RA.stepH (L := [10, 11]) (Tell.of rfl) (by kernel_rfl) (by simp) (RA.each ?_ (RA.each ?_ (RA.each0))))
    ·skip
     refine RO.extract (d := Bo ((perfK k (IntKind.i64.wrap ((i : Int) + 2)) ((commandN ((belowN d size).2) k).1)).2.2)) rfl rfl rfl rfl rfl (by decide) (Nat.le_of_ble_eq_true rfl) rfl rfl ?_
     exact RA.to2 hall hf hb (ro8_25 B go8_5_1 go8_6_1 qo8_5_2) rfl rfl (by kernel_rfl)
    ·skip
     refine RO.alloc (ds := [.r (.v (.slice none 0 0)), .r (.v (.slice none 0 0))]) rfl rfl rfl rfl rfl rfl fun bo8_11_1 => ?_
     exact RA.to2 hall hf hb (ro8_26 B bo8_11_1 go8_5_1 go8_6_1 qo8_5_2) rfl rfl (by kernel_rfl)
   have ro8_18 : ∀ B, ∀ (bo8_11_1 : Nat), ∀ (go8_5_1 : Nat → Nat → Value), ∀ (go8_6_1 : Nat → Nat → Value), ∀ (qo8_5_2 : Nat → Value), RA f E B all 6 (bt 15 2303) ⟨40, [(0, .obj (bo 0) ((l01Cur.c ((commandN ((belowN d size).2) k).2)).map .r)), (9, .obj bo8_11_1 [.r (.v (.slice none 0 0)), .r (.v (.slice none 0 0))]), (26, .tup [.agg ((Keep.c ((perfK k (IntKind.i64.wrap ((i : Int) + 2)) ((commandN ((belowN d size).2) k).1)).1)).map .r), S ((perfK k (IntKind.i64.wrap ((i : Int) + 2)) ((commandN ((belowN d size).2) k).1)).2.1), Bo ((perfK k (IntKind.i64.wrap ((i : Int) + 2)) ((commandN ((belowN d size).2) k).1)).2.2)])] ++ b0⟩ K := by
    intro B bo8_11_1 go8_5_1 go8_6_1 qo8_5_2
    refine RA.of2 hall hf hb (RA.stepH (L := [8, 9, 10]) (Tell.of rfl) (by kernel_rfl) (by simp) (RA.each ?_ (RA.each ?_ (RA.each ?_ (RA.each0)))))
    ·skip
     refine RO.extract (d := .agg ((Keep.c ((perfK k (IntKind.i64.wrap ((i : Int) + 2)) ((commandN ((belowN d size).2) k).1)).1)).map .r)) rfl rfl rfl rfl rfl (by decide) (Nat.le_of_ble_eq_true rfl) rfl rfl ?_
     exact RA.to2 hall hf hb (ro8_21 B bo8_11_1 go8_5_1 go8_6_1 qo8_5_2) rfl rfl (by kernel_rfl)
    ·skip
     refine RO.extract (d := S ((perfK k (IntKind.i64.wrap ((i : Int) + 2)) ((commandN ((belowN d size).2) k).1)).2.1)) rfl rfl rfl rfl rfl (by decide) (Nat.le_of_ble_eq_true rfl) rfl rfl ?_
     exact RA.to2 hall hf hb (ro8_23 B bo8_11_1 go8_5_1 go8_6_1 qo8_5_2) rfl rfl (by kernel_rfl)
    ·skip
     refine RO.extract (d := Bo ((perfK k (IntKind.i64.wrap ((i : Int) + 2)) ((commandN ((belowN d size).2) k).1)).2.2)) rfl rfl rfl rfl rfl (by decide) (Nat.le_of_ble_eq_true rfl) rfl rfl ?_
     exact RA.to2 hall hf hb (ro8_24 B bo8_11_1 go8_5_1 go8_6_1 qo8_5_2) rfl rfl (by kernel_rfl)
   have ro8_17 : ∀ B, ∀ (go8_5_1 : Nat → Nat → Value), ∀ (go8_6_1 : Nat → Nat → Value), ∀ (qo8_5_2 : Nat → Value), RA f E B all 6 (bt 15 1279) ⟨40, [(0, .obj (bo 0) ((l01Cur.c ((commandN ((belowN d size).2) k).2)).map .r)), (26, .tup [.agg ((Keep.c ((perfK k (IntKind.i64.wrap ((i : Int) + 2)) ((commandN ((belowN d size).2) k).1)).1)).map .r), S ((perfK k (IntKind.i64.wrap ((i : Int) + 2)) ((commandN ((belowN d size).2) k).1)).2.1), .u]), (36, Bo ((perfK k (IntKind.i64.wrap ((i : Int) + 2)) ((commandN ((belowN d size).2) k).1)).2.2))] ++ b0⟩ K := by
    intro B go8_5_1 go8_6_1 qo8_5_2
    refine RA.of2 hall hf hb (RA.stepH (L := [8, 9, 11]) (Tell.of rfl) (by kernel_rfl) (by simp) (RA.each ?_ (RA.each ?_ (RA.each ?_ (RA.each0)))))
    ·skip
     refine RO.extract (d := .agg ((Keep.c ((perfK k (IntKind.i64.wrap ((i : Int) + 2)) ((commandN ((belowN d size).2) k).1)).1)).map .r)) rfl rfl rfl rfl rfl (by decide) (Nat.le_of_ble_eq_true rfl) rfl rfl ?_
     exact RA.to2 hall hf hb (ro8_20 B go8_5_1 go8_6_1 qo8_5_2) rfl rfl (by kernel_rfl)
    ·skip
     refine RO.extract (d := S ((perfK k (IntKind.i64.wrap ((i : Int) + 2)) ((commandN ((belowN d size).2) k).1)).2.1)) rfl rfl rfl rfl rfl (by decide) (Nat.le_of_ble_eq_true rfl) rfl rfl ?_
     exact RA.to2 hall hf hb (ro8_22 B go8_5_1 go8_6_1 qo8_5_2) rfl rfl (by kernel_rfl)
    ·skip
     refine RO.alloc (ds := [.r (.v (.slice none 0 0)), .r (.v (.slice none 0 0))]) rfl rfl rfl rfl rfl rfl fun bo8_11_1 => ?_
     exact RA.to2 hall hf hb (ro8_24 B bo8_11_1 go8_5_1 go8_6_1 qo8_5_2) rfl rfl (by kernel_rfl)
   have ro8_16 : ∀ B, ∀ (go8_5_1 : Nat → Nat → Value), ∀ (go8_6_1 : Nat → Nat → Value), ∀ (qo8_5_2 : Nat → Value), RA f E B all 6 (bt 15 767) ⟨40, [(0, .obj (bo 0) ((l01Cur.c ((commandN ((belowN d size).2) k).2)).map .r)), (26, .tup [.agg ((Keep.c ((perfK k (IntKind.i64.wrap ((i : Int) + 2)) ((commandN ((belowN d size).2) k).1)).1)).map .r), .u, Bo ((perfK k (IntKind.i64.wrap ((i : Int) + 2)) ((commandN ((belowN d size).2) k).1)).2.2)]), (35, S ((perfK k (IntKind.i64.wrap ((i : Int) + 2)) ((commandN ((belowN d size).2) k).1)).2.1))] ++ b0⟩ K := by
    intro B go8_5_1 go8_6_1 qo8_5_2
    refine RA.of2 hall hf hb (RA.stepH (L := [8, 10, 11]) (Tell.of rfl) (by kernel_rfl) (by simp) (RA.each ?_ (RA.each ?_ (RA.each ?_ (RA.each0)))))
    ·skip
     refine RO.extract (d := .agg ((Keep.c ((perfK k (IntKind.i64.wrap ((i : Int) + 2)) ((commandN ((belowN d size).2) k).1)).1)).map .r)) rfl rfl rfl rfl rfl (by decide) (Nat.le_of_ble_eq_true rfl) rfl rfl ?_
     exact RA.to2 hall hf hb (ro8_19 B go8_5_1 go8_6_1 qo8_5_2) rfl rfl (by kernel_rfl)
    ·skip
     refine RO.extract (d := Bo ((perfK k (IntKind.i64.wrap ((i : Int) + 2)) ((commandN ((belowN d size).2) k).1)).2.2)) rfl rfl rfl rfl rfl (by decide) (Nat.le_of_ble_eq_true rfl) rfl rfl ?_
     exact RA.to2 hall hf hb (ro8_22 B go8_5_1 go8_6_1 qo8_5_2) rfl rfl (by kernel_rfl)
    ·skip
     refine RO.alloc (ds := [.r (.v (.slice none 0 0)), .r (.v (.slice none 0 0))]) rfl rfl rfl rfl rfl rfl fun bo8_11_1 => ?_
     exact RA.to2 hall hf hb (ro8_23 B bo8_11_1 go8_5_1 go8_6_1 qo8_5_2) rfl rfl (by kernel_rfl)
   have ro8_15 : ∀ B, ∀ (go8_5_1 : Nat → Nat → Value), ∀ (go8_6_1 : Nat → Nat → Value), ∀ (qo8_5_2 : Nat → Value), RA f E B all 6 (bt 15 511) ⟨40, [(0, .obj (bo 0) ((l01Cur.c ((commandN ((belowN d size).2) k).2)).map .r)), (26, .tup [.u, S ((perfK k (IntKind.i64.wrap ((i : Int) + 2)) ((commandN ((belowN d size).2) k).1)).2.1), Bo ((perfK k (IntKind.i64.wrap ((i : Int) + 2)) ((commandN ((belowN d size).2) k).1)).2.2)]), (34, .agg ((Keep.c ((perfK k (IntKind.i64.wrap ((i : Int) + 2)) ((commandN ((belowN d size).2) k).1)).1)).map .r))] ++ b0⟩ K := by
    intro B go8_5_1 go8_6_1 qo8_5_2
    refine RA.of2 hall hf hb (RA.stepH (L := [9, 10, 11]) (Tell.of rfl) (by kernel_rfl) (by simp) (RA.each ?_ (RA.each ?_ (RA.each ?_ (RA.each0)))))
    ·skip
     refine RO.extract (d := S ((perfK k (IntKind.i64.wrap ((i : Int) + 2)) ((commandN ((belowN d size).2) k).1)).2.1)) rfl rfl rfl rfl rfl (by decide) (Nat.le_of_ble_eq_true rfl) rfl rfl ?_
     exact RA.to2 hall hf hb (ro8_19 B go8_5_1 go8_6_1 qo8_5_2) rfl rfl (by kernel_rfl)
    ·skip
     refine RO.extract (d := Bo ((perfK k (IntKind.i64.wrap ((i : Int) + 2)) ((commandN ((belowN d size).2) k).1)).2.2)) rfl rfl rfl rfl rfl (by decide) (Nat.le_of_ble_eq_true rfl) rfl rfl ?_
     exact RA.to2 hall hf hb (ro8_20 B go8_5_1 go8_6_1 qo8_5_2) rfl rfl (by kernel_rfl)
    ·skip
     refine RO.alloc (ds := [.r (.v (.slice none 0 0)), .r (.v (.slice none 0 0))]) rfl rfl rfl rfl rfl rfl fun bo8_11_1 => ?_
     exact RA.to2 hall hf hb (ro8_21 B bo8_11_1 go8_5_1 go8_6_1 qo8_5_2) rfl rfl (by kernel_rfl)
   have ro8_14 : ∀ B, ∀ (bo8_11_1 : Nat), ∀ (go8_5_1 : Nat → Nat → Value), ∀ (go8_6_1 : Nat → Nat → Value), ∀ (qo8_5_2 : Nat → Value), RA f E B all 7 (bt 15 2175) ⟨40, [(0, .obj (bo 0) ((l01Cur.c ((commandN ((belowN d size).2) k).2)).map .r)), (9, .obj bo8_11_1 [.r (.v (.slice none 0 0)), .r (.v (.slice none 0 0))]), (33, .tup [.agg ((Keep.c ((perfK k (IntKind.i64.wrap ((i : Int) + 2)) ((commandN ((belowN d size).2) k).1)).1)).map .r), S ((perfK k (IntKind.i64.wrap ((i : Int) + 2)) ((commandN ((belowN d size).2) k).1)).2.1), Bo ((perfK k (IntKind.i64.wrap ((i : Int) + 2)) ((commandN ((belowN d size).2) k).1)).2.2)])] ++ b0⟩ K := by
    intro B bo8_11_1 go8_5_1 go8_6_1 qo8_5_2
    refine RA.of2 hall hf hb (RA.stepH (L := [7]) (Tell.of rfl) (by kernel_rfl) (by simp) (RA.each ?_ (RA.each0)))
    ·skip
     refine RO.moveMove rfl rfl rfl rfl rfl (by decide) (Nat.le_of_ble_eq_true rfl) (Nat.le_of_ble_eq_true rfl) ?_
     exact RA.to2 hall hf hb (ro8_18 B bo8_11_1 go8_5_1 go8_6_1 qo8_5_2) rfl rfl (by kernel_rfl)
   have ro8_13 : ∀ B, ∀ (go8_5_1 : Nat → Nat → Value), ∀ (go8_6_1 : Nat → Nat → Value), ∀ (qo8_5_2 : Nat → Value), RA f E B all 7 (bt 15 255) ⟨40, [(0, .obj (bo 0) ((l01Cur.c ((commandN ((belowN d size).2) k).2)).map .r)), (26, .tup [.agg ((Keep.c ((perfK k (IntKind.i64.wrap ((i : Int) + 2)) ((commandN ((belowN d size).2) k).1)).1)).map .r), S ((perfK k (IntKind.i64.wrap ((i : Int) + 2)) ((commandN ((belowN d size).2) k).1)).2.1), Bo ((perfK k (IntKind.i64.wrap ((i : Int) + 2)) ((commandN ((belowN d size).2) k).1)).2.2)])] ++ b0⟩ K := by
    intro B go8_5_1 go8_6_1 qo8_5_2
    refine RA.of2 hall hf hb (RA.stepH (L := [8, 9, 10, 11]) (Tell.of rfl) (by kernel_rfl) (by simp) (RA.each ?_ (RA.each ?_ (RA.each ?_ (RA.each ?_ (RA.each0))))))
    ·skip
     refine RO.extract (d := .agg ((Keep.c ((perfK k (IntKind.i64.wrap ((i : Int) + 2)) ((commandN ((belowN d size).2) k).1)).1)).map .r)) rfl rfl rfl rfl rfl (by decide) (Nat.le_of_ble_eq_true rfl) rfl rfl ?_
     exact RA.to2 hall hf hb (ro8_15 B go8_5_1 go8_6_1 qo8_5_2) rfl rfl (by kernel_rfl)
    ·skip
     refine RO.extract (d := S ((perfK k (IntKind.i64.wrap ((i : Int) + 2)) ((commandN ((belowN d size).2) k).1)).2.1)) rfl rfl rfl rfl rfl (by decide) (Nat.le_of_ble_eq_true rfl) rfl rfl ?_
     exact RA.to2 hall hf hb (ro8_16 B go8_5_1 go8_6_1 qo8_5_2) rfl rfl (by kernel_rfl)
    ·skip
     refine RO.extract (d := Bo ((perfK k (IntKind.i64.wrap ((i : Int) + 2)) ((commandN ((belowN d size).2) k).1)).2.2)) rfl rfl rfl rfl rfl (by decide) (Nat.le_of_ble_eq_true rfl) rfl rfl ?_
     exact RA.to2 hall hf hb (ro8_17 B go8_5_1 go8_6_1 qo8_5_2) rfl rfl (by kernel_rfl)
    ·skip
     refine RO.alloc (ds := [.r (.v (.slice none 0 0)), .r (.v (.slice none 0 0))]) rfl rfl rfl rfl rfl rfl fun bo8_11_1 => ?_
     exact RA.to2 hall hf hb (ro8_18 B bo8_11_1 go8_5_1 go8_6_1 qo8_5_2) rfl rfl (by kernel_rfl)
   have ro8_12 : ∀ B, ∀ (bo8_11_1 : Nat), ∀ (go8_5_1 : Nat → Nat → Value), ∀ (qo8_5_2 : Nat → Value), RA f E B all 8 (bt 15 2111) ⟨40, [(0, .obj (bo 0) ((l01Cur.c ((commandN ((belowN d size).2) k).2)).map .r)), (9, .obj bo8_11_1 [.r (.v (.slice none 0 0)), .r (.v (.slice none 0 0))]), (27, .agg ((Keep.c k).map .r)), (29, I (IntKind.i64.wrap ((i : Int) + 2))), (32, .agg ((Command.c ((commandN ((belowN d size).2) k).1)).map .r))] ++ b0⟩ K := by
    intro B bo8_11_1 go8_5_1 qo8_5_2
    refine RA.of2 hall hf hb (RA.stepH (L := [6]) (Tell.of rfl) (by kernel_rfl) (by simp) (RA.each ?_ (RA.each0)))
    ·skip
     refine RO.call rfl rfl (spec_Perform_fn k (IntKind.i64.wrap ((i : Int) + 2)) ((commandN ((belowN d size).2) k).1) hP.hk.ok.okTo) rfl (.cons (.agg (.cons (.r .r) (.cons (.r .r) (.nil)))) (.cons (.one (.r .r)) (.cons (.agg (.cons (.r .r) (.cons (.r .r) (.cons (.r .r) (.cons (.r .r) (.cons (.r .r) (.cons (.r .r) (.nil)))))))) (.nil)))) rfl fun go8_6_1 => ?_
     exact RA.to2 hall hf hb (ro8_14 B bo8_11_1 go8_5_1 go8_6_1 qo8_5_2) rfl rfl (by kernel_rfl)
   have ro8_11 : ∀ B, ∀ (go8_5_1 : Nat → Nat → Value), ∀ (go8_6_1 : Nat → Nat → Value), ∀ (qo8_5_2 : Nat → Value), RA f E B all 8 (bt 15 127) ⟨40, [(0, .obj (bo 0) ((l01Cur.c ((commandN ((belowN d size).2) k).2)).map .r)), (33, .tup [.agg ((Keep.c ((perfK k (IntKind.i64.wrap ((i : Int) + 2)) ((commandN ((belowN d size).2) k).1)).1)).map .r), S ((perfK k (IntKind.i64.wrap ((i : Int) + 2)) ((commandN ((belowN d size).2) k).1)).2.1), Bo ((perfK k (IntKind.i64.wrap ((i : Int) + 2)) ((commandN ((belowN d size).2) k).1)).2.2)])] ++ b0⟩ K := by
    intro B go8_5_1 go8_6_1 qo8_5_2
    refine RA.of2 hall hf hb (RA.stepH (L := [7, 11]) (Tell.of rfl) (by kernel_rfl) (by simp) (RA.each ?_ (RA.each ?_ (RA.each0))))
    ·skip
     refine RO.moveMove rfl rfl rfl rfl rfl (by decide) (Nat.le_of_ble_eq_true rfl) (Nat.le_of_ble_eq_true rfl) ?_
     exact RA.to2 hall hf hb (ro8_13 B go8_5_1 go8_6_1 qo8_5_2) rfl rfl (by kernel_rfl)
    ·skip
     refine RO.alloc (ds := [.r (.v (.slice none 0 0)), .r (.v (.slice none 0 0))]) rfl rfl rfl rfl rfl rfl fun bo8_11_1 => ?_
     exact RA.to2 hall hf hb (ro8_14 B bo8_11_1 go8_5_1 go8_6_1 qo8_5_2) rfl rfl (by kernel_rfl)
   have ro8_10 : ∀ B, ∀ (bo8_11_1 : Nat), ∀ (go8_5_1 : Nat → Nat → Value), ∀ (qo8_5_2 : Nat → Value), RA f E B all 9 (bt 15 2110) ⟨40, [(0, .obj (bo 0) ((l01Cur.c ((commandN ((belowN d size).2) k).2)).map .r)), (9, .obj bo8_11_1 [.r (.v (.slice none 0 0)), .r (.v (.slice none 0 0))]), (29, I (IntKind.i64.wrap ((i : Int) + 2))), (32, .agg ((Command.c ((commandN ((belowN d size).2) k).1)).map .r))] ++ b0⟩ K := by
    intro B bo8_11_1 go8_5_1 qo8_5_2
    refine RA.of2 hall hf hb (RA.stepH (L := [0]) (Tell.of rfl) (by kernel_rfl) (by simp) (RA.each ?_ (RA.each0)))
    ·skip
     refine RO.v rfl rfl (V.loadAgg rfl rfl rfl rfl rfl (Nat.le_of_ble_eq_true rfl)) rfl ?_
     exact RA.to2 hall hf hb (ro8_12 B bo8_11_1 go8_5_1 qo8_5_2) rfl rfl (by kernel_rfl)
   have ro8_9 : ∀ B, ∀ (bo8_11_1 : Nat), RA f E B all 9 (bt 15 2079) ⟨40, [(0, .obj (bo 0) ((l01Cur.c ((belowN d size).2)).map .r)), (9, .obj bo8_11_1 [.r (.v (.slice none 0 0)), .r (.v (.slice none 0 0))]), (27, .agg ((Keep.c k).map .r)), (29, I (IntKind.i64.wrap ((i : Int) + 2))), (30, .pt 0 (bo 0) 0), (31, .agg ((Keep.c k).map .r))] ++ b0⟩ K := by
    intro B bo8_11_1
    refine RA.of2 hall hf hb (RA.stepH (L := [5]) (Tell.of rfl) (by kernel_rfl) (by simp) (RA.each ?_ (RA.each0)))
    ·skip
     refine RO.callP (k := 0) (spec_l15Command_fn ((belowN d size).2) k (belowN_ok hP.hc _) hP.hk.ok.okTo) rfl rfl rfl rfl (Nat.le_of_ble_eq_true rfl) (by decide) rfl (DT.r (DT.r (DT.r DT.e))) (AsPs.here rfl (.cons (.agg (.cons (.r .r) (.cons (.r .r) (.nil)))) (.nil))) fun go8_5_1 qo8_5_2 => ?_
     exact RA.to2 hall hf hb (ro8_12 B bo8_11_1 go8_5_1 qo8_5_2) rfl rfl (by kernel_rfl)
   have ro8_8 : ∀ B, ∀ (go8_5_1 : Nat → Nat → Value), ∀ (qo8_5_2 : Nat → Value), RA f E B all 9 (bt 15 63) ⟨40, [(0, .obj (bo 0) ((l01Cur.c ((commandN ((belowN d size).2) k).2)).map .r)), (27, .agg ((Keep.c k).map .r)), (29, I (IntKind.i64.wrap ((i : Int) + 2))), (32, .agg ((Command.c ((commandN ((belowN d size).2) k).1)).map .r))] ++ b0⟩ K := by
    intro B go8_5_1 qo8_5_2
    refine RA.of2 hall hf hb (RA.stepH (L := [6, 11]) (Tell.of rfl) (by kernel_rfl) (by simp) (RA.each ?_ (RA.each ?_ (RA.each0))))
    ·skip
     refine RO.call rfl rfl (spec_Perform_fn k (IntKind.i64.wrap ((i : Int) + 2)) ((commandN ((belowN d size).2) k).1) hP.hk.ok.okTo) rfl (.cons (.agg (.cons (.r .r) (.cons (.r .r) (.nil)))) (.cons (.one (.r .r)) (.cons (.agg (.cons (.r .r) (.cons (.r .r) (.cons (.r .r) (.cons (.r .r) (.cons (.r .r) (.cons (.r .r) (.nil)))))))) (.nil)))) rfl fun go8_6_1 => ?_
     exact RA.to2 hall hf hb (ro8_11 B go8_5_1 go8_6_1 qo8_5_2) rfl rfl (by kernel_rfl)
    ·skip
     refine RO.alloc (ds := [.r (.v (.slice none 0 0)), .r (.v (.slice none 0 0))]) rfl rfl rfl rfl rfl rfl fun bo8_11_1 => ?_
     exact RA.to2 hall hf hb (ro8_12 B bo8_11_1 go8_5_1 qo8_5_2) rfl rfl (by kernel_rfl)
   have ro8_7 : ∀ B, ∀ (bo8_11_1 : Nat), RA f E B all 10 (bt 15 2078) ⟨40, [(0, .obj (bo 0) ((l01Cur.c ((belowN d size).2)).map .r)), (9, .obj bo8_11_1 [.r (.v (.slice none 0 0)), .r (.v (.slice none 0 0))]), (29, I (IntKind.i64.wrap ((i : Int) + 2))), (30, .pt 0 (bo 0) 0), (31, .agg ((Keep.c k).map .r))] ++ b0⟩ K := by
    intro B bo8_11_1
    refine RA.of2 hall hf hb (RA.stepH (L := [0, 5]) (Tell.of rfl) (by kernel_rfl) (by simp) (RA.each ?_ (RA.each ?_ (RA.each0))))
    ·skip
     refine RO.v rfl rfl (V.loadAgg rfl rfl rfl rfl rfl (Nat.le_of_ble_eq_true rfl)) rfl ?_
     exact RA.to2 hall hf hb (ro8_9 B bo8_11_1) rfl rfl (by kernel_rfl)
    ·skip
     refine RO.callP (k := 0) (spec_l15Command_fn ((belowN d size).2) k (belowN_ok hP.hc _) hP.hk.ok.okTo) rfl rfl rfl rfl (Nat.le_of_ble_eq_true rfl) (by decide) rfl (DT.r (DT.r (DT.r DT.e))) (AsPs.here rfl (.cons (.agg (.cons (.r .r) (.cons (.r .r) (.nil)))) (.nil))) fun go8_5_1 qo8_5_2 => ?_
     exact RA.to2 hall hf hb (ro8_10 B bo8_11_1 go8_5_1 qo8_5_2) rfl rfl (by kernel_rfl)
   have ro8_6 : ∀ B, ∀ (go8_5_1 : Nat → Nat → Value), ∀ (qo8_5_2 : Nat → Value), RA f E B all 10 (bt 15 62) ⟨40, [(0, .obj (bo 0) ((l01Cur.c ((commandN ((belowN d size).2) k).2)).map .r)), (29, I (IntKind.i64.wrap ((i : Int) + 2))), (32, .agg ((Command.c ((commandN ((belowN d size).2) k).1)).map .r))] ++ b0⟩ K := by
    intro B go8_5_1 qo8_5_2
    refine RA.of2 hall hf hb (RA.stepH (L := [0, 11]) (Tell.of rfl) (by kernel_rfl) (by simp) (RA.each ?_ (RA.each ?_ (RA.each0))))
    ·skip
     refine RO.v rfl rfl (V.loadAgg rfl rfl rfl rfl rfl (Nat.le_of_ble_eq_true rfl)) rfl ?_
     exact RA.to2 hall hf hb (ro8_8 B go8_5_1 qo8_5_2) rfl rfl (by kernel_rfl)
    ·skip
     refine RO.alloc (ds := [.r (.v (.slice none 0 0)), .r (.v (.slice none 0 0))]) rfl rfl rfl rfl rfl rfl fun bo8_11_1 => ?_
     exact RA.to2 hall hf hb (ro8_10 B bo8_11_1 go8_5_1 qo8_5_2) rfl rfl (by kernel_rfl)
   have ro8_5 : ∀ B, ∀ (bo8_11_1 : Nat), RA f E B all 10 (bt 15 2063) ⟨40, [(0, .obj (bo 0) ((l01Cur.c ((belowN d size).2)).map .r)), (9, .obj bo8_11_1 [.r (.v (.slice none 0 0)), .r (.v (.slice none 0 0))]), (27, .agg ((Keep.c k).map .r)), (29, I (IntKind.i64.wrap ((i : Int) + 2))), (30, .pt 0 (bo 0) 0)] ++ b0⟩ K := by
    intro B bo8_11_1
    refine RA.of2 hall hf hb (RA.stepH (L := [4]) (Tell.of rfl) (by kernel_rfl) (by simp) (RA.each ?_ (RA.each0)))
    ·skip
     refine RO.v rfl rfl (V.loadAgg rfl rfl rfl rfl rfl (Nat.le_of_ble_eq_true rfl)) rfl ?_
     exact RA.to2 hall hf hb (ro8_9 B bo8_11_1) rfl rfl (by kernel_rfl)
   have ro8_4 : ∀ B, RA f E B all 10 (bt 15 31) ⟨40, [(0, .obj (bo 0) ((l01Cur.c ((belowN d size).2)).map .r)), (27, .agg ((Keep.c k).map .r)), (29, I (IntKind.i64.wrap ((i : Int) + 2))), (30, .pt 0 (bo 0) 0), (31, .agg ((Keep.c k).map .r))] ++ b0⟩ K := by
    intro B
    refine RA.of2 hall hf hb (RA.stepH (L := [5, 11]) (Tell.of rfl) (by kernel_rfl) (by simp) (RA.each ?_ (RA.each ?_ (RA.each0))))
    ·skip
     refine RO.callP (k := 0) (spec_l15Command_fn ((belowN d size).2) k (belowN_ok hP.hc _) hP.hk.ok.okTo) rfl rfl rfl rfl (Nat.le_of_ble_eq_true rfl) (by decide) rfl (DT.r (DT.r (DT.r DT.e))) (AsPs.here rfl (.cons (.agg (.cons (.r .r) (.cons (.r .r) (.nil)))) (.nil))) fun go8_5_1 qo8_5_2 => ?_
     exact RA.to2 hall hf hb (ro8_8 B go8_5_1 qo8_5_2) rfl rfl (by kernel_rfl)
    ·skip
     refine RO.alloc (ds := [.r (.v (.slice none 0 0)), .r (.v (.slice none 0 0))]) rfl rfl rfl rfl rfl rfl fun bo8_11_1 => ?_
     exact RA.to2 hall hf hb (ro8_9 B bo8_11_1) rfl rfl (by kernel_rfl)
   have ro8_3 : ∀ B, ∀ (bo8_11_1 : Nat), RA f E B all 11 (bt 15 2062) ⟨40, [(0, .obj (bo 0) ((l01Cur.c ((belowN d size).2)).map .r)), (9, .obj bo8_11_1 [.r (.v (.slice none 0 0)), .r (.v (.slice none 0 0))]), (29, I (IntKind.i64.wrap ((i : Int) + 2))), (30, .pt 0 (bo 0) 0)] ++ b0⟩ K := by
    intro B bo8_11_1
    refine RA.of2 hall hf hb (RA.stepH (L := [0, 4]) (Tell.of rfl) (by kernel_rfl) (by simp) (RA.each ?_ (RA.each ?_ (RA.each0))))
    ·skip
     refine RO.v rfl rfl (V.loadAgg rfl rfl rfl rfl rfl (Nat.le_of_ble_eq_true rfl)) rfl ?_
     exact RA.to2 hall hf hb (ro8_5 B bo8_11_1) rfl rfl (by kernel_rfl)
    ·skip
     refine RO.v rfl rfl (V.loadAgg rfl rfl rfl rfl rfl (Nat.le_of_ble_eq_true rfl)) rfl ?_
     exact RA.to2 hall hf hb (ro8_7 B bo8_11_1) rfl rfl (by kernel_rfl)
   have ro8_2 : ∀ B, RA f E B all 11 (bt 15 30) ⟨40, [(0, .obj (bo 0) ((l01Cur.c ((belowN d size).2)).map .r)), (29, I (IntKind.i64.wrap ((i : Int) + 2))), (30, .pt 0 (bo 0) 0), (31, .agg ((Keep.c k).map .r))] ++ b0⟩ K := by
    intro B
    refine RA.of2 hall hf hb (RA.stepH (L := [0, 5, 11]) (Tell.of rfl) (by kernel_rfl) (by simp) (RA.each ?_ (RA.each ?_ (RA.each ?_ (RA.each0)))))
    ·skip
     refine RO.v rfl rfl (V.loadAgg rfl rfl rfl rfl rfl (Nat.le_of_ble_eq_true rfl)) rfl ?_
     exact RA.to2 hall hf hb (ro8_4 B) rfl rfl (by kernel_rfl)
    ·skip
     refine RO.callP (k := 0) (spec_l15Command_fn ((belowN d size).2) k (belowN_ok hP.hc _) hP.hk.ok.okTo) rfl rfl rfl rfl (Nat.le_of_ble_eq_true rfl) (by decide) rfl (DT.r (DT.r (DT.r DT.e))) (AsPs.here rfl (.cons (.agg (.cons (.r .r) (.cons (.r .r) (.nil)))) (.nil))) fun go8_5_1 qo8_5_2 => ?_
     exact RA.to2 hall hf hb (ro8_6 B go8_5_1 qo8_5_2) rfl rfl (by kernel_rfl)
    ·skip
     refine RO.alloc (ds := [.r (.v (.slice none 0 0)), .r (.v (.slice none 0 0))]) rfl rfl rfl rfl rfl rfl fun bo8_11_1 => ?_
     exact RA.to2 hall hf hb (ro8_7 B bo8_11_1) rfl rfl (by kernel_rfl)
   have ro8_1 : ∀ B, RA f E B all 11 (bt 15 15) ⟨40, [(0, .obj (bo 0) ((l01Cur.c ((belowN d size).2)).map .r)), (27, .agg ((Keep.c k).map .r)), (29, I (IntKind.i64.wrap ((i : Int) + 2))), (30, .pt 0 (bo 0) 0)] ++ b0⟩ K := by
    intro B
    refine RA.of2 hall hf hb (RA.stepH (L := [4, 11]) (Tell.of rfl) (by kernel_rfl) (by simp) (RA.each ?_ (RA.each ?_ (RA.each0))))
    ·skip
     refine RO.v rfl rfl (V.loadAgg rfl rfl rfl rfl rfl (Nat.le_of_ble_eq_true rfl)) rfl ?_
     exact RA.to2 hall hf hb (ro8_4 B) rfl rfl (by kernel_rfl)
    ·skip
     refine RO.alloc (ds := [.r (.v (.slice none 0 0)), .r (.v (.slice none 0 0))]) rfl rfl rfl rfl rfl rfl fun bo8_11_1 => ?_
     exact RA.to2 hall hf hb (ro8_5 B bo8_11_1) rfl rfl (by kernel_rfl)
   have ro8_0 : ∀ B, RA f E B all 12 (bt 15 14) ⟨40, [(0, .obj (bo 0) ((l01Cur.c ((belowN d size).2)).map .r)), (29, I (IntKind.i64.wrap ((i : Int) + 2))), (30, .pt 0 (bo 0) 0)] ++ b0⟩ K := by
    intro B
    refine RA.of2 hall hf hb (RA.stepH (L := [0, 4, 11]) (Tell.of rfl) (by kernel_rfl) (by simp) (RA.each ?_ (RA.each ?_ (RA.each ?_ (RA.each0)))))
    ·skip
     refine RO.v rfl rfl (V.loadAgg rfl rfl rfl rfl rfl (Nat.le_of_ble_eq_true rfl)) rfl ?_
     exact RA.to2 hall hf hb (ro8_1 B) rfl rfl (by kernel_rfl)
    ·skip
     refine RO.v rfl rfl (V.loadAgg rfl rfl rfl rfl rfl (Nat.le_of_ble_eq_true rfl)) rfl ?_
     exact RA.to2 hall hf hb (ro8_2 B) rfl rfl (by kernel_rfl)
    ·skip
     refine RO.alloc (ds := [.r (.v (.slice none 0 0)), .r (.v (.slice none 0 0))]) rfl rfl rfl rfl rfl rfl fun bo8_11_1 => ?_
     exact RA.to2 hall hf hb (ro8_3 B bo8_11_1) rfl rfl (by kernel_rfl)
   refine RA.start (by kernel_rfl) (by kernel_rfl) (m := 15) (ls' := (bt 15 0)) ?_
   refine RA.fr XK 40 12 [1,2,3] (bt 15 14) rfl rfl (by kernel_rfl) (Tell.of rfl) ?_
   (conv=>whnf);refine ⟨rfl,fun B=>?_⟩
   exact RA.to2 hall hf hb (ro8_0 B) rfl rfl (by kernel_rfl)
  ·rintro ⟨bo8_11_1, go8_5_1, go8_6_1, qo8_5_2⟩
   refine CW.k XK 40 1 [0,1,4,5,8,9,37] rfl ?_
   (conv=>whnf);refine ⟨rfl,?_⟩
   refine CW.cond rfl (fun h9 => ?_) (fun h9 => ?_)
   ·skip
    refine CW.region ?_
    refine RW.k XK 40 2 rfl ?_
    (conv=>whnf);refine ⟨rfl,?_⟩
    refine RW.nil ?_
    refine CW.keep 40 [0,1,4,5,8] rfl ?_;(conv=>whnf);refine ⟨?_⟩
    refine CW.region ?_
    refine RW.k XK 40 1 rfl ?_
    (conv=>whnf);refine ⟨rfl,?_⟩
    refine RW.v rfl (V.inc rfl rfl rfl (by have h9 := hP.lt hlt; omega) (by have h9 := hP.lt hlt; have h8 : size.toNat ≤ 40 := (by omega); simp only [maxLen]; omega)) ?_
    refine RW.k XK 40 1 rfl ?_
    (conv=>whnf);refine ⟨rfl,?_⟩
    refine RW.nil ?_
    exact ⟨(i + 1, _, _), by have h9 := hP.lt hlt; simp only []; omega, (hP.stepW hs hlt (by assumption) (by first | rfl | simp)), rfl, Le.c rfl <| Le.c rfl <| Le.c rfl <| Le.c rfl <| Le.c rfl <| Le.e⟩
   ·skip
    refine CW.skip ?_
    refine CW.keep 40 [0,1,4,5,8] rfl ?_;(conv=>whnf);refine ⟨?_⟩
    refine CW.region ?_
    refine RW.k XK 40 1 rfl ?_
    (conv=>whnf);refine ⟨rfl,?_⟩
    refine RW.v rfl (V.inc rfl rfl rfl (by have h9 := hP.lt hlt; omega) (by have h9 := hP.lt hlt; have h8 : size.toNat ≤ 40 := (by omega); simp only [maxLen]; omega)) ?_
    refine RW.k XK 40 1 rfl ?_
    (conv=>whnf);refine ⟨rfl,?_⟩
    refine RW.nil ?_
    exact ⟨(i + 1, _, _), by have h9 := hP.lt hlt; simp only []; omega, (hP.stepW hs hlt (by assumption) (by first | rfl | simp)), rfl, Le.c rfl <| Le.c rfl <| Le.c rfl <| Le.c rfl <| Le.c rfl <| Le.e⟩
 ·skip
  have hfin := hP.fin (of_decide_eq_false h7)
  refine CW.exit ?_
  refine CW.keep 40 [0,4,5] rfl ?_;(conv=>whnf);refine ⟨?_⟩
  refine CW.k XK 40 1 [0,4] rfl ?_
  (conv=>whnf);refine ⟨rfl,?_⟩
  refine CW.ret ?_
  exact Post.one (RV.c (f := fun e => (Keep.c e).map .r) (e' := k) rfl rfl rfl rfl (DT.r (DT.r DT.e)) (by rw [hfin])) (AOs.obE (f := fun e => (l01Cur.c e).map .r) (e' := ((belowN d size).2)) rfl (DT.r (DT.r (DT.r DT.e))) (by rw [hfin]) (AOs.r AOs.e))
set_option maxHeartbeats 4000000 in
theorem spec_DrawTalk_fn (code : List Int) : Eng.Fn E.P 15 [.one (.r (sl 1 cU code))] (.tup [.agg ((Keep.c ((talkK code).1)).map .r), .agg ((Command.c (talkX code)).map .w)]) [.one (.r (sl 1 cU code))] := by
 refine Eng.Fn.intro (E := E) (rvs := [.cell 2 31, .cell 3 38]) Tryd.func15 rfl rfl rfl (by simp [outSlots, moved, rvSlot, sl]) ?_
 intro B g bo
 refine CW.bound (x := .tmp 0) (n := code.length) (AsT.r) (fun hl0 => ?_)
 refine CW.keep 16 [0] rfl ?_;(conv=>whnf);refine ⟨?_⟩
 refine CW.k XK 16 1 [0,2,3] rfl ?_
 (conv=>whnf);intro b1;(conv=>whnf);intro b2;(conv=>whnf);refine ⟨rfl,?_⟩
 refine CW.seq ?_
 refine CW.region ?_
 refine RW.k XK 16 1 rfl ?_
 (conv=>whnf);refine ⟨rfl,?_⟩
 refine RW.call rfl (spec_l01New_fn code) rfl (.cons (.one (.r .r)) (.nil)) fun g3 => ?_
 refine RW.k XK 16 1 rfl ?_
 (conv=>whnf);refine ⟨rfl,?_⟩
 refine RW.nil ?_
 refine CW.keep 16 [0,2,3,4,7] rfl ?_;(conv=>whnf);refine ⟨?_⟩
 refine CW.seq ?_
 refine CW.region ?_
 refine RW.k XK 16 2 rfl ?_
 (conv=>whnf);refine ⟨rfl,?_⟩
 refine RW.call rfl (spec_l15Size_fn code) rfl (.cons (.one (.r .r)) (.nil)) fun g4 => ?_
 refine RW.callP (k := 7) (spec_l15Keep_fn (cur0 code) (talkSize code) (cur0_ok hl0).2 (by have h9 := talkSize_le code; omega)) rfl rfl (Nat.le_of_ble_eq_true rfl) (by decide) rfl (DT.r (DT.r (DT.r DT.e))) (AsPs.here rfl (.cons (.one (.r .r)) (.nil))) fun g5 q6 => ?_
 refine RW.k XK 16 2 rfl ?_
 (conv=>whnf);intro b7;(conv=>whnf);refine ⟨rfl,?_⟩
 refine RW.freezeB (ts := (Keep.c ((keepN (cur0 code) (talkSize code)).1))) 5 rfl (DRd.r (DRd.r DRd.e)) ?_
 refine RW.nil ?_
 refine CW.keep 16 [2,3,4,5,7] rfl ?_;(conv=>whnf);refine ⟨?_⟩
 refine CW.anyJ2 (fc := []) (L0 := []) 16 (fun (zz : (Nat → Nat → Value) × (Nat → Value)) => match zz with | (go8_3_1, qo8_3_2) => [(2, .obj b1 ((Keep.c ((keepN (cur0 code) (talkSize code)).1)).map .r)), (3, .obj b2 ((Command.c ((commandN ((keepN (cur0 code) (talkSize code)).2) ((keepN (cur0 code) (talkSize code)).1)).1)).map .r))]) (fun all hall f hf b0 hb K hK => ?_) ?_
 ·skip
  have ro8_3 : ∀ B, ∀ (go8_3_1 : Nat → Nat → Value), ∀ (qo8_3_2 : Nat → Value), RA f E B all 0 (bt 6 63) ⟨16, [(2, .obj b1 ((Keep.c ((keepN (cur0 code) (talkSize code)).1)).map .r)), (3, .obj b2 ((Command.c ((commandN ((keepN (cur0 code) (talkSize code)).2) ((keepN (cur0 code) (talkSize code)).1)).1)).map .r))] ++ b0⟩ K := by
   intro B go8_3_1 qo8_3_2
   exact RA.of2 hall hf hb (RA.finH (Tell.of rfl) (by kernel_rfl) (hK (go8_3_1, qo8_3_2) _ rfl (Le.of rfl)))
  have ro8_2 : ∀ B, ∀ (go8_3_1 : Nat → Nat → Value), ∀ (qo8_3_2 : Nat → Value), RA f E B all 1 (bt 6 31) ⟨16, [(2, .obj b1 ((Keep.c ((keepN (cur0 code) (talkSize code)).1)).map .r)), (3, .obj b2 [I 0, I 0, I 0, S (⟨#[]⟩), S (⟨#[]⟩), I 0]), (15, .agg ((Command.c ((commandN ((keepN (cur0 code) (talkSize code)).2) ((keepN (cur0 code) (talkSize code)).1)).1)).map .r))] ++ b0⟩ K := by
   intro B go8_3_1 qo8_3_2
   refine RA.of2 hall hf hb (RA.stepH (L := [5]) (Tell.of rfl) (by kernel_rfl) (by simp) (RA.each ?_ (RA.each0)))
   ·skip
    refine RO.storeAgg (es := ((Command.c ((commandN ((keepN (cur0 code) (talkSize code)).2) ((keepN (cur0 code) (talkSize code)).1)).1)).map .r)) rfl rfl rfl rfl rfl rfl rfl rfl rfl rfl (Nat.le_of_ble_eq_true rfl) rfl ?_
    exact RA.to2 hall hf hb (ro8_3 B go8_3_1 qo8_3_2) rfl rfl (by kernel_rfl)
  have ro8_1 : ∀ B, ∀ (go8_3_1 : Nat → Nat → Value), ∀ (qo8_3_2 : Nat → Value), RA f E B all 2 (bt 6 15) ⟨16, [(2, .obj b1 [.r (.v (.slice none 0 0)), .r (.v (.slice none 0 0))]), (3, .obj b2 [I 0, I 0, I 0, S (⟨#[]⟩), S (⟨#[]⟩), I 0]), (12, .agg ((Keep.c ((keepN (cur0 code) (talkSize code)).1)).map .r)), (15, .agg ((Command.c ((commandN ((keepN (cur0 code) (talkSize code)).2) ((keepN (cur0 code) (talkSize code)).1)).1)).map .r))] ++ b0⟩ K := by
   intro B go8_3_1 qo8_3_2
   refine RA.of2 hall hf hb (RA.stepH (L := [4]) (Tell.of rfl) (by kernel_rfl) (by simp) (RA.each ?_ (RA.each0)))
   ·skip
    refine RO.storeAgg (es := ((Keep.c ((keepN (cur0 code) (talkSize code)).1)).map .r)) rfl rfl rfl rfl rfl rfl rfl rfl rfl rfl (Nat.le_of_ble_eq_true rfl) rfl ?_
    exact RA.to2 hall hf hb (ro8_2 B go8_3_1 qo8_3_2) rfl rfl (by kernel_rfl)
  have ro8_0 : ∀ B, RA f E B all 3 (bt 6 7) ⟨16, [(2, .obj b1 [.r (.v (.slice none 0 0)), .r (.v (.slice none 0 0))]), (3, .obj b2 [I 0, I 0, I 0, S (⟨#[]⟩), S (⟨#[]⟩), I 0]), (7, .obj (blk (g3 0 3)) ((l01Cur.c ((keepN (cur0 code) (talkSize code)).2)).map .r)), (12, .agg ((Keep.c ((keepN (cur0 code) (talkSize code)).1)).map .r)), (13, .pt 7 (blk (g3 0 3)) 0), (14, .agg ((Keep.c ((keepN (cur0 code) (talkSize code)).1)).map .r))] ++ b0⟩ K := by
   intro B
   refine RA.of2 hall hf hb (RA.stepH (L := [3]) (Tell.of rfl) (by kernel_rfl) (by simp) (RA.each ?_ (RA.each0)))
   ·skip
    refine RO.callP (k := 7) (spec_l15Command_fn ((keepN (cur0 code) (talkSize code)).2) ((keepN (cur0 code) (talkSize code)).1) (talk_good hl0).2 (talk_good hl0).1.ok.okTo) rfl rfl rfl rfl (Nat.le_of_ble_eq_true rfl) (by decide) rfl (DT.r (DT.r (DT.r DT.e))) (AsPs.here rfl (.cons (.agg (.cons (.r .r) (.cons (.r .r) (.nil)))) (.nil))) fun go8_3_1 qo8_3_2 => ?_
    exact RA.to2 hall hf hb (ro8_1 B go8_3_1 qo8_3_2) rfl rfl (by kernel_rfl)
  refine RA.start (by kernel_rfl) (by kernel_rfl) (m := 6) (ls' := (bt 6 0)) ?_
  refine RA.fr XK 16 3 [0,1,2] (bt 6 7) rfl rfl (by kernel_rfl) (Tell.of rfl) ?_
  (conv=>whnf);refine ⟨rfl,fun B=>?_⟩
  exact RA.to2 hall hf hb (ro8_0 B) rfl rfl (by kernel_rfl)
 ·rintro ⟨go8_3_1, qo8_3_2⟩
  refine CW.ret ?_
  exact Post.tup (by decide) (RVs.c (RV.c (f := fun e => (Keep.c e).map .r) (e' := ((keepN (cur0 code) (talkSize code)).1)) rfl rfl rfl rfl (DT.r (DT.r DT.e)) (by rfl)) (RVs.c (RV.c (f := fun e => (Command.c e).map .w) (e' := ((commandN ((keepN (cur0 code) (talkSize code)).2) ((keepN (cur0 code) (talkSize code)).1)).1)) rfl rfl rfl rfl (DT.v (DT.v (DT.v (DT.v (DT.v (DT.v DT.e)))))) (by rfl)) RVs.e)) (AOs.r AOs.e)
set_option maxHeartbeats 4000000 in
theorem spec_DrawPlaces_fn (code : List Int) : Eng.Fn E.P 18 [.one (.r (sl 1 cU code))] (.one (.one (.r (sl 1 cI (drawPlaces code))))) [.one (.r (sl 1 cU code))] := by
 refine Eng.Fn.intro (E := E) (rvs := [.tmp 2]) Tryd.func18 rfl rfl rfl (by simp [outSlots, moved, rvSlot, sl]) ?_
 intro B g bo
 refine CW.bound (x := .tmp 0) (n := code.length) (AsT.r) (fun hl0 => ?_)
 refine CW.keep 21 [0] rfl ?_;(conv=>whnf);refine ⟨?_⟩
 refine CW.k XK 21 1 [0] rfl ?_
 (conv=>whnf);refine ⟨rfl,?_⟩
 refine CW.seq ?_
 refine CW.region ?_
 refine RW.k XK 21 1 rfl ?_
 (conv=>whnf);refine ⟨rfl,?_⟩
 refine RW.call rfl (spec_l01New_fn code) rfl (.cons (.one (.r .r)) (.nil)) fun g1 => ?_
 refine RW.k XK 21 1 rfl ?_
 (conv=>whnf);refine ⟨rfl,?_⟩
 refine RW.nil ?_
 refine CW.keep 21 [3,7] rfl ?_;(conv=>whnf);refine ⟨?_⟩
 refine CW.seq ?_
 refine CW.region ?_
 refine RW.k XK 21 1 rfl ?_
 (conv=>whnf);refine ⟨rfl,?_⟩
 refine RW.callP (k := 7) (spec_l01Byte_fn (cur0 code) (cur0_ok hl0).2) rfl rfl (Nat.le_of_ble_eq_true rfl) (by decide) rfl (DT.r (DT.r (DT.r DT.e))) (AsPs.here rfl (.nil)) fun g2 q3 => ?_
 refine RW.nil ?_
 refine CW.keep 21 [3,7] rfl ?_;(conv=>whnf);refine ⟨?_⟩
 refine CW.seq ?_
 refine CW.region ?_
 refine RW.build0 cI rfl rfl rfl rfl rfl fun X4 => ?_
 refine RW.assignMove rfl rfl rfl (by decide) (Nat.le_of_ble_eq_true rfl) (Nat.le_of_ble_eq_true rfl) ?_
 refine RW.nil ?_
 refine CW.keep 21 [3,4,7] rfl ?_;(conv=>whnf);refine ⟨?_⟩
 refine CW.seq ?_
 refine CW.k XK 21 1 [3,4,5,7] rfl ?_
 (conv=>whnf);refine ⟨rfl,?_⟩
 refine CW.block ?_
 refine CW.loopI 21 (fun (zz : Nat × List Int × Value × l01Cur) => match zz with | (i, l, X, c) => [(3, .pt 7 (blk (g1 0 3)) 0), (4, .w (sl 1 cI l) X), (5, I (i : Int)), (7, .obj (blk (g1 0 3)) ((l01Cur.c c).map .r))]) (fun (zz : Nat × List Int × Value × l01Cur) => match zz with | (i, l, X, c) => PlP code i l c) (fun (zz : Nat × List Int × Value × l01Cur) => match zz with | (i, l, X, c) => 12 - i) (0, [], _, _) rfl (Le.c rfl <| Le.c rfl <| Le.c rfl <| Le.c rfl <| Le.e) (PlP.init hl0) ?_
 rintro ⟨i, l, X, c⟩ hP
 refine CW.seq ?_
 refine CW.k XK 21 1 [3,4,5,7,12] rfl ?_
 (conv=>whnf);refine ⟨rfl,?_⟩
 refine CW.cond rfl (fun h5 => ?_) (fun h5 => ?_)
 ·skip
  have hlt : i < 12 := by simp at h5; omega
  refine CW.skip ?_
  refine CW.keep 21 [3,4,5,7] rfl ?_;(conv=>whnf);refine ⟨?_⟩
  refine CW.seq ?_
  refine CW.block ?_
  refine CW.region ?_
  refine RW.k XK 21 2 rfl ?_
  (conv=>whnf);refine ⟨rfl,?_⟩
  refine RW.callP (k := 7) (spec_l01Below_fn c 10000 hP.1) rfl rfl (Nat.le_of_ble_eq_true rfl) (by decide) rfl (DT.r (DT.r (DT.r DT.e))) (AsPs.here rfl (.cons (.one (.r .r)) (.nil))) fun g6 q7 => ?_
  refine RW.build1c (c := cI) (v := ((belowN c 10000).1)) (u := .v (.int .i64 ((belowN c 10000).1))) rfl rfl rfl rfl rfl rfl (.inl rfl) rfl rfl fun X8 => ?_
  refine RW.appendSR (c := cI) (l1 := l) (l2 := [((belowN c 10000).1)]) rfl rfl rfl rfl rfl rfl rfl rfl (.al (k := none) (i := 18) (sz := 1) (V := X8) rfl rfl nofun) (by decide) (Nat.le_of_ble_eq_true rfl) cI.len (fun _ => rfl) rfl (by have h7 := hP.2.1; simp only [maxLen, List.length_singleton]; omega) (by have h7 := hP.2.1; simp only [maxLen, List.length_singleton]; omega) fun X9 => ?_
  refine RW.assignMove rfl rfl rfl (by decide) (Nat.le_of_ble_eq_true rfl) (Nat.le_of_ble_eq_true rfl) ?_
  refine RW.nil ?_
  refine CW.keep 21 [3,4,5,7] rfl ?_;(conv=>whnf);refine ⟨?_⟩
  refine CW.region ?_
  refine RW.k XK 21 1 rfl ?_
  (conv=>whnf);refine ⟨rfl,?_⟩
  refine RW.v rfl (V.inc rfl rfl rfl hlt (by simp only [maxLen]; omega)) ?_
  refine RW.k XK 21 1 rfl ?_
  (conv=>whnf);refine ⟨rfl,?_⟩
  refine RW.nil ?_
  exact ⟨(i + 1, _, _, _), by simp only []; omega, (hP.step hlt), rfl, Le.c rfl <| Le.c rfl <| Le.c rfl <| Le.c rfl <| Le.e⟩
 ·skip
  have hge : 12 ≤ i := by simp at h5; omega
  refine CW.exit ?_
  refine CW.keep 21 [4] rfl ?_;(conv=>whnf);refine ⟨?_⟩
  refine CW.seq ?_
  refine CW.region ?_
  refine RW.k XK 21 2 rfl ?_
  (conv=>whnf);refine ⟨rfl,?_⟩
  refine RW.pullS 2 4 (by decide) rfl rfl ?_
  refine RW.nil ?_
  refine CW.keep 21 [2] rfl ?_;(conv=>whnf);refine ⟨?_⟩
  refine CW.freeze 2 (d' := .r (sl 1 cI l)) rfl rfl ?_
  refine CW.ret ?_
  exact Post.one (RV.r rfl (by exact hP.fin hge)) (AOs.r AOs.e)
set_option maxHeartbeats 4000000 in
theorem spec_SameKeep_fn (a : Keep) (b : Keep) (hok : okToKeep a) : Eng.Fn E.P 22 [.agg ((Keep.c a).map .r), .agg ((Keep.c b).map .r)] (.one (.one (.w (.v (.bool (eqKeep a b)))))) [.agg ((Keep.c a).map .r), .agg ((Keep.c b).map .r)] := by
 refine Eng.Fn.intro (E := E) (rvs := [.tmp 4]) Tryd.func22 rfl rfl rfl (by simp [outSlots, moved, rvSlot, sl]) ?_
 intro B g bo
 refine CW.keep 59 [0,1] rfl ?_;(conv=>whnf);refine ⟨?_⟩
 have hl1 : a.sessions.length ≤ maxLen := by have := hok.1.1; simp only [maxLen]; omega
 have hl2 : a.items.length ≤ maxLen := by have := hok.2.1; simp only [maxLen]; omega
 refine CW.seq ?_
 refine CW.region ?_
 refine RW.k XK 59 1 rfl ?_
 (conv=>whnf);intro b1;(conv=>whnf);refine ⟨rfl,?_⟩
 refine RW.freezeB (ts := (Keep.c a)) 2 rfl (DRd.r (DRd.r DRd.e)) ?_
 refine RW.k XK 59 1 rfl ?_
 (conv=>whnf);intro b2;(conv=>whnf);refine ⟨rfl,?_⟩
 refine RW.freezeB (ts := (Keep.c b)) 3 rfl (DRd.r (DRd.r DRd.e)) ?_
 refine RW.k XK 59 1 rfl ?_
 (conv=>whnf);refine ⟨rfl,?_⟩
 refine RW.nil ?_
 refine CW.keep 59 [2,3] rfl ?_;(conv=>whnf);refine ⟨?_⟩
 refine CW.seq ?_
 refine CW.seqJ 59 (fun (v3 : Bool) => [(2, .rp (Keep.c a)), (3, .rp (Keep.c b)), (22, Bo v3)]) (fun v3 => v3 = (((a.sessions.length : Int) != (b.sessions.length : Int)) || ((a.items.length : Int) != (b.items.length : Int)))) ?_ ?_
 ·refine CW.region ?_
  refine RW.k XK 59 8 rfl ?_
  (conv=>whnf);refine ⟨rfl,?_⟩
  refine RW.gv rfl rfl rfl rfl (fun h4 => V.fieldR rfl rfl rfl rfl (by decide) rfl (Nat.le_of_ble_eq_true rfl)) (fun h4 => ?_) (fun h4 => ?_)
  ·skip
   refine RW.k XK 59 7 rfl ?_
   (conv=>whnf);refine ⟨rfl,?_⟩
   refine RW.nil ?_
   exact ⟨_, by first | rfl | (simp_all; done) | (simp_all; omega) | grind, rfl, Le.of rfl⟩
  ·skip
   refine RW.k XK 59 7 rfl ?_
   (conv=>whnf);refine ⟨rfl,?_⟩
   refine RW.nil ?_
   exact ⟨_, by first | rfl | (simp_all; done) | (simp_all; omega) | grind, rfl, Le.of rfl⟩
 ·intro v3 hv5
  refine CW.cond rfl (fun h6 => ?_) (fun h6 => ?_)
  ·skip
   have hne := hv5.symm.trans h6
   refine CW.k XK 59 1 [4] rfl ?_
   (conv=>whnf);refine ⟨rfl,?_⟩
   refine CW.ret ?_
   exact Post.one (RV.b rfl (by exact (eqK_len hne).symm)) (AOs.a rfl (AOs.a rfl AOs.e))
  ·skip
   obtain ⟨he1, he2⟩ : a.sessions.length = b.sessions.length ∧ a.items.length = b.items.length := by have hne := hv5.symm.trans h6; simp at hne; omega
   refine CW.skip ?_
   refine CW.keep 59 [2,3] rfl ?_;(conv=>whnf);refine ⟨?_⟩
   refine CW.seq ?_
   refine CW.k XK 59 1 [2,3,5] rfl ?_
   (conv=>whnf);refine ⟨rfl,?_⟩
   refine CW.block ?_
   refine CW.loopI 59 (fun (i : Nat) => [(2, .rp (Keep.c a)), (3, .rp (Keep.c b)), (5, I (i : Int))]) (fun (i : Nat) => i ≤ a.sessions.length ∧ eqS eqSession (a.sessions.drop i) (b.sessions.drop i) = eqS eqSession a.sessions b.sessions) (fun (i : Nat) => a.sessions.length - i) 0 rfl (Le.c rfl <| Le.c rfl <| Le.c rfl <| Le.e) ⟨by omega, rfl⟩ ?_
   rintro i ⟨hbi, hri⟩
   refine CW.seq ?_
   refine CW.k XK 59 1 [2,3,5,27] rfl ?_
   (conv=>whnf);refine ⟨rfl,?_⟩
   refine CW.cond rfl (fun h7 => ?_) (fun h7 => ?_)
   ·skip
    have hii : i < a.sessions.length := by have := h7; simp at this; first | exact this | omega | (simp; done) | (simp; omega)
    obtain ⟨ei, hei⟩ : ∃ e, a.sessions[i]? = some e := ⟨_, List.getElem?_eq_getElem hii⟩
    have hdi := drop_get hei
    obtain ⟨fi, hfi⟩ : ∃ e, b.sessions[i]? = some e := ⟨_, List.getElem?_eq_getElem (by omega)⟩
    refine CW.skip ?_
    refine CW.keep 59 [2,3,5] rfl ?_;(conv=>whnf);refine ⟨?_⟩
    refine CW.seq ?_
    refine CW.block ?_
    refine CW.seq ?_
    refine CW.drawn (by kernel_rfl) ?_
    refine RQ.k XK 59 3 rfl ?_
    (conv=>whnf);refine ⟨rfl,?_⟩
    refine RQ.v rfl (V.indexS rfl rfl rfl rfl rfl rfl Session.len hei) ?_
    refine RQ.k XK 59 4 rfl ?_
    (conv=>whnf);refine ⟨rfl,?_⟩
    refine RQ.v rfl (V.indexS rfl rfl rfl rfl rfl rfl Session.len hfi) ?_
    refine RQ.k XK 59 1 rfl ?_
    (conv=>whnf);refine ⟨rfl,?_⟩
    refine RQ.v rfl (V.eqAgg (xs := Session.vs ei) (ys := Session.vs fi) rfl rfl rfl (by kernel_rfl) (eq48 ei fi) (.inr ⟨rfl, rfl⟩)) ?_
    refine RQ.nil ?_
    refine CW.keep 59 [2,3,5,40] rfl ?_;(conv=>whnf);refine ⟨?_⟩
    refine CW.cond rfl (fun h8 => ?_) (fun h8 => ?_)
    ·skip
     have he9 := h8
     refine CW.k XK 59 1 [4] rfl ?_
     (conv=>whnf);refine ⟨rfl,?_⟩
     refine CW.ret ?_
     exact Post.one (RV.b rfl (by rw [eqKeep, ← hri, eqS_step hei hfi, if_neg (by simpa using he9)]; rfl)) (AOs.a rfl (AOs.a rfl AOs.e))
    ·skip
     have he9 := h8
     refine CW.skip ?_
     refine CW.keep 59 [2,3,5] rfl ?_;(conv=>whnf);refine ⟨?_⟩
     refine CW.region ?_
     refine RW.k XK 59 1 rfl ?_
     (conv=>whnf);refine ⟨rfl,?_⟩
     refine RW.v rfl (V.inc rfl rfl rfl hii hl1) ?_
     refine RW.k XK 59 1 rfl ?_
     (conv=>whnf);refine ⟨rfl,?_⟩
     refine RW.nil ?_
     exact ⟨i + 1, by omega, ⟨by omega, by rw [← hri, eqS_step hei hfi, if_pos (by simpa using he9)]⟩, rfl, Le.c rfl <| Le.c rfl <| Le.c rfl <| Le.e⟩
   ·skip
    have hii : a.sessions.length ≤ i := by have := h7; simp at this; first | exact this | omega | (simp; done) | (simp; omega)
    have hdi : a.sessions.drop i = [] := List.drop_eq_nil_of_le hii
    have hqi : eqS eqSession a.sessions b.sessions = true := by rw [← hri]; exact eqS_end hii he1
    refine CW.exit ?_
    refine CW.keep 59 [2,3] rfl ?_;(conv=>whnf);refine ⟨?_⟩
    refine CW.seq ?_
    refine CW.k XK 59 1 [2,3,6] rfl ?_
    (conv=>whnf);refine ⟨rfl,?_⟩
    refine CW.block ?_
    refine CW.loopI 59 (fun (j : Nat) => [(2, .rp (Keep.c a)), (3, .rp (Keep.c b)), (6, I (j : Int))]) (fun (j : Nat) => j ≤ a.items.length ∧ eqS eqItem (a.items.drop j) (b.items.drop j) = eqS eqItem a.items b.items) (fun (j : Nat) => a.items.length - j) 0 rfl (Le.c rfl <| Le.c rfl <| Le.c rfl <| Le.e) ⟨by omega, rfl⟩ ?_
    rintro j ⟨hbj, hrj⟩
    refine CW.seq ?_
    refine CW.k XK 59 1 [2,3,6,45] rfl ?_
    (conv=>whnf);refine ⟨rfl,?_⟩
    refine CW.cond rfl (fun h9 => ?_) (fun h9 => ?_)
    ·skip
     have hij : j < a.items.length := by have := h9; simp at this; first | exact this | omega | (simp; done) | (simp; omega)
     obtain ⟨ej, hej⟩ : ∃ e, a.items[j]? = some e := ⟨_, List.getElem?_eq_getElem hij⟩
     have hdj := drop_get hej
     obtain ⟨fj, hfj⟩ : ∃ e, b.items[j]? = some e := ⟨_, List.getElem?_eq_getElem (by omega)⟩
     refine CW.skip ?_
     refine CW.keep 59 [2,3,6] rfl ?_;(conv=>whnf);refine ⟨?_⟩
     refine CW.seq ?_
     refine CW.block ?_
     refine CW.seq ?_
     refine CW.drawn (by kernel_rfl) ?_
     refine RQ.k XK 59 3 rfl ?_
     (conv=>whnf);refine ⟨rfl,?_⟩
     refine RQ.v rfl (V.indexS rfl rfl rfl rfl rfl rfl Item.len hej) ?_
     refine RQ.k XK 59 4 rfl ?_
     (conv=>whnf);refine ⟨rfl,?_⟩
     refine RQ.v rfl (V.indexS rfl rfl rfl rfl rfl rfl Item.len hfj) ?_
     refine RQ.k XK 59 1 rfl ?_
     (conv=>whnf);refine ⟨rfl,?_⟩
     refine RQ.v rfl (V.eqAgg (xs := Item.vs ej) (ys := Item.vs fj) rfl rfl rfl (by kernel_rfl) (eq42 ej fj) (.inr ⟨rfl, rfl⟩)) ?_
     refine RQ.nil ?_
     refine CW.keep 59 [2,3,6,58] rfl ?_;(conv=>whnf);refine ⟨?_⟩
     refine CW.cond rfl (fun h10 => ?_) (fun h10 => ?_)
     ·skip
      have he9 := h10
      refine CW.k XK 59 1 [4] rfl ?_
      (conv=>whnf);refine ⟨rfl,?_⟩
      refine CW.ret ?_
      exact Post.one (RV.b rfl (by rw [eqKeep, ← hrj, eqS_step hej hfj, if_neg (by simpa using he9)]; simp)) (AOs.a rfl (AOs.a rfl AOs.e))
     ·skip
      have he9 := h10
      refine CW.skip ?_
      refine CW.keep 59 [2,3,6] rfl ?_;(conv=>whnf);refine ⟨?_⟩
      refine CW.region ?_
      refine RW.k XK 59 1 rfl ?_
      (conv=>whnf);refine ⟨rfl,?_⟩
      refine RW.v rfl (V.inc rfl rfl rfl hij hl2) ?_
      refine RW.k XK 59 1 rfl ?_
      (conv=>whnf);refine ⟨rfl,?_⟩
      refine RW.nil ?_
      exact ⟨j + 1, by omega, ⟨by omega, by rw [← hrj, eqS_step hej hfj, if_pos (by simpa using he9)]⟩, rfl, Le.c rfl <| Le.c rfl <| Le.c rfl <| Le.e⟩
    ·skip
     have hij : a.items.length ≤ j := by have := h9; simp at this; first | exact this | omega | (simp; done) | (simp; omega)
     have hdj : a.items.drop j = [] := List.drop_eq_nil_of_le hij
     have hqj : eqS eqItem a.items b.items = true := by rw [← hrj]; exact eqS_end hij he2
     refine CW.exit ?_
     refine CW.keep 59 [] rfl ?_;(conv=>whnf);refine ⟨?_⟩
     refine CW.k XK 59 1 [4] rfl ?_
     (conv=>whnf);refine ⟨rfl,?_⟩
     refine CW.ret ?_
     exact Post.one (RV.b rfl (by rw [eqKeep, hqi, hqj]; rfl)) (AOs.a rfl (AOs.a rfl AOs.e))
set_option maxHeartbeats 4000000 in
theorem spec_l01Var_fn (n : Int) (hn : 0 ≤ n ∧ n ≤ 9223372036854775807) : Eng.Fn E.P 85 [.one (.r (.v (.int .i64 n)))] (.one (.one (.w (.v (.string (varB n.toNat)))))) [.one (.r (.v (.int .i64 n)))] := by
 refine Eng.Fn.intro (E := E) (rvs := [.tmp 2]) Tryd.func85 rfl rfl rfl (by simp [outSlots, moved, rvSlot, sl]) ?_
 intro B g bo
 refine CW.keep 22 [0] rfl ?_;(conv=>whnf);refine ⟨?_⟩
 refine CW.k XK 22 1 [0] rfl ?_
 (conv=>whnf);refine ⟨rfl,?_⟩
 refine CW.seq ?_
 refine CW.region ?_
 refine RW.build0 cU rfl rfl rfl rfl rfl fun X1 => ?_
 refine RW.assignMove rfl rfl rfl (by decide) (Nat.le_of_ble_eq_true rfl) (Nat.le_of_ble_eq_true rfl) ?_
 refine RW.nil ?_
 refine CW.keep 22 [0,3] rfl ?_;(conv=>whnf);refine ⟨?_⟩
 refine CW.seq ?_
 refine CW.block ?_
 refine CW.loopI 22 (fun (zz : Int × List Int × Value) => match zz with | (m, l, X) => [(0, I m), (3, .w (sl 1 cU l) X)]) (fun (zz : Int × List Int × Value) => match zz with | (m, l, X) => VbP n m l) (fun (zz : Int × List Int × Value) => match zz with | (m, l, X) => m.toNat) (_, [], _) rfl (Le.c rfl <| Le.c rfl <| Le.e) (VbP.init hn) ?_
 rintro ⟨m, l, X⟩ hP
 refine CW.seq ?_
 refine CW.k XK 22 1 [0,3,6] rfl ?_
 (conv=>whnf);refine ⟨rfl,?_⟩
 refine CW.cond rfl (fun h2 => ?_) (fun h2 => ?_)
 ·skip
  have hgt := h2
  refine CW.skip ?_
  refine CW.keep 22 [0,3] rfl ?_;(conv=>whnf);refine ⟨?_⟩
  refine CW.block ?_
  refine CW.seq ?_
  refine CW.region ?_
  refine RW.k XK 22 5 rfl ?_
  (conv=>whnf);refine ⟨rfl,?_⟩
  refine RW.build1c (c := cU) (v := (IntKind.u8.wrap (IntKind.i64.wrap ((Int.tmod m 128) + 128)))) (u := .v (.int .u8 (IntKind.u8.wrap (IntKind.i64.wrap ((Int.tmod m 128) + 128))))) rfl rfl rfl rfl rfl rfl (.inl rfl) rfl rfl fun X3 => ?_
  refine RW.appendSR (c := cU) (l1 := l) (l2 := [(IntKind.u8.wrap (IntKind.i64.wrap ((Int.tmod m 128) + 128)))]) rfl rfl rfl rfl rfl rfl rfl rfl (.al (k := none) (i := 12) (sz := 1) (V := X3) rfl rfl nofun) (by decide) (Nat.le_of_ble_eq_true rfl) cU.len (fun _ => rfl) rfl (by have h9 := hP.len; simp only [maxLen, List.length_singleton]; omega) (by have h9 := hP.len; simp only [maxLen, List.length_singleton]; omega) fun X4 => ?_
  refine RW.assignMove rfl rfl rfl (by decide) (Nat.le_of_ble_eq_true rfl) (Nat.le_of_ble_eq_true rfl) ?_
  refine RW.nil ?_
  refine CW.keep 22 [0,3] rfl ?_;(conv=>whnf);refine ⟨?_⟩
  refine CW.region ?_
  refine RW.k XK 22 3 rfl ?_
  (conv=>whnf);refine ⟨rfl,?_⟩
  refine RW.nil ?_
  exact ⟨(_, _, _), (hP.step hgt).2, (hP.step hgt).1, rfl, Le.c rfl <| Le.c rfl <| Le.e⟩
 ·skip
  have hgt := h2
  refine CW.exit ?_
  refine CW.keep 22 [0,3] rfl ?_;(conv=>whnf);refine ⟨?_⟩
  refine CW.seq ?_
  refine CW.region ?_
  refine RW.k XK 22 3 rfl ?_
  (conv=>whnf);refine ⟨rfl,?_⟩
  refine RW.build1c (c := cU) (v := (IntKind.u8.wrap m)) (u := .v (.int .u8 (IntKind.u8.wrap m))) rfl rfl rfl rfl rfl rfl (.inl rfl) rfl rfl fun X5 => ?_
  refine RW.appendSR (c := cU) (l1 := l) (l2 := [(IntKind.u8.wrap m)]) rfl rfl rfl rfl rfl rfl rfl rfl (.al (k := none) (i := 19) (sz := 1) (V := X5) rfl rfl nofun) (by decide) (Nat.le_of_ble_eq_true rfl) cU.len (fun _ => rfl) rfl (by have h9 := hP.len; simp only [maxLen, List.length_singleton]; omega) (by have h9 := hP.len; simp only [maxLen, List.length_singleton]; omega) fun X6 => ?_
  refine RW.v rfl (V.bytesStr (l := (l ++ ([(IntKind.u8.wrap m)]))) rfl rfl rfl (by kernel_rfl) (by kernel_rfl) (.al (k := none) (i := 20) (sz := 1) (V := X6) rfl rfl nofun)) ?_
  refine RW.k XK 22 1 rfl ?_
  (conv=>whnf);refine ⟨rfl,?_⟩
  refine RW.nil ?_
  refine CW.keep 22 [2] rfl ?_;(conv=>whnf);refine ⟨?_⟩
  refine CW.ret ?_
  exact Post.one (RV.s rfl (by exact hP.fin hgt)) (AOs.r AOs.e)
set_option maxHeartbeats 4000000 in
theorem impl_ReadVar_fn (t : ByteArray) (a : Int) (ht : t.size ≤ 1048576) : Eng.Fn E.P 95 [.one (.r (.v (.string t))), .one (.r (.v (.int .i64 a)))] (.tup [.one (.w (.v (.int .i64 ((rdVar t a).1)))), .one (.w (.v (.int .i64 ((rdVar t a).2.1)))), .one (.w (.v (.bool ((rdVar t a).2.2))))]) [.one (.r (.v (.string t))), .one (.r (.v (.int .i64 a)))] := by
 refine Eng.Fn.intro (E := E) (rvs := [.tmp 4, .tmp 5, .tmp 6]) Tryd.func95 rfl rfl rfl (by simp [outSlots, moved, rvSlot, sl]) ?_
 intro B g bo
 refine CW.keep 57 [0,1] rfl ?_;(conv=>whnf);refine ⟨?_⟩
 have hsz : t.size ≤ 4611686018427387904 := by omega
 refine CW.k XK 57 1 [0,1] rfl ?_
 (conv=>whnf);refine ⟨rfl,?_⟩
 refine CW.seq ?_
 refine CW.seq ?_
 refine CW.region ?_
 refine RW.k XK 57 3 rfl ?_
 (conv=>whnf);refine ⟨rfl,?_⟩
 refine RW.call rfl (impl_within_fn a 0 (t.size : Int)) rfl (.cons (.one (.r .r)) (.cons (.one (.r .r)) (.cons (.one (.r .r)) (.nil)))) fun g1 => ?_
 refine RW.k XK 57 1 rfl ?_
 (conv=>whnf);refine ⟨rfl,?_⟩
 refine RW.nil ?_
 refine CW.keep 57 [0,1,14] rfl ?_;(conv=>whnf);refine ⟨?_⟩
 refine CW.cond rfl (fun h2 => ?_) (fun h2 => ?_)
 ·skip
  refine CW.k XK 57 1 [4,5,6] rfl ?_
  (conv=>whnf);refine ⟨rfl,?_⟩
  refine CW.ret ?_
  exact Post.tup (by decide) (RVs.c (RV.i rfl (by rw [rdVar_out (nT (by assumption))])) (RVs.c (RV.i rfl (by rw [rdVar_out (nT (by assumption))])) (RVs.c (RV.b rfl (by rw [rdVar_out (nT (by assumption))])) RVs.e))) (AOs.r (AOs.r AOs.e))
 ·skip
  have hin := nF h2
  refine CW.skip ?_
  refine CW.keep 57 [0,1] rfl ?_;(conv=>whnf);refine ⟨?_⟩
  refine CW.k XK 57 1 [0,1,7] rfl ?_
  (conv=>whnf);refine ⟨rfl,?_⟩
  refine CW.seq ?_
  refine CW.k XK 57 1 [0,1,7,8] rfl ?_
  (conv=>whnf);refine ⟨rfl,?_⟩
  refine CW.block ?_
  refine CW.loopI 57 (fun (zz : Nat × Int) => match zz with | (i, n) => [(0, S t), (1, I a), (7, I n), (8, I (i : Int))]) (fun (zz : Nat × Int) => match zz with | (i, n) => RvP t a i n) (fun (zz : Nat × Int) => match zz with | (i, n) => 5 - i) (0, 0) rfl (Le.c rfl <| Le.c rfl <| Le.c rfl <| Le.c rfl <| Le.e) (RvP.init hin hsz) ?_
  rintro ⟨i, n⟩ hP
  refine CW.seq ?_
  refine CW.seqJ 57 (fun (v3 : Bool) => [(0, S t), (1, I a), (7, I n), (8, I (i : Int)), (24, Bo v3)]) (fun v3 => v3 = (decide ((i : Int) < 5) && decide ((IntKind.i64.wrap (a + (i : Int))) < (t.size : Int)))) ?_ ?_
  ·refine CW.region ?_
   refine RW.k XK 57 3 rfl ?_
   (conv=>whnf);refine ⟨rfl,?_⟩
   refine RW.gv rfl rfl rfl rfl (fun h4 => V.mv (d := I a) rfl rfl) (fun h4 => ?_) (fun h4 => ?_)
   ·skip
    refine RW.k XK 57 6 rfl ?_
    (conv=>whnf);refine ⟨rfl,?_⟩
    refine RW.nil ?_
    exact ⟨_, by first | rfl | (simp_all; done) | (simp_all; omega) | grind, rfl, Le.of rfl⟩
   ·skip
    refine RW.k XK 57 6 rfl ?_
    (conv=>whnf);refine ⟨rfl,?_⟩
    refine RW.nil ?_
    exact ⟨_, by first | rfl | (simp_all; done) | (simp_all; omega) | grind, rfl, Le.of rfl⟩
  ·intro v3 hv5
   refine CW.cond rfl (fun h6 => ?_) (fun h6 => ?_)
   ·skip
    have hvv := hv5.symm.trans h6
    simp only [Bool.and_eq_true, decide_eq_true_eq] at hvv
    have h5 : i < 5 := by omega
    have hlt : a.toNat + i < t.size := hP.lt hvv.2
    obtain ⟨c, hb⟩ := hP.byte hlt
    refine CW.skip ?_
    refine CW.keep 57 [0,1,7,8] rfl ?_;(conv=>whnf);refine ⟨?_⟩
    refine CW.seq ?_
    refine CW.block ?_
    refine CW.seq ?_
    refine CW.region ?_
    refine RW.k XK 57 4 rfl ?_
    (conv=>whnf);refine ⟨rfl,?_⟩
    refine RW.v rfl (V.idxStrZ (m := (a.toNat + i)) rfl (by kernel_rfl) rfl rfl hP.ix hlt) ?_
    refine RW.k XK 57 2 rfl ?_
    (conv=>whnf);refine ⟨rfl,?_⟩
    refine RW.nil ?_
    refine CW.keep 57 [0,1,7,8,9] rfl ?_;(conv=>whnf);refine ⟨?_⟩
    refine CW.seq ?_
    refine CW.region ?_
    refine RW.k XK 57 5 rfl ?_
    (conv=>whnf);refine ⟨rfl,?_⟩
    refine RW.v rfl (V.shl rfl rfl rfl (by rw [wrap_small (by omega) (by omega)]; omega)) ?_
    refine RW.k XK 57 2 rfl ?_
    (conv=>whnf);refine ⟨rfl,?_⟩
    refine RW.nil ?_
    refine CW.keep 57 [0,1,7,8,9] rfl ?_;(conv=>whnf);refine ⟨?_⟩
    refine CW.seq ?_
    refine CW.k XK 57 1 [0,1,7,8,9,41] rfl ?_
    (conv=>whnf);refine ⟨rfl,?_⟩
    refine CW.cond rfl (fun h7 => ?_) (fun h7 => ?_)
    ·skip
     have hc : (c.toNat : Int) > 127 := by have h9 := of_decide_eq_true h7; rw [hb.wb] at h9; exact h9
     refine CW.exit ?_
     refine CW.keep 57 [0,1,7,8] rfl ?_;(conv=>whnf);refine ⟨?_⟩
     refine CW.region ?_
     refine RW.k XK 57 1 rfl ?_
     (conv=>whnf);refine ⟨rfl,?_⟩
     refine RW.v rfl (V.inc rfl rfl rfl h5 (by simp only [maxLen]; omega)) ?_
     refine RW.k XK 57 1 rfl ?_
     (conv=>whnf);refine ⟨rfl,?_⟩
     refine RW.nil ?_
     exact ⟨(i + 1, (IntKind.i64.wrap (n + (shlI (Int.tmod (IntKind.i64.wrap (bat t (a.toNat + i))) 128) (IntKind.i64.wrap (7 * (i : Int))))))), by simp only []; omega, (hP.next hb h5 hlt hc (hP.nI hb h5)), rfl, Le.c rfl <| Le.c rfl <| Le.c rfl <| Le.c rfl <| Le.e⟩
    ·skip
     have hc : (c.toNat : Int) ≤ 127 := by have h9 := of_decide_eq_false h7; rw [hb.wb] at h9; omega
     refine CW.skip ?_
     refine CW.keep 57 [1,7,8,9] rfl ?_;(conv=>whnf);refine ⟨?_⟩
     refine CW.seq ?_
     refine CW.seqJ 57 (fun (v8 : Bool) => [(1, I a), (7, I (IntKind.i64.wrap (n + (shlI (Int.tmod (IntKind.i64.wrap (bat t (a.toNat + i))) 128) (IntKind.i64.wrap (7 * (i : Int))))))), (8, I (i : Int)), (51, Bo v8)]) (fun v8 => v8 = ((decide ((i : Int) > 0) && ((IntKind.i64.wrap (bat t (a.toNat + i))) == 0)) || decide ((IntKind.i64.wrap (n + (shlI (Int.tmod (IntKind.i64.wrap (bat t (a.toNat + i))) 128) (IntKind.i64.wrap (7 * (i : Int)))))) > 1000000000))) ?_ ?_
     ·refine CW.region ?_
      refine RW.k XK 57 3 rfl ?_
      (conv=>whnf);refine ⟨rfl,?_⟩
      refine RW.gv rfl rfl rfl rfl (fun h9 => V.mv (d := I (IntKind.i64.wrap (bat t (a.toNat + i)))) rfl rfl) (fun h9 => ?_) (fun h9 => ?_)
      ·skip
       refine RW.k XK 57 3 rfl ?_
       (conv=>whnf);refine ⟨rfl,?_⟩
       refine RW.gv rfl rfl rfl rfl (fun h10 => V.mv (d := I (IntKind.i64.wrap (n + (shlI (Int.tmod (IntKind.i64.wrap (bat t (a.toNat + i))) 128) (IntKind.i64.wrap (7 * (i : Int))))))) rfl rfl) (fun h10 => ?_) (fun h10 => ?_)
       ·skip
        refine RW.k XK 57 2 rfl ?_
        (conv=>whnf);refine ⟨rfl,?_⟩
        refine RW.nil ?_
        exact ⟨_, by first | rfl | (simp_all; done) | (simp_all; omega) | grind, rfl, Le.of rfl⟩
       ·skip
        refine RW.k XK 57 2 rfl ?_
        (conv=>whnf);refine ⟨rfl,?_⟩
        refine RW.nil ?_
        exact ⟨_, by first | rfl | (simp_all; done) | (simp_all; omega) | grind, rfl, Le.of rfl⟩
      ·skip
       refine RW.k XK 57 6 rfl ?_
       (conv=>whnf);refine ⟨rfl,?_⟩
       refine RW.nil ?_
       exact ⟨_, by first | rfl | (simp_all; done) | (simp_all; omega) | grind, rfl, Le.of rfl⟩
     ·intro v8 hv11
      refine CW.cond rfl (fun h12 => ?_) (fun h12 => ?_)
      ·skip
       have hz := (hP.implT hb h5 hv11).1 h12
       refine CW.k XK 57 1 [4,5,6] rfl ?_
       (conv=>whnf);refine ⟨rfl,?_⟩
       refine CW.ret ?_
       exact Post.tup (by decide) (RVs.c (RV.i rfl (by rw [hP.badZ hb h5 hc hz])) (RVs.c (RV.i rfl (by rw [hP.badZ hb h5 hc hz])) (RVs.c (RV.b rfl (by rw [hP.badZ hb h5 hc hz])) RVs.e))) (AOs.r (AOs.r AOs.e))
      ·skip
       have hz := (hP.implT hb h5 hv11).2 h12
       refine CW.skip ?_
       refine CW.keep 57 [1,7,8] rfl ?_;(conv=>whnf);refine ⟨?_⟩
       refine CW.k XK 57 1 [4,5,6] rfl ?_
       (conv=>whnf);refine ⟨rfl,?_⟩
       refine CW.ret ?_
       exact Post.tup (by decide) (RVs.c (RV.i rfl (by rw [hP.goodZ hb h5 hc hz]; exact hP.nI hb h5)) (RVs.c (RV.i rfl (by rw [hP.goodZ hb h5 hc hz]; exact hP.nx)) (RVs.c (RV.b rfl (by rw [hP.goodZ hb h5 hc hz])) RVs.e))) (AOs.r (AOs.r AOs.e))
   ·skip
    have hen := hP.end_ (by have hvv := hv5.symm.trans h6; simp only [Bool.and_eq_false_iff, decide_eq_false_iff_not] at hvv; have h9 := hP.a0; have h8 := hP.sz; have h7 := hP.j5; rw [hP.ix] at hvv; omega)
    refine CW.exit ?_
    refine CW.keep 57 [] rfl ?_;(conv=>whnf);refine ⟨?_⟩
    refine CW.k XK 57 1 [4,5,6] rfl ?_
    (conv=>whnf);refine ⟨rfl,?_⟩
    refine CW.ret ?_
    exact Post.tup (by decide) (RVs.c (RV.i rfl (by rw [hen])) (RVs.c (RV.i rfl (by rw [hen])) (RVs.c (RV.b rfl (by rw [hen])) RVs.e))) (AOs.r (AOs.r AOs.e))
set_option maxHeartbeats 4000000 in
theorem spec_ReadVar_fn (t : ByteArray) (a : Int) (ht : t.size ≤ 1048576) : Eng.Fn E.P 97 [.one (.r (.v (.string t))), .one (.r (.v (.int .i64 a)))] (.tup [.one (.w (.v (.int .i64 ((rdVar t a).1)))), .one (.w (.v (.int .i64 ((rdVar t a).2.1)))), .one (.w (.v (.bool ((rdVar t a).2.2))))]) [.one (.r (.v (.string t))), .one (.r (.v (.int .i64 a)))] := by
 refine Eng.Fn.intro (E := E) (rvs := [.tmp 4, .tmp 5, .tmp 6]) Tryd.func97 rfl rfl rfl (by simp [outSlots, moved, rvSlot, sl]) ?_
 intro B g bo
 refine CW.keep 58 [0,1] rfl ?_;(conv=>whnf);refine ⟨?_⟩
 have hsz : t.size ≤ 4611686018427387904 := by omega
 refine CW.k XK 58 1 [0,1] rfl ?_
 (conv=>whnf);refine ⟨rfl,?_⟩
 refine CW.seq ?_
 refine CW.seq ?_
 refine CW.region ?_
 refine RW.k XK 58 3 rfl ?_
 (conv=>whnf);refine ⟨rfl,?_⟩
 refine RW.call rfl (spec_l01In_fn a 0 (t.size : Int)) rfl (.cons (.one (.r .r)) (.cons (.one (.r .r)) (.cons (.one (.r .r)) (.nil)))) fun g1 => ?_
 refine RW.k XK 58 1 rfl ?_
 (conv=>whnf);refine ⟨rfl,?_⟩
 refine RW.nil ?_
 refine CW.keep 58 [0,1,14] rfl ?_;(conv=>whnf);refine ⟨?_⟩
 refine CW.cond rfl (fun h2 => ?_) (fun h2 => ?_)
 ·skip
  refine CW.k XK 58 1 [4,5,6] rfl ?_
  (conv=>whnf);refine ⟨rfl,?_⟩
  refine CW.ret ?_
  exact Post.tup (by decide) (RVs.c (RV.i rfl (by rw [rdVar_out (nT (by assumption))])) (RVs.c (RV.i rfl (by rw [rdVar_out (nT (by assumption))])) (RVs.c (RV.b rfl (by rw [rdVar_out (nT (by assumption))])) RVs.e))) (AOs.r (AOs.r AOs.e))
 ·skip
  have hin := nF h2
  refine CW.skip ?_
  refine CW.keep 58 [0,1] rfl ?_;(conv=>whnf);refine ⟨?_⟩
  refine CW.k XK 58 2 [0,1,7,8] rfl ?_
  (conv=>whnf);refine ⟨rfl,?_⟩
  refine CW.seq ?_
  refine CW.k XK 58 1 [0,1,7,8,9] rfl ?_
  (conv=>whnf);refine ⟨rfl,?_⟩
  refine CW.block ?_
  refine CW.loopI 58 (fun (zz : Nat × Int) => match zz with | (j, n) => [(0, S t), (1, I a), (7, I n), (8, I ((128 ^ j : Nat) : Int)), (9, I (a + (j : Int)))]) (fun (zz : Nat × Int) => match zz with | (j, n) => RvP t a j n) (fun (zz : Nat × Int) => match zz with | (j, n) => 5 - j) (0, 0) rfl (Le.c rfl <| Le.c rfl <| Le.c rfl <| Le.c (congrArg I (by simp)) <| Le.c (congrArg I (by omega)) <| Le.e) (RvP.init hin hsz) ?_
  rintro ⟨j, n⟩ hP
  refine CW.seq ?_
  refine CW.seqJ 58 (fun (v3 : Bool) => [(0, S t), (1, I a), (7, I n), (8, I ((128 ^ j : Nat) : Int)), (9, I (a + (j : Int))), (25, Bo v3)]) (fun v3 => v3 = (decide ((a + (j : Int)) < (t.size : Int)) && decide ((a + (j : Int)) < (IntKind.i64.wrap (a + 5))))) ?_ ?_
  ·refine CW.region ?_
   refine RW.k XK 58 5 rfl ?_
   (conv=>whnf);refine ⟨rfl,?_⟩
   refine RW.gv rfl rfl rfl rfl (fun h4 => V.mv (d := I (a + (j : Int))) rfl rfl) (fun h4 => ?_) (fun h4 => ?_)
   ·skip
    refine RW.k XK 58 4 rfl ?_
    (conv=>whnf);refine ⟨rfl,?_⟩
    refine RW.nil ?_
    exact ⟨_, by first | rfl | (simp_all; done) | (simp_all; omega) | grind, rfl, Le.of rfl⟩
   ·skip
    refine RW.k XK 58 4 rfl ?_
    (conv=>whnf);refine ⟨rfl,?_⟩
    refine RW.nil ?_
    exact ⟨_, by first | rfl | (simp_all; done) | (simp_all; omega) | grind, rfl, Le.of rfl⟩
  ·intro v3 hv5
   refine CW.cond rfl (fun h6 => ?_) (fun h6 => ?_)
   ·skip
    have hvv := hv5.symm.trans h6
    simp only [Bool.and_eq_true, decide_eq_true_eq] at hvv
    have h5 : j < 5 := by have h9 := hP.a0; have h8 := hP.sz; rw [wrap_small (x := a + 5) (by omega) (by omega)] at hvv; omega
    have hlt : a.toNat + j < t.size := by have h9 := hP.a0; omega
    obtain ⟨c, hb⟩ := hP.byte hlt
    refine CW.skip ?_
    refine CW.keep 58 [0,1,7,8,9] rfl ?_;(conv=>whnf);refine ⟨?_⟩
    refine CW.seq ?_
    refine CW.block ?_
    refine CW.seq ?_
    refine CW.region ?_
    refine RW.k XK 58 3 rfl ?_
    (conv=>whnf);refine ⟨rfl,?_⟩
    refine RW.v rfl (V.idxStrZ (m := (a.toNat + j)) rfl (by kernel_rfl) rfl rfl (by have h9 := hP.a0; omega) hlt) ?_
    refine RW.k XK 58 6 rfl ?_
    (conv=>whnf);refine ⟨rfl,?_⟩
    refine RW.nil ?_
    refine CW.keep 58 [0,1,7,8,9] rfl ?_;(conv=>whnf);refine ⟨?_⟩
    refine CW.k XK 58 1 [0,1,7,8,9] rfl ?_
    (conv=>whnf);refine ⟨rfl,?_⟩
    refine CW.seq ?_
    refine CW.region ?_
    refine RW.k XK 58 2 rfl ?_
    (conv=>whnf);refine ⟨rfl,?_⟩
    refine RW.v rfl (V.idxStrZ (m := (a.toNat + j)) rfl (by kernel_rfl) rfl rfl (by have h9 := hP.a0; omega) hlt) ?_
    refine RW.k XK 58 1 rfl ?_
    (conv=>whnf);refine ⟨rfl,?_⟩
    refine RW.nil ?_
    refine CW.keep 58 [0,1,7,8,9,42] rfl ?_;(conv=>whnf);refine ⟨?_⟩
    refine CW.cond rfl (fun h7 => ?_) (fun h7 => ?_)
    ·skip
     have hc : (c.toNat : Int) ≤ 127 := by have h9 := of_decide_eq_true h7; rw [hb.bt] at h9; omega
     refine CW.seq ?_
     refine CW.anyP (fc := []) 58 (fun (v8 : Bool) => [(7, I (IntKind.i64.wrap (n + (IntKind.i64.wrap ((Int.tmod (IntKind.i64.wrap (bat t (a.toNat + j))) 128) * ((128 ^ j : Nat) : Int)))))), (9, I (a + (j : Int))), (54, Bo v8)]) (fun (v8 : Bool) => v8 = (decide ((IntKind.i64.wrap (n + (IntKind.i64.wrap ((Int.tmod (IntKind.i64.wrap (bat t (a.toNat + j))) 128) * ((128 ^ j : Nat) : Int))))) > 1000000000) || (!((varB (IntKind.i64.wrap (n + (IntKind.i64.wrap ((Int.tmod (IntKind.i64.wrap (bat t (a.toNat + j))) 128) * ((128 ^ j : Nat) : Int))))).toNat).toList == (t.extract a.toNat (IntKind.i64.wrap ((a + (j : Int)) + 1)).toNat).toList)))) (fun K hK => ?_) ?_
     ·refine RA.start (m := 12) (ls' := (bt 12 0)) (by kernel_rfl) (by kernel_rfl) ?_
      refine RA.keep 58 [0,1,7,9] rfl ?_;(conv=>whnf);refine ⟨?_⟩
      refine RA.fr XK 58 9 [0,1,2] (bt 12 7) rfl rfl (by kernel_rfl) (Tell.of rfl) ?_
      (conv=>whnf);refine ⟨rfl,fun B=>?_⟩
      refine RA.keep 58 [0,1,7,9,45] rfl ?_;(conv=>whnf);refine ⟨?_⟩
      refine RA.bool 45 rfl (fun h9 => ?_) (fun h9 => ?_)
      ·skip
       refine RA.firstF (i := 3) (ls' := (bt 12 15)) (Tell.of rfl) (by kernel_rfl) rfl rfl rfl rfl rfl (.inl rfl) ?_
       refine RA.firstF (i := 4) (ls' := (bt 12 31)) (Tell.of rfl) (by kernel_rfl) rfl rfl rfl rfl rfl (.inl rfl) ?_
       refine RA.firstF (i := 5) (ls' := (bt 12 63)) (Tell.of rfl) (by kernel_rfl) rfl rfl rfl rfl rfl (.inl rfl) ?_
       refine RA.firstF (i := 6) (ls' := (bt 12 127)) (Tell.of rfl) (by kernel_rfl) rfl rfl rfl rfl rfl (.inl rfl) ?_
       refine RA.firstF (i := 7) (ls' := (bt 12 255)) (Tell.of rfl) (by kernel_rfl) rfl rfl rfl rfl rfl (.inl rfl) ?_
       refine RA.firstF (i := 8) (ls' := (bt 12 511)) (Tell.of rfl) (by kernel_rfl) rfl rfl rfl rfl rfl (.inl rfl) ?_
       refine RA.firstF (i := 9) (ls' := (bt 12 1023)) (Tell.of rfl) (by kernel_rfl) rfl rfl rfl rfl rfl (.inl rfl) ?_
       refine RA.firstF (i := 10) (ls' := (bt 12 2047)) (Tell.of rfl) (by kernel_rfl) rfl rfl rfl rfl rfl (.inl rfl) ?_
       refine RA.keep 58 [7,9,45,53] rfl ?_;(conv=>whnf);refine ⟨?_⟩
       refine RA.fr XK 58 0 [11] (bt 12 4095) rfl rfl (by kernel_rfl) (Tell.of rfl) ?_
       (conv=>whnf);refine ⟨rfl,fun B=>?_⟩
       exact RA.finH (Tell.of rfl) (by kernel_rfl) (hK _ _ (by first | rfl | (simp_all; done) | grind) rfl (Le.of rfl))
      ·skip
       refine RA.firstT (i := 3) (ls' := (bt 12 15)) (Tell.of rfl) (by kernel_rfl) rfl rfl rfl rfl rfl rfl (VF.p (V.mv (d := I (IntKind.i64.wrap (n + (IntKind.i64.wrap ((Int.tmod (IntKind.i64.wrap (bat t (a.toNat + j))) 128) * ((128 ^ j : Nat) : Int)))))) rfl rfl)) ?_
       refine RA.firstT (i := 5) (ls' := (bt 12 47)) (Tell.of rfl) (by kernel_rfl) rfl rfl rfl rfl rfl rfl (VF.p (V.mv (d := S t) rfl rfl)) ?_
       refine RA.firstT (i := 6) (ls' := (bt 12 111)) (Tell.of rfl) (by kernel_rfl) rfl rfl rfl rfl rfl rfl (VF.p (V.mv (d := I a) rfl rfl)) ?_
       refine RA.firstT (i := 7) (ls' := (bt 12 239)) (Tell.of rfl) (by kernel_rfl) rfl rfl rfl rfl rfl rfl (VF.p (V.mv (d := I (a + (j : Int))) rfl rfl)) ?_
       refine RA.firstT (i := 8) (ls' := (bt 12 495)) (Tell.of rfl) (by kernel_rfl) rfl rfl rfl rfl rfl rfl (VF.p (V.arInt rfl rfl rfl rfl)) ?_
       refine RA.firstT (i := 9) (ls' := (bt 12 1007)) (Tell.of rfl) (by kernel_rfl) rfl rfl rfl rfl rfl rfl (VF.p (V.strSlice (l := a) (h := (IntKind.i64.wrap ((a + (j : Int)) + 1))) rfl (by kernel_rfl) rfl (.inr ⟨_, _, rfl, rfl⟩) (.inr ⟨_, _, rfl, rfl⟩) (by have h9 := hP.a0; have h8 := hP.sz; rw [wrap_small (by omega) (by omega)]; omega))) ?_
       refine RA.keep 58 [7,9,45,46,52] rfl ?_;(conv=>whnf);refine ⟨?_⟩
       refine RA.oneCall (i := 4) (ls' := (bt 12 1023)) (Tell.of rfl) (by kernel_rfl) rfl rfl rfl rfl rfl rfl (spec_l01Var_fn (IntKind.i64.wrap (n + (IntKind.i64.wrap ((Int.tmod (IntKind.i64.wrap (bat t (a.toNat + j))) 128) * ((128 ^ j : Nat) : Int))))) (by rw [hP.nS hb h5]; have h9 := (hP.more hb h5).2; have h8 := (hP.more hb h5).1; omega)) rfl (.cons (.one (.r .r)) (.nil)) fun g10 => ?_
       refine RA.firstT (i := 10) (ls' := (bt 12 2047)) (Tell.of rfl) (by kernel_rfl) rfl rfl rfl rfl rfl rfl (VF.p (V.strCmp rfl rfl rfl rfl)) ?_
       refine RA.fr XK 58 0 [11] (bt 12 4095) rfl rfl (by kernel_rfl) (Tell.of rfl) ?_
       (conv=>whnf);refine ⟨rfl,fun B=>?_⟩
       exact RA.finH (Tell.of rfl) (by kernel_rfl) (hK _ _ (by first | rfl | (simp_all; done) | grind) rfl (Le.of rfl))
     ·rintro v8 hv11
      refine CW.cond rfl (fun h12 => ?_) (fun h12 => ?_)
      ·skip
       have hz := (hP.specT hb h5 hc hlt hv11).1 h12
       refine CW.k XK 58 1 [4,5,6] rfl ?_
       (conv=>whnf);refine ⟨rfl,?_⟩
       refine CW.ret ?_
       exact Post.tup (by decide) (RVs.c (RV.i rfl (by rw [hP.badZ hb h5 hc hz])) (RVs.c (RV.i rfl (by rw [hP.badZ hb h5 hc hz])) (RVs.c (RV.b rfl (by rw [hP.badZ hb h5 hc hz])) RVs.e))) (AOs.r (AOs.r AOs.e))
      ·skip
       have hz := (hP.specT hb h5 hc hlt hv11).2 h12
       refine CW.skip ?_
       refine CW.keep 58 [7,9] rfl ?_;(conv=>whnf);refine ⟨?_⟩
       refine CW.k XK 58 1 [4,5,6] rfl ?_
       (conv=>whnf);refine ⟨rfl,?_⟩
       refine CW.ret ?_
       exact Post.tup (by decide) (RVs.c (RV.i rfl (by rw [hP.goodZ hb h5 hc hz]; exact hP.nS hb h5)) (RVs.c (RV.i rfl (by rw [hP.goodZ hb h5 hc hz]; have h9 := hP.a0; have h8 := hP.sz; rw [wrap_small (by omega) (by omega)]; show _ = a + ((j + 1 : Nat) : Int); omega)) (RVs.c (RV.b rfl (by rw [hP.goodZ hb h5 hc hz])) RVs.e))) (AOs.r (AOs.r AOs.e))
    ·skip
     have hc : (c.toNat : Int) > 127 := by have h9 := of_decide_eq_false h7; rw [hb.bt] at h9; omega
     refine CW.skip ?_
     refine CW.keep 58 [0,1,7,8,9] rfl ?_;(conv=>whnf);refine ⟨?_⟩
     refine CW.region ?_
     refine RW.k XK 58 3 rfl ?_
     (conv=>whnf);refine ⟨rfl,?_⟩
     refine RW.nil ?_
     exact ⟨(j + 1, (IntKind.i64.wrap (n + (IntKind.i64.wrap ((Int.tmod (IntKind.i64.wrap (bat t (a.toNat + j))) 128) * ((128 ^ j : Nat) : Int)))))), by simp only []; omega, (hP.next hb h5 hlt hc (hP.nS hb h5)), rfl, Le.c rfl <| Le.c rfl <| Le.c rfl <| Le.c (congrArg I (pow_next h5)) <| Le.c (congrArg I (by have h9 := hP.a0; have h8 := hP.sz; rw [wrap_small (by omega) (by omega)]; omega)) <| Le.e⟩
   ·skip
    have hen := hP.end_ (by have hvv := hv5.symm.trans h6; simp only [Bool.and_eq_false_iff, decide_eq_false_iff_not] at hvv; have h9 := hP.a0; have h8 := hP.sz; have h7 := hP.j5; rw [wrap_small (x := a + 5) (by omega) (by omega)] at hvv; omega)
    refine CW.exit ?_
    refine CW.keep 58 [] rfl ?_;(conv=>whnf);refine ⟨?_⟩
    refine CW.k XK 58 1 [4,5,6] rfl ?_
    (conv=>whnf);refine ⟨rfl,?_⟩
    refine CW.ret ?_
    exact Post.tup (by decide) (RVs.c (RV.i rfl (by rw [hen])) (RVs.c (RV.i rfl (by rw [hen])) (RVs.c (RV.b rfl (by rw [hen])) RVs.e))) (AOs.r (AOs.r AOs.e))
set_option maxHeartbeats 4000000 in
theorem impl_ReadShort_fn (t : ByteArray) (a : Int) (ht : t.size ≤ 1048576) : Eng.Fn E.P 96 [.one (.r (.v (.string t))), .one (.r (.v (.int .i64 a)))] (.tup [.one (.w (.v (.string ((rdShort t a).1)))), .one (.w (.v (.int .i64 ((rdShort t a).2.1)))), .one (.w (.v (.bool ((rdShort t a).2.2))))]) [.one (.r (.v (.string t))), .one (.r (.v (.int .i64 a)))] := by
 refine Eng.Fn.intro (E := E) (rvs := [.tmp 4, .tmp 5, .tmp 6]) Tryd.func96 rfl rfl rfl (by simp [outSlots, moved, rvSlot, sl]) ?_
 intro B g bo
 refine CW.keep 40 [0,1] rfl ?_;(conv=>whnf);refine ⟨?_⟩
 refine CW.k XK 40 1 [0,1] rfl ?_
 (conv=>whnf);refine ⟨rfl,?_⟩
 refine CW.seq ?_
 refine CW.region ?_
 refine RW.k XK 40 2 rfl ?_
 (conv=>whnf);refine ⟨rfl,?_⟩
 refine RW.call rfl (impl_ReadVar_fn t a ht) rfl (.cons (.one (.r .r)) (.cons (.one (.r .r)) (.nil))) fun g1 => ?_
 refine RW.k XK 40 7 rfl ?_
 (conv=>whnf);refine ⟨rfl,?_⟩
 refine RW.nil ?_
 refine CW.keep 40 [0,7,8,9] rfl ?_;(conv=>whnf);refine ⟨?_⟩
 refine CW.seq ?_
 refine CW.seqJ 40 (fun (v2 : Bool) => [(0, S t), (7, I ((rdVar t a).1)), (8, I ((rdVar t a).2.1)), (30, Bo v2)]) (fun v2 => v2 = (((!((rdVar t a).2.2)) || decide (((rdVar t a).1) > 20000)) || decide (((rdVar t a).1) > (IntKind.i64.wrap ((t.size : Int) - ((rdVar t a).2.1)))))) ?_ ?_
 ·refine CW.region ?_
  refine RW.k XK 40 3 rfl ?_
  (conv=>whnf);refine ⟨rfl,?_⟩
  refine RW.gv rfl rfl rfl rfl (fun h3 => V.mv (d := I ((rdVar t a).1)) rfl rfl) (fun h3 => ?_) (fun h3 => ?_)
  ·skip
   refine RW.k XK 40 3 rfl ?_
   (conv=>whnf);refine ⟨rfl,?_⟩
   refine RW.gv rfl rfl rfl rfl (fun h4 => V.mv (d := I ((rdVar t a).1)) rfl rfl) (fun h4 => ?_) (fun h4 => ?_)
   ·skip
    refine RW.k XK 40 6 rfl ?_
    (conv=>whnf);refine ⟨rfl,?_⟩
    refine RW.nil ?_
    exact ⟨_, by first | rfl | (simp_all; done) | (simp_all; omega) | grind, rfl, Le.of rfl⟩
   ·skip
    refine RW.k XK 40 6 rfl ?_
    (conv=>whnf);refine ⟨rfl,?_⟩
    refine RW.nil ?_
    exact ⟨_, by first | rfl | (simp_all; done) | (simp_all; omega) | grind, rfl, Le.of rfl⟩
  ·skip
   refine RW.k XK 40 10 rfl ?_
   (conv=>whnf);refine ⟨rfl,?_⟩
   refine RW.nil ?_
   exact ⟨_, by first | rfl | (simp_all; done) | (simp_all; omega) | grind, rfl, Le.of rfl⟩
 ·intro v2 hv5
  refine CW.cond rfl (fun h6 => ?_) (fun h6 => ?_)
  ·skip
   have hvv := hv5.symm.trans h6
   refine CW.k XK 40 1 [4,5,6] rfl ?_
   (conv=>whnf);refine ⟨rfl,?_⟩
   refine CW.ret ?_
   exact Post.tup (by decide) (RVs.c (RV.s rfl (by rw [rdS_no hvv ht])) (RVs.c (RV.i rfl (by rw [rdS_no hvv ht])) (RVs.c (RV.b rfl (by rw [rdS_no hvv ht])) RVs.e))) (AOs.r (AOs.r AOs.e))
  ·skip
   have hvv := hv5.symm.trans h6
   refine CW.skip ?_
   refine CW.keep 40 [0,7,8] rfl ?_;(conv=>whnf);refine ⟨?_⟩
   refine CW.seq ?_
   refine CW.region ?_
   refine RW.k XK 40 5 rfl ?_
   (conv=>whnf);refine ⟨rfl,?_⟩
   refine RW.v rfl (V.strSlice (l := ((rdVar t a).2.1)) (h := (IntKind.i64.wrap (((rdVar t a).2.1) + ((rdVar t a).1)))) rfl (by kernel_rfl) rfl (.inr ⟨_, _, rfl, rfl⟩) (.inr ⟨_, _, rfl, rfl⟩) (rdS_yes hvv ht).2) ?_
   refine RW.k XK 40 6 rfl ?_
   (conv=>whnf);refine ⟨rfl,?_⟩
   refine RW.nil ?_
   refine CW.keep 40 [4,5,6] rfl ?_;(conv=>whnf);refine ⟨?_⟩
   refine CW.ret ?_
   exact Post.tup (by decide) (RVs.c (RV.s rfl (by rw [(rdS_yes hvv ht).1])) (RVs.c (RV.i rfl (by rw [(rdS_yes hvv ht).1])) (RVs.c (RV.b rfl (by rw [(rdS_yes hvv ht).1])) RVs.e))) (AOs.r (AOs.r AOs.e))
set_option maxHeartbeats 4000000 in
theorem spec_ReadShort_fn (t : ByteArray) (a : Int) (ht : t.size ≤ 1048576) : Eng.Fn E.P 98 [.one (.r (.v (.string t))), .one (.r (.v (.int .i64 a)))] (.tup [.one (.w (.v (.string ((rdShort t a).1)))), .one (.w (.v (.int .i64 ((rdShort t a).2.1)))), .one (.w (.v (.bool ((rdShort t a).2.2))))]) [.one (.r (.v (.string t))), .one (.r (.v (.int .i64 a)))] := by
 refine Eng.Fn.intro (E := E) (rvs := [.tmp 4, .tmp 5, .tmp 6]) Tryd.func98 rfl rfl rfl (by simp [outSlots, moved, rvSlot, sl]) ?_
 intro B g bo
 refine CW.keep 40 [0,1] rfl ?_;(conv=>whnf);refine ⟨?_⟩
 refine CW.k XK 40 1 [0,1] rfl ?_
 (conv=>whnf);refine ⟨rfl,?_⟩
 refine CW.seq ?_
 refine CW.region ?_
 refine RW.k XK 40 2 rfl ?_
 (conv=>whnf);refine ⟨rfl,?_⟩
 refine RW.call rfl (spec_ReadVar_fn t a ht) rfl (.cons (.one (.r .r)) (.cons (.one (.r .r)) (.nil))) fun g1 => ?_
 refine RW.k XK 40 7 rfl ?_
 (conv=>whnf);refine ⟨rfl,?_⟩
 refine RW.nil ?_
 refine CW.keep 40 [0,7,8,9] rfl ?_;(conv=>whnf);refine ⟨?_⟩
 refine CW.seq ?_
 refine CW.seqJ 40 (fun (v2 : Bool) => [(0, S t), (7, I ((rdVar t a).1)), (8, I ((rdVar t a).2.1)), (30, Bo v2)]) (fun v2 => v2 = (((!((rdVar t a).2.2)) || decide (((rdVar t a).1) > 20000)) || decide (((rdVar t a).1) > (IntKind.i64.wrap ((t.size : Int) - ((rdVar t a).2.1)))))) ?_ ?_
 ·refine CW.region ?_
  refine RW.k XK 40 3 rfl ?_
  (conv=>whnf);refine ⟨rfl,?_⟩
  refine RW.gv rfl rfl rfl rfl (fun h3 => V.mv (d := I ((rdVar t a).1)) rfl rfl) (fun h3 => ?_) (fun h3 => ?_)
  ·skip
   refine RW.k XK 40 3 rfl ?_
   (conv=>whnf);refine ⟨rfl,?_⟩
   refine RW.gv rfl rfl rfl rfl (fun h4 => V.mv (d := I ((rdVar t a).1)) rfl rfl) (fun h4 => ?_) (fun h4 => ?_)
   ·skip
    refine RW.k XK 40 6 rfl ?_
    (conv=>whnf);refine ⟨rfl,?_⟩
    refine RW.nil ?_
    exact ⟨_, by first | rfl | (simp_all; done) | (simp_all; omega) | grind, rfl, Le.of rfl⟩
   ·skip
    refine RW.k XK 40 6 rfl ?_
    (conv=>whnf);refine ⟨rfl,?_⟩
    refine RW.nil ?_
    exact ⟨_, by first | rfl | (simp_all; done) | (simp_all; omega) | grind, rfl, Le.of rfl⟩
  ·skip
   refine RW.k XK 40 10 rfl ?_
   (conv=>whnf);refine ⟨rfl,?_⟩
   refine RW.nil ?_
   exact ⟨_, by first | rfl | (simp_all; done) | (simp_all; omega) | grind, rfl, Le.of rfl⟩
 ·intro v2 hv5
  refine CW.cond rfl (fun h6 => ?_) (fun h6 => ?_)
  ·skip
   have hvv := hv5.symm.trans h6
   refine CW.k XK 40 1 [4,5,6] rfl ?_
   (conv=>whnf);refine ⟨rfl,?_⟩
   refine CW.ret ?_
   exact Post.tup (by decide) (RVs.c (RV.s rfl (by rw [rdS_no hvv ht])) (RVs.c (RV.i rfl (by rw [rdS_no hvv ht])) (RVs.c (RV.b rfl (by rw [rdS_no hvv ht])) RVs.e))) (AOs.r (AOs.r AOs.e))
  ·skip
   have hvv := hv5.symm.trans h6
   refine CW.skip ?_
   refine CW.keep 40 [0,7,8] rfl ?_;(conv=>whnf);refine ⟨?_⟩
   refine CW.seq ?_
   refine CW.region ?_
   refine RW.k XK 40 5 rfl ?_
   (conv=>whnf);refine ⟨rfl,?_⟩
   refine RW.v rfl (V.strSlice (l := ((rdVar t a).2.1)) (h := (IntKind.i64.wrap (((rdVar t a).2.1) + ((rdVar t a).1)))) rfl (by kernel_rfl) rfl (.inr ⟨_, _, rfl, rfl⟩) (.inr ⟨_, _, rfl, rfl⟩) (rdS_yes hvv ht).2) ?_
   refine RW.k XK 40 6 rfl ?_
   (conv=>whnf);refine ⟨rfl,?_⟩
   refine RW.nil ?_
   refine CW.keep 40 [4,5,6] rfl ?_;(conv=>whnf);refine ⟨?_⟩
   refine CW.ret ?_
   exact Post.tup (by decide) (RVs.c (RV.s rfl (by rw [(rdS_yes hvv ht).1])) (RVs.c (RV.i rfl (by rw [(rdS_yes hvv ht).1])) (RVs.c (RV.b rfl (by rw [(rdS_yes hvv ht).1])) RVs.e))) (AOs.r (AOs.r AOs.e))
set_option maxHeartbeats 4000000 in
theorem __impl_scan__number_fn (s : scan) (hs : s.ok) : Eng.Fn E.P 88 [.ob ((scan.c s).map .r)] (.one (.one (.w (.v (.int .i64 (numV s)))))) [.ob ((scan.c (numS s)).map .r)] := by
 refine Eng.Fn.intro (E := E) (rvs := [.tmp 2]) Tryd.func88 rfl rfl rfl (by simp [outSlots, moved, rvSlot, sl]) ?_
 intro B g bo
 refine CW.keep 35 [0] rfl ?_;(conv=>whnf);refine ⟨?_⟩
 refine CW.k XK 35 1 [0] rfl ?_
 (conv=>whnf);refine ⟨rfl,?_⟩
 refine CW.anyJ2 (fc := [(0, (bo 0), [.string s.text, .int .i64 s.at_, .bool s.bad])]) (L0 := [(0, .obj (bo 0) ((scan.c s).map .r))]) 35 (fun (go1_8_1 : (Nat → Nat → Value)) => [(3, I ((rdVar s.text s.at_).1)), (4, I ((rdVar s.text s.at_).2.1)), (5, Bo ((rdVar s.text s.at_).2.2))]) (fun all hall f hf b0 hb K hK => ?_) ?_
 ·skip
  have ro1_9 : ∀ B, ∀ (go1_8_1 : Nat → Nat → Value), RA f E B all 0 (bt 16 65535) ⟨35, [(3, I ((rdVar s.text s.at_).1)), (4, I ((rdVar s.text s.at_).2.1)), (5, Bo ((rdVar s.text s.at_).2.2))] ++ b0⟩ K := by
   intro B go1_8_1
   exact RA.of2 hall hf hb (RA.finH (Tell.of rfl) (by kernel_rfl) (hK go1_8_1 _ rfl (Le.of rfl)))
  have ro1_8 : ∀ B, ∀ (go1_8_1 : Nat → Nat → Value), RA f E B all 2 (bt 16 28671) ⟨35, [(3, I ((rdVar s.text s.at_).1)), (4, I ((rdVar s.text s.at_).2.1)), (6, .tup [.u, .u, Bo ((rdVar s.text s.at_).2.2)])] ++ b0⟩ K := by
   intro B go1_8_1
   refine RA.of2 hall hf hb (RA.stepH (L := [12]) (Tell.of rfl) (by kernel_rfl) (by simp) (RA.each ?_ (RA.each0)))
   ·skip
    refine RO.extract (d := Bo ((rdVar s.text s.at_).2.2)) rfl rfl rfl rfl rfl (by decide) (Nat.le_of_ble_eq_true rfl) rfl rfl ?_
    refine RA.fr XK 35 0 [15] (bt 16 65535) rfl rfl (by kernel_rfl) (Tell.of rfl) ?_
    (conv=>whnf);refine ⟨rfl,fun B=>?_⟩
    exact RA.to2 hall hf hb (ro1_9 B go1_8_1) rfl rfl (by kernel_rfl)
  have ro1_7 : ∀ B, ∀ (go1_8_1 : Nat → Nat → Value), RA f E B all 3 (bt 16 14335) ⟨35, [(3, I ((rdVar s.text s.at_).1)), (6, .tup [.u, I ((rdVar s.text s.at_).2.1), .u]), (18, Bo ((rdVar s.text s.at_).2.2))] ++ b0⟩ K := by
   intro B go1_8_1
   refine RA.of2 hall hf hb (RA.stepH (L := [11]) (Tell.of rfl) (by kernel_rfl) (by simp) (RA.each ?_ (RA.each0)))
   ·skip
    refine RO.extract (d := I ((rdVar s.text s.at_).2.1)) rfl rfl rfl rfl rfl (by decide) (Nat.le_of_ble_eq_true rfl) rfl rfl ?_
    refine RA.fr XK 35 0 [14,15] (bt 16 65535) rfl rfl (by kernel_rfl) (Tell.of rfl) ?_
    (conv=>whnf);refine ⟨rfl,fun B=>?_⟩
    exact RA.to2 hall hf hb (ro1_9 B go1_8_1) rfl rfl (by kernel_rfl)
  have ro1_6 : ∀ B, ∀ (go1_8_1 : Nat → Nat → Value), RA f E B all 4 (bt 16 7167) ⟨35, [(6, .tup [I ((rdVar s.text s.at_).1), .u, .u]), (17, I ((rdVar s.text s.at_).2.1)), (18, Bo ((rdVar s.text s.at_).2.2))] ++ b0⟩ K := by
   intro B go1_8_1
   refine RA.of2 hall hf hb (RA.stepH (L := [10]) (Tell.of rfl) (by kernel_rfl) (by simp) (RA.each ?_ (RA.each0)))
   ·skip
    refine RO.extract (d := I ((rdVar s.text s.at_).1)) rfl rfl rfl rfl rfl (by decide) (Nat.le_of_ble_eq_true rfl) rfl rfl ?_
    refine RA.fr XK 35 0 [13,14,15] (bt 16 65535) rfl rfl (by kernel_rfl) (Tell.of rfl) ?_
    (conv=>whnf);refine ⟨rfl,fun B=>?_⟩
    exact RA.to2 hall hf hb (ro1_9 B go1_8_1) rfl rfl (by kernel_rfl)
  have ro1_5 : ∀ B, ∀ (go1_8_1 : Nat → Nat → Value), RA f E B all 4 (bt 16 10239) ⟨35, [(3, I ((rdVar s.text s.at_).1)), (6, .tup [.u, I ((rdVar s.text s.at_).2.1), Bo ((rdVar s.text s.at_).2.2)])] ++ b0⟩ K := by
   intro B go1_8_1
   refine RA.of2 hall hf hb (RA.stepH (L := [11, 12]) (Tell.of rfl) (by kernel_rfl) (by simp) (RA.each ?_ (RA.each ?_ (RA.each0))))
   ·skip
    refine RO.extract (d := I ((rdVar s.text s.at_).2.1)) rfl rfl rfl rfl rfl (by decide) (Nat.le_of_ble_eq_true rfl) rfl rfl ?_
    refine RA.fr XK 35 2 [14] (bt 16 28671) rfl rfl (by kernel_rfl) (Tell.of rfl) ?_
    (conv=>whnf);refine ⟨rfl,fun B=>?_⟩
    exact RA.to2 hall hf hb (ro1_8 B go1_8_1) rfl rfl (by kernel_rfl)
   ·skip
    refine RO.extract (d := Bo ((rdVar s.text s.at_).2.2)) rfl rfl rfl rfl rfl (by decide) (Nat.le_of_ble_eq_true rfl) rfl rfl ?_
    exact RA.to2 hall hf hb (ro1_7 B go1_8_1) rfl rfl (by kernel_rfl)
  have ro1_4 : ∀ B, ∀ (go1_8_1 : Nat → Nat → Value), RA f E B all 5 (bt 16 5119) ⟨35, [(6, .tup [I ((rdVar s.text s.at_).1), I ((rdVar s.text s.at_).2.1), .u]), (18, Bo ((rdVar s.text s.at_).2.2))] ++ b0⟩ K := by
   intro B go1_8_1
   refine RA.of2 hall hf hb (RA.stepH (L := [10, 11]) (Tell.of rfl) (by kernel_rfl) (by simp) (RA.each ?_ (RA.each ?_ (RA.each0))))
   ·skip
    refine RO.extract (d := I ((rdVar s.text s.at_).1)) rfl rfl rfl rfl rfl (by decide) (Nat.le_of_ble_eq_true rfl) rfl rfl ?_
    refine RA.fr XK 35 3 [13] (bt 16 14335) rfl rfl (by kernel_rfl) (Tell.of rfl) ?_
    (conv=>whnf);refine ⟨rfl,fun B=>?_⟩
    exact RA.to2 hall hf hb (ro1_7 B go1_8_1) rfl rfl (by kernel_rfl)
   ·skip
    refine RO.extract (d := I ((rdVar s.text s.at_).2.1)) rfl rfl rfl rfl rfl (by decide) (Nat.le_of_ble_eq_true rfl) rfl rfl ?_
    exact RA.to2 hall hf hb (ro1_6 B go1_8_1) rfl rfl (by kernel_rfl)
  have ro1_3 : ∀ B, ∀ (go1_8_1 : Nat → Nat → Value), RA f E B all 5 (bt 16 3071) ⟨35, [(6, .tup [I ((rdVar s.text s.at_).1), .u, Bo ((rdVar s.text s.at_).2.2)]), (17, I ((rdVar s.text s.at_).2.1))] ++ b0⟩ K := by
   intro B go1_8_1
   refine RA.of2 hall hf hb (RA.stepH (L := [10, 12]) (Tell.of rfl) (by kernel_rfl) (by simp) (RA.each ?_ (RA.each ?_ (RA.each0))))
   ·skip
    refine RO.extract (d := I ((rdVar s.text s.at_).1)) rfl rfl rfl rfl rfl (by decide) (Nat.le_of_ble_eq_true rfl) rfl rfl ?_
    refine RA.fr XK 35 2 [13,14] (bt 16 28671) rfl rfl (by kernel_rfl) (Tell.of rfl) ?_
    (conv=>whnf);refine ⟨rfl,fun B=>?_⟩
    exact RA.to2 hall hf hb (ro1_8 B go1_8_1) rfl rfl (by kernel_rfl)
   ·skip
    refine RO.extract (d := Bo ((rdVar s.text s.at_).2.2)) rfl rfl rfl rfl rfl (by decide) (Nat.le_of_ble_eq_true rfl) rfl rfl ?_
    exact RA.to2 hall hf hb (ro1_6 B go1_8_1) rfl rfl (by kernel_rfl)
  have ro1_2 : ∀ B, ∀ (go1_8_1 : Nat → Nat → Value), RA f E B all 6 (bt 16 1023) ⟨35, [(6, .tup [I ((rdVar s.text s.at_).1), I ((rdVar s.text s.at_).2.1), Bo ((rdVar s.text s.at_).2.2)])] ++ b0⟩ K := by
   intro B go1_8_1
   refine RA.of2 hall hf hb (RA.stepH (L := [10, 11, 12]) (Tell.of rfl) (by kernel_rfl) (by simp) (RA.each ?_ (RA.each ?_ (RA.each ?_ (RA.each0)))))
   ·skip
    refine RO.extract (d := I ((rdVar s.text s.at_).1)) rfl rfl rfl rfl rfl (by decide) (Nat.le_of_ble_eq_true rfl) rfl rfl ?_
    refine RA.fr XK 35 4 [13] (bt 16 10239) rfl rfl (by kernel_rfl) (Tell.of rfl) ?_
    (conv=>whnf);refine ⟨rfl,fun B=>?_⟩
    exact RA.to2 hall hf hb (ro1_5 B go1_8_1) rfl rfl (by kernel_rfl)
   ·skip
    refine RO.extract (d := I ((rdVar s.text s.at_).2.1)) rfl rfl rfl rfl rfl (by decide) (Nat.le_of_ble_eq_true rfl) rfl rfl ?_
    exact RA.to2 hall hf hb (ro1_3 B go1_8_1) rfl rfl (by kernel_rfl)
   ·skip
    refine RO.extract (d := Bo ((rdVar s.text s.at_).2.2)) rfl rfl rfl rfl rfl (by decide) (Nat.le_of_ble_eq_true rfl) rfl rfl ?_
    exact RA.to2 hall hf hb (ro1_4 B go1_8_1) rfl rfl (by kernel_rfl)
  have ro1_1 : ∀ B, ∀ (go1_8_1 : Nat → Nat → Value), RA f E B all 7 (bt 16 511) ⟨35, [(15, .tup [I ((rdVar s.text s.at_).1), I ((rdVar s.text s.at_).2.1), Bo ((rdVar s.text s.at_).2.2)])] ++ b0⟩ K := by
   intro B go1_8_1
   refine RA.of2 hall hf hb (RA.stepH (L := [9]) (Tell.of rfl) (by kernel_rfl) (by simp) (RA.each ?_ (RA.each0)))
   ·skip
    refine RO.moveMove rfl rfl rfl rfl rfl (by decide) (Nat.le_of_ble_eq_true rfl) (Nat.le_of_ble_eq_true rfl) ?_
    exact RA.to2 hall hf hb (ro1_2 B go1_8_1) rfl rfl (by kernel_rfl)
  have ro1_0 : ∀ B, RA f E B all 8 (bt 16 255) ⟨35, [(10, S s.text), (14, I s.at_)] ++ b0⟩ K := by
   intro B
   refine RA.of2 hall hf hb (RA.stepH (L := [8]) (Tell.of rfl) (by kernel_rfl) (by simp) (RA.each ?_ (RA.each0)))
   ·skip
    refine RO.call rfl rfl (impl_ReadVar_fn s.text s.at_ hs.2.2) rfl (.cons (.one (.r .r)) (.cons (.one (.r .r)) (.nil))) rfl fun go1_8_1 => ?_
    exact RA.to2 hall hf hb (ro1_1 B go1_8_1) rfl rfl (by kernel_rfl)
  refine RA.start (by kernel_rfl) (by kernel_rfl) (m := 16) (ls' := (bt 16 0)) ?_
  refine RA.fr XK 35 8 [0,1,2,3,4,5,6,7] (bt 16 255) rfl rfl (by kernel_rfl) (Tell.of rfl) ?_
  (conv=>whnf);refine ⟨rfl,fun B=>?_⟩
  exact RA.to2 hall hf hb (ro1_0 B) rfl rfl (by kernel_rfl)
 ·rintro go1_8_1
  refine CW.seq ?_
  refine CW.seqJ 35 (fun (v2 : Bool) => [(0, .obj (bo 0) ((scan.c s).map .r)), (3, I ((rdVar s.text s.at_).1)), (4, I ((rdVar s.text s.at_).2.1)), (26, Bo v2)]) (fun v2 => v2 = (s.bad || (!((rdVar s.text s.at_).2.2)))) ?_ ?_
  ·refine CW.region ?_
   refine RW.k XK 35 5 rfl ?_
   (conv=>whnf);refine ⟨rfl,?_⟩
   refine RW.gv rfl rfl rfl rfl (fun h3 => V.mv (d := Bo ((rdVar s.text s.at_).2.2)) rfl rfl) (fun h3 => ?_) (fun h3 => ?_)
   ·skip
    refine RW.k XK 35 2 rfl ?_
    (conv=>whnf);refine ⟨rfl,?_⟩
    refine RW.nil ?_
    exact ⟨_, by first | rfl | (simp_all; done) | (simp_all; omega) | grind, rfl, Le.of rfl⟩
   ·skip
    refine RW.k XK 35 2 rfl ?_
    (conv=>whnf);refine ⟨rfl,?_⟩
    refine RW.nil ?_
    exact ⟨_, by first | rfl | (simp_all; done) | (simp_all; omega) | grind, rfl, Le.of rfl⟩
  ·intro v2 hv4
   refine CW.cond rfl (fun h5 => ?_) (fun h5 => ?_)
   ·skip
    have hvv := hv4.symm.trans h5
    refine CW.k XK 35 2 [0,2] rfl ?_
    (conv=>whnf);refine ⟨rfl,?_⟩
    refine CW.ret ?_
    exact Post.one (RV.i rfl (by simp only [numV]; rw [scNum, if_pos hvv])) (AOs.obE (f := fun e => (scan.c e).map .r) (e' := (⟨s.text, s.at_, true⟩ : scan)) rfl (DT.r (DT.r (DT.r DT.e))) (by simp only [numS]; rw [scNum, if_pos hvv]) AOs.e)
   ·skip
    have hvv := hv4.symm.trans h5
    refine CW.skip ?_
    refine CW.keep 35 [0,3,4] rfl ?_;(conv=>whnf);refine ⟨?_⟩
    refine CW.k XK 35 2 [0,2] rfl ?_
    (conv=>whnf);refine ⟨rfl,?_⟩
    refine CW.ret ?_
    exact Post.one (RV.i rfl (by simp only [numV]; rw [scNum, if_neg (by rw [hvv]; simp)])) (AOs.obE (f := fun e => (scan.c e).map .r) (e' := (⟨s.text, ((rdVar s.text s.at_).2.1), s.bad⟩ : scan)) rfl (DT.r (DT.r (DT.r DT.e))) (by simp only [numS]; rw [scNum, if_neg (by rw [hvv]; simp), (Bool.or_eq_false_iff.1 hvv).1]) AOs.e)
end Go.Proofs.YtaeagpakloggfaaDoor.Y
