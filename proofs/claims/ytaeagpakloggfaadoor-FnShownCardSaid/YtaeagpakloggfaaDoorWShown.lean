import Derived.Test.YtaeagpakloggfaaDoorWShownD
namespace Go.Proofs.YtaeagpakloggfaaDoor.Y
open Go Go.RowKit Go.Eng Go.Proofs
set_option maxRecDepth 10000
set_option maxHeartbeats 4000000 in
theorem spec_l15Keep_fn (c : l01Cur) (size : Int) (hc : curOk c) (hs : size ≤ 40) : Eng.Fn E.P 44 [.ob ((l01Cur.c c).map .r), .one (.r (.v (.int .i64 size)))] (.one (.agg ((Keep.c ((keepN c size).1)).map .r))) [.ob ((l01Cur.c ((keepN c size).2)).map .r), .one (.r (.v (.int .i64 size)))] := by
 refine Eng.Fn.intro (E := E) (rvs := [.cell 4 31]) Tryd.func44 rfl rfl rfl (by simp [outSlots, moved, rvSlot, sl]) ?_
 intro B g bo
 refine CW.keep 40 [0,1] rfl ?_;(conv=>whnf);refine ⟨?_⟩
 refine CW.k XK 40 1 [0,1,4] rfl ?_
 (conv=>whnf);intro b1;(conv=>whnf);refine ⟨rfl,?_⟩
 refine CW.seq ?_
 refine CW.region ?_
 refine RW.call rfl (spec_KeepNew_fn ) rfl (.nil) fun g2 => ?_
 refine RW.k XK 40 1 rfl ?_
 (conv=>whnf);refine ⟨rfl,?_⟩
 refine RW.freeze 13 (d' := .agg ((Keep.c keepNew).map .r)) rfl rfl ?_
 refine RW.call rfl (spec_Perform_fn keepNew 1 (⟨1, 0, 0, ⟨#[]⟩, ⟨#[]⟩, 0⟩ : Command) keepNew_ok.okTo) rfl (.cons (.agg (.cons (.r .r) (.cons (.r .r) (.nil)))) (.cons (.one (.r .r)) (.cons (.agg (.cons (.r .r) (.cons (.r .r) (.cons (.r .r) (.cons (.r .r) (.cons (.r .r) (.cons (.r .r) (.nil)))))))) (.nil)))) fun g3 => ?_
 refine RW.k XK 40 8 rfl ?_
 (conv=>whnf);intro b4;(conv=>whnf);refine ⟨rfl,?_⟩
 refine RW.nil ?_
 refine CW.keep 40 [0,1,4,5] rfl ?_;(conv=>whnf);refine ⟨?_⟩
 refine CW.seq ?_
 refine CW.k XK 40 1 [0,1,4,5,8] rfl ?_
 (conv=>whnf);refine ⟨rfl,?_⟩
 refine CW.block ?_
 refine CW.loopI 40 (fun (zz : Nat × l01Cur × Keep) => match zz with | (i, d, k) => [(0, .obj (bo 0) ((l01Cur.c d).map .r)), (1, I size), (4, .obj b1 [.r (.v (.slice none 0 0)), .r (.v (.slice none 0 0))]), (5, .obj b4 ((Keep.c k).map .r)), (8, I (i : Int))]) (fun (zz : Nat × l01Cur × Keep) => match zz with | (i, d, k) => KeP c size i d k) (fun (zz : Nat × l01Cur × Keep) => match zz with | (i, d, k) => size.toNat - i) (0, _, _) rfl (Le.c rfl <| Le.c rfl <| Le.c rfl <| Le.c rfl <| Le.c rfl <| Le.e) (KeP.init hc) ?_
 rintro ⟨i, d, k⟩ hP
 refine CW.seq ?_
 refine CW.seq ?_
 refine CW.region ?_
 refine RW.k XK 40 3 rfl ?_
 (conv=>whnf);refine ⟨rfl,?_⟩
 refine RW.callP (k := 0) (spec_l01Below_fn d size hP.hc) rfl rfl (Nat.le_of_ble_eq_true rfl) (by decide) rfl (DT.r (DT.r (DT.r DT.e))) (AsPs.here rfl (.cons (.one (.r .r)) (.nil))) fun g5 q6 => ?_
 refine RW.k XK 40 1 rfl ?_
 (conv=>whnf);refine ⟨rfl,?_⟩
 refine RW.nil ?_
 refine CW.keep 40 [0,1,4,5,8,23] rfl ?_;(conv=>whnf);refine ⟨?_⟩
 refine CW.cond rfl (fun h7 => ?_) (fun h7 => ?_)
 ·skip
  have hlt := of_decide_eq_true h7
  refine CW.skip ?_
  refine CW.keep 40 [0,1,4,5,8] rfl ?_;(conv=>whnf);refine ⟨?_⟩
  refine CW.seq ?_
  refine CW.block ?_
  refine CW.anyJ2 (fc := [(4, b1, [.slice none 0 0, .slice none 0 0])]) (L0 := [(1, I size), (4, .obj b1 [.r (.v (.slice none 0 0)), .r (.v (.slice none 0 0))]), (5, .obj b4 ((Keep.c k).map .r)), (8, I (i : Int))]) 40 (fun (zz : Nat × (Nat → Nat → Value) × (Nat → Nat → Value) × (Nat → Value)) => match zz with | (bo8_11_1, go8_5_1, go8_6_1, qo8_5_2) => [(0, .obj (bo 0) ((l01Cur.c ((commandN ((belowN d size).2) k).2)).map .r)), (9, .obj bo8_11_1 ((Keep.c ((perfK k (IntKind.i64.wrap ((i : Int) + 2)) ((commandN ((belowN d size).2) k).1)).1)).map .r)), (11, Bo ((perfK k (IntKind.i64.wrap ((i : Int) + 2)) ((commandN ((belowN d size).2) k).1)).2.2))]) (fun all hall f hf b0 hb K hK => ?_) ?_
  ·skip
   have ro8_33 : ∀ B, ∀ (bo8_11_1 : Nat), ∀ (go8_5_1 : Nat → Nat → Value), ∀ (go8_6_1 : Nat → Nat → Value), ∀ (qo8_5_2 : Nat → Value), RA f E B all 0 (bt 15 32767) ⟨40, [(0, .obj (bo 0) ((l01Cur.c ((commandN ((belowN d size).2) k).2)).map .r)), (9, .obj bo8_11_1 ((Keep.c ((perfK k (IntKind.i64.wrap ((i : Int) + 2)) ((commandN ((belowN d size).2) k).1)).1)).map .r)), (11, Bo ((perfK k (IntKind.i64.wrap ((i : Int) + 2)) ((commandN ((belowN d size).2) k).1)).2.2))] ++ b0⟩ K := by
    intro B bo8_11_1 go8_5_1 go8_6_1 qo8_5_2
    exact RA.of2 hall hf hb (RA.finH (Tell.of rfl) (by kernel_rfl) (hK (bo8_11_1, go8_5_1, go8_6_1, qo8_5_2) _ rfl (Le.of rfl)))
   have ro8_32 : ∀ B, ∀ (bo8_11_1 : Nat), ∀ (go8_5_1 : Nat → Nat → Value), ∀ (go8_6_1 : Nat → Nat → Value), ∀ (qo8_5_2 : Nat → Value), RA f E B all 2 (bt 15 15359) ⟨40, [(0, .obj (bo 0) ((l01Cur.c ((commandN ((belowN d size).2) k).2)).map .r)), (9, .obj bo8_11_1 ((Keep.c ((perfK k (IntKind.i64.wrap ((i : Int) + 2)) ((commandN ((belowN d size).2) k).1)).1)).map .r)), (26, .tup [.u, .u, Bo ((perfK k (IntKind.i64.wrap ((i : Int) + 2)) ((commandN ((belowN d size).2) k).1)).2.2)])] ++ b0⟩ K := by
    intro B bo8_11_1 go8_5_1 go8_6_1 qo8_5_2
    refine RA.of2 hall hf hb (RA.stepH (L := [10]) (Tell.of rfl) (by kernel_rfl) (by simp) (RA.each ?_ (RA.each0)))
    ·skip
     refine RO.extract (d := Bo ((perfK k (IntKind.i64.wrap ((i : Int) + 2)) ((commandN ((belowN d size).2) k).1)).2.2)) rfl rfl rfl rfl rfl (by decide) (Nat.le_of_ble_eq_true rfl) rfl rfl ?_
     refine RA.fr XK 40 0 [14] (bt 15 32767) rfl rfl (by kernel_rfl) (Tell.of rfl) ?_
     (conv=>whnf);refine ⟨rfl,fun B=>?_⟩
     exact RA.to2 hall hf hb (ro8_33 B bo8_11_1 go8_5_1 go8_6_1 qo8_5_2) rfl rfl (by kernel_rfl)
   have ro8_31 : ∀ B, ∀ (bo8_11_1 : Nat), ∀ (go8_5_1 : Nat → Nat → Value), ∀ (go8_6_1 : Nat → Nat → Value), ∀ (qo8_5_2 : Nat → Value), RA f E B all 3 (bt 15 7679) ⟨40, [(0, .obj (bo 0) ((l01Cur.c ((commandN ((belowN d size).2) k).2)).map .r)), (9, .obj bo8_11_1 ((Keep.c ((perfK k (IntKind.i64.wrap ((i : Int) + 2)) ((commandN ((belowN d size).2) k).1)).1)).map .r)), (26, .tup [.u, S ((perfK k (IntKind.i64.wrap ((i : Int) + 2)) ((commandN ((belowN d size).2) k).1)).2.1), .u]), (36, Bo ((perfK k (IntKind.i64.wrap ((i : Int) + 2)) ((commandN ((belowN d size).2) k).1)).2.2))] ++ b0⟩ K := by
    intro B bo8_11_1 go8_5_1 go8_6_1 qo8_5_2
    refine RA.of2 hall hf hb (RA.stepH (L := [9]) (Tell.of rfl) (by kernel_rfl) (by simp) (RA.each ?_ (RA.each0)))
    ·skip
     refine RO.extract (d := S ((perfK k (IntKind.i64.wrap ((i : Int) + 2)) ((commandN ((belowN d size).2) k).1)).2.1)) rfl rfl rfl rfl rfl (by decide) (Nat.le_of_ble_eq_true rfl) rfl rfl ?_
     refine RA.fr XK 40 0 [13,14] (bt 15 32767) rfl rfl (by kernel_rfl) (Tell.of rfl) ?_
     (conv=>whnf);refine ⟨rfl,fun B=>?_⟩
     exact RA.to2 hall hf hb (ro8_33 B bo8_11_1 go8_5_1 go8_6_1 qo8_5_2) rfl rfl (by kernel_rfl)
   have ro8_30 : ∀ B, ∀ (bo8_11_1 : Nat), ∀ (go8_5_1 : Nat → Nat → Value), ∀ (go8_6_1 : Nat → Nat → Value), ∀ (qo8_5_2 : Nat → Value), RA f E B all 3 (bt 15 4095) ⟨40, [(0, .obj (bo 0) ((l01Cur.c ((commandN ((belowN d size).2) k).2)).map .r)), (9, .obj bo8_11_1 [.r (.v (.slice none 0 0)), .r (.v (.slice none 0 0))]), (34, .agg ((Keep.c ((perfK k (IntKind.i64.wrap ((i : Int) + 2)) ((commandN ((belowN d size).2) k).1)).1)).map .r)), (35, S ((perfK k (IntKind.i64.wrap ((i : Int) + 2)) ((commandN ((belowN d size).2) k).1)).2.1)), (36, Bo ((perfK k (IntKind.i64.wrap ((i : Int) + 2)) ((commandN ((belowN d size).2) k).1)).2.2))] ++ b0⟩ K := by
    intro B bo8_11_1 go8_5_1 go8_6_1 qo8_5_2
    refine RA.of2 hall hf hb (RA.stepH (L := [12]) (Tell.of rfl) (by kernel_rfl) (by simp) (RA.each ?_ (RA.each0)))
    ·skip
     refine RO.storeAgg (es := ((Keep.c ((perfK k (IntKind.i64.wrap ((i : Int) + 2)) ((commandN ((belowN d size).2) k).1)).1)).map .r)) rfl rfl rfl rfl rfl rfl rfl rfl rfl rfl (Nat.le_of_ble_eq_true rfl) rfl ?_
     refine RA.fr XK 40 0 [13,14] (bt 15 32767) rfl rfl (by kernel_rfl) (Tell.of rfl) ?_
     (conv=>whnf);refine ⟨rfl,fun B=>?_⟩
     exact RA.to2 hall hf hb (ro8_33 B bo8_11_1 go8_5_1 go8_6_1 qo8_5_2) rfl rfl (by kernel_rfl)
   have ro8_29 : ∀ B, ∀ (bo8_11_1 : Nat), ∀ (go8_5_1 : Nat → Nat → Value), ∀ (go8_6_1 : Nat → Nat → Value), ∀ (qo8_5_2 : Nat → Value), RA f E B all 4 (bt 15 3839) ⟨40, [(0, .obj (bo 0) ((l01Cur.c ((commandN ((belowN d size).2) k).2)).map .r)), (9, .obj bo8_11_1 [.r (.v (.slice none 0 0)), .r (.v (.slice none 0 0))]), (26, .tup [.agg ((Keep.c ((perfK k (IntKind.i64.wrap ((i : Int) + 2)) ((commandN ((belowN d size).2) k).1)).1)).map .r), .u, .u]), (35, S ((perfK k (IntKind.i64.wrap ((i : Int) + 2)) ((commandN ((belowN d size).2) k).1)).2.1)), (36, Bo ((perfK k (IntKind.i64.wrap ((i : Int) + 2)) ((commandN ((belowN d size).2) k).1)).2.2))] ++ b0⟩ K := by
    intro B bo8_11_1 go8_5_1 go8_6_1 qo8_5_2
    refine RA.of2 hall hf hb (RA.stepH (L := [8]) (Tell.of rfl) (by kernel_rfl) (by simp) (RA.each ?_ (RA.each0)))
    ·skip
     refine RO.extract (d := .agg ((Keep.c ((perfK k (IntKind.i64.wrap ((i : Int) + 2)) ((commandN ((belowN d size).2) k).1)).1)).map .r)) rfl rfl rfl rfl rfl (by decide) (Nat.le_of_ble_eq_true rfl) rfl rfl ?_
     exact RA.to2 hall hf hb (ro8_30 B bo8_11_1 go8_5_1 go8_6_1 qo8_5_2) rfl rfl (by kernel_rfl)
   have ro8_28 : ∀ B, ∀ (bo8_11_1 : Nat), ∀ (go8_5_1 : Nat → Nat → Value), ∀ (go8_6_1 : Nat → Nat → Value), ∀ (qo8_5_2 : Nat → Value), RA f E B all 4 (bt 15 6655) ⟨40, [(0, .obj (bo 0) ((l01Cur.c ((commandN ((belowN d size).2) k).2)).map .r)), (9, .obj bo8_11_1 ((Keep.c ((perfK k (IntKind.i64.wrap ((i : Int) + 2)) ((commandN ((belowN d size).2) k).1)).1)).map .r)), (26, .tup [.u, S ((perfK k (IntKind.i64.wrap ((i : Int) + 2)) ((commandN ((belowN d size).2) k).1)).2.1), Bo ((perfK k (IntKind.i64.wrap ((i : Int) + 2)) ((commandN ((belowN d size).2) k).1)).2.2)])] ++ b0⟩ K := by
    intro B bo8_11_1 go8_5_1 go8_6_1 qo8_5_2
    refine RA.of2 hall hf hb (RA.stepH (L := [9, 10]) (Tell.of rfl) (by kernel_rfl) (by simp) (RA.each ?_ (RA.each ?_ (RA.each0))))
    ·skip
     refine RO.extract (d := S ((perfK k (IntKind.i64.wrap ((i : Int) + 2)) ((commandN ((belowN d size).2) k).1)).2.1)) rfl rfl rfl rfl rfl (by decide) (Nat.le_of_ble_eq_true rfl) rfl rfl ?_
     refine RA.fr XK 40 2 [13] (bt 15 15359) rfl rfl (by kernel_rfl) (Tell.of rfl) ?_
     (conv=>whnf);refine ⟨rfl,fun B=>?_⟩
     exact RA.to2 hall hf hb (ro8_32 B bo8_11_1 go8_5_1 go8_6_1 qo8_5_2) rfl rfl (by kernel_rfl)
    ·skip
     refine RO.extract (d := Bo ((perfK k (IntKind.i64.wrap ((i : Int) + 2)) ((commandN ((belowN d size).2) k).1)).2.2)) rfl rfl rfl rfl rfl (by decide) (Nat.le_of_ble_eq_true rfl) rfl rfl ?_
     exact RA.to2 hall hf hb (ro8_31 B bo8_11_1 go8_5_1 go8_6_1 qo8_5_2) rfl rfl (by kernel_rfl)
   have ro8_27 : ∀ B, ∀ (bo8_11_1 : Nat), ∀ (go8_5_1 : Nat → Nat → Value), ∀ (go8_6_1 : Nat → Nat → Value), ∀ (qo8_5_2 : Nat → Value), RA f E B all 4 (bt 15 3583) ⟨40, [(0, .obj (bo 0) ((l01Cur.c ((commandN ((belowN d size).2) k).2)).map .r)), (9, .obj bo8_11_1 [.r (.v (.slice none 0 0)), .r (.v (.slice none 0 0))]), (26, .tup [.u, S ((perfK k (IntKind.i64.wrap ((i : Int) + 2)) ((commandN ((belowN d size).2) k).1)).2.1), .u]), (34, .agg ((Keep.c ((perfK k (IntKind.i64.wrap ((i : Int) + 2)) ((commandN ((belowN d size).2) k).1)).1)).map .r)), (36, Bo ((perfK k (IntKind.i64.wrap ((i : Int) + 2)) ((commandN ((belowN d size).2) k).1)).2.2))] ++ b0⟩ K := by
    intro B bo8_11_1 go8_5_1 go8_6_1 qo8_5_2
    refine RA.of2 hall hf hb (RA.stepH (L := [9, 12]) (Tell.of rfl) (by kernel_rfl) (by simp) (RA.each ?_ (RA.each ?_ (RA.each0))))
    ·skip
     refine RO.extract (d := S ((perfK k (IntKind.i64.wrap ((i : Int) + 2)) ((commandN ((belowN d size).2) k).1)).2.1)) rfl rfl rfl rfl rfl (by decide) (Nat.le_of_ble_eq_true rfl) rfl rfl ?_
     exact RA.to2 hall hf hb (ro8_30 B bo8_11_1 go8_5_1 go8_6_1 qo8_5_2) rfl rfl (by kernel_rfl)
    ·skip
     refine RO.storeAgg (es := ((Keep.c ((perfK k (IntKind.i64.wrap ((i : Int) + 2)) ((commandN ((belowN d size).2) k).1)).1)).map .r)) rfl rfl rfl rfl rfl rfl rfl rfl rfl rfl (Nat.le_of_ble_eq_true rfl) rfl ?_
     exact RA.to2 hall hf hb (ro8_31 B bo8_11_1 go8_5_1 go8_6_1 qo8_5_2) rfl rfl (by kernel_rfl)
   have ro8_26 : ∀ B, ∀ (bo8_11_1 : Nat), ∀ (go8_5_1 : Nat → Nat → Value), ∀ (go8_6_1 : Nat → Nat → Value), ∀ (qo8_5_2 : Nat → Value), RA f E B all 4 (bt 15 3071) ⟨40, [(0, .obj (bo 0) ((l01Cur.c ((commandN ((belowN d size).2) k).2)).map .r)), (9, .obj bo8_11_1 [.r (.v (.slice none 0 0)), .r (.v (.slice none 0 0))]), (26, .tup [.u, .u, Bo ((perfK k (IntKind.i64.wrap ((i : Int) + 2)) ((commandN ((belowN d size).2) k).1)).2.2)]), (34, .agg ((Keep.c ((perfK k (IntKind.i64.wrap ((i : Int) + 2)) ((commandN ((belowN d size).2) k).1)).1)).map .r)), (35, S ((perfK k (IntKind.i64.wrap ((i : Int) + 2)) ((commandN ((belowN d size).2) k).1)).2.1))] ++ b0⟩ K := by
    intro B bo8_11_1 go8_5_1 go8_6_1 qo8_5_2
    refine RA.of2 hall hf hb (RA.stepH (L := [10, 12]) (Tell.of rfl) (by kernel_rfl) (by simp) (RA.each ?_ (RA.each ?_ (RA.each0))))
    ·skip
     refine RO.extract (d := Bo ((perfK k (IntKind.i64.wrap ((i : Int) + 2)) ((commandN ((belowN d size).2) k).1)).2.2)) rfl rfl rfl rfl rfl (by decide) (Nat.le_of_ble_eq_true rfl) rfl rfl ?_
     exact RA.to2 hall hf hb (ro8_30 B bo8_11_1 go8_5_1 go8_6_1 qo8_5_2) rfl rfl (by kernel_rfl)
    ·skip
     refine RO.storeAgg (es := ((Keep.c ((perfK k (IntKind.i64.wrap ((i : Int) + 2)) ((commandN ((belowN d size).2) k).1)).1)).map .r)) rfl rfl rfl rfl rfl rfl rfl rfl rfl rfl (Nat.le_of_ble_eq_true rfl) rfl ?_
     refine RA.fr XK 40 2 [13] (bt 15 15359) rfl rfl (by kernel_rfl) (Tell.of rfl) ?_
     (conv=>whnf);refine ⟨rfl,fun B=>?_⟩
     exact RA.to2 hall hf hb (ro8_32 B bo8_11_1 go8_5_1 go8_6_1 qo8_5_2) rfl rfl (by kernel_rfl)
   have ro8_25 : ∀ B, ∀ (go8_5_1 : Nat → Nat → Value), ∀ (go8_6_1 : Nat → Nat → Value), ∀ (qo8_5_2 : Nat → Value), RA f E B all 4 (bt 15 2047) ⟨40, [(0, .obj (bo 0) ((l01Cur.c ((commandN ((belowN d size).2) k).2)).map .r)), (34, .agg ((Keep.c ((perfK k (IntKind.i64.wrap ((i : Int) + 2)) ((commandN ((belowN d size).2) k).1)).1)).map .r)), (35, S ((perfK k (IntKind.i64.wrap ((i : Int) + 2)) ((commandN ((belowN d size).2) k).1)).2.1)), (36, Bo ((perfK k (IntKind.i64.wrap ((i : Int) + 2)) ((commandN ((belowN d size).2) k).1)).2.2))] ++ b0⟩ K := by
    intro B go8_5_1 go8_6_1 qo8_5_2
    refine RA.of2 hall hf hb (RA.stepH (L := [11]) (Tell.of rfl) (by kernel_rfl) (by simp) (RA.each ?_ (RA.each0)))
    ·skip
     refine RO.alloc (ds := [.r (.v (.slice none 0 0)), .r (.v (.slice none 0 0))]) rfl rfl rfl rfl rfl rfl fun bo8_11_1 => ?_
     exact RA.to2 hall hf hb (ro8_30 B bo8_11_1 go8_5_1 go8_6_1 qo8_5_2) rfl rfl (by kernel_rfl)
   have ro8_24 : ∀ B, ∀ (bo8_11_1 : Nat), ∀ (go8_5_1 : Nat → Nat → Value), ∀ (go8_6_1 : Nat → Nat → Value), ∀ (qo8_5_2 : Nat → Value), RA f E B all 5 (bt 15 3327) ⟨40, [(0, .obj (bo 0) ((l01Cur.c ((commandN ((belowN d size).2) k).2)).map .r)), (9, .obj bo8_11_1 [.r (.v (.slice none 0 0)), .r (.v (.slice none 0 0))]), (26, .tup [.agg ((Keep.c ((perfK k (IntKind.i64.wrap ((i : Int) + 2)) ((commandN ((belowN d size).2) k).1)).1)).map .r), S ((perfK k (IntKind.i64.wrap ((i : Int) + 2)) ((commandN ((belowN d size).2) k).1)).2.1), .u]), (36, Bo ((perfK k (IntKind.i64.wrap ((i : Int) + 2)) ((commandN ((belowN d size).2) k).1)).2.2))] ++ b0⟩ K := by
    intro B bo8_11_1 go8_5_1 go8_6_1 qo8_5_2
    refine RA.of2 hall hf hb (RA.stepH (L := [8, 9]) (Tell.of rfl) (by kernel_rfl) (by simp) (RA.each ?_ (RA.each ?_ (RA.each0))))
    ·skip
     refine RO.extract (d := .agg ((Keep.c ((perfK k (IntKind.i64.wrap ((i : Int) + 2)) ((commandN ((belowN d size).2) k).1)).1)).map .r)) rfl rfl rfl rfl rfl (by decide) (Nat.le_of_ble_eq_true rfl) rfl rfl ?_
     exact RA.to2 hall hf hb (ro8_27 B bo8_11_1 go8_5_1 go8_6_1 qo8_5_2) rfl rfl (by kernel_rfl)
    ·skip
     refine RO.extract (d := S ((perfK k (IntKind.i64.wrap ((i : Int) + 2)) ((commandN ((belowN d size).2) k).1)).2.1)) rfl rfl rfl rfl rfl (by decide) (Nat.le_of_ble_eq_true rfl) rfl rfl ?_
     exact RA.to2 hall hf hb (ro8_29 B bo8_11_1 go8_5_1 go8_6_1 qo8_5_2) rfl rfl (by kernel_rfl)
   have ro8_23 : ∀ B, ∀ (bo8_11_1 : Nat), ∀ (go8_5_1 : Nat → Nat → Value), ∀ (go8_6_1 : Nat → Nat → Value), ∀ (qo8_5_2 : Nat → Value), RA f E B all 5 (bt 15 2815) ⟨40, [(0, .obj (bo 0) ((l01Cur.c ((commandN ((belowN d size).2) k).2)).map .r)), (9, .obj bo8_11_1 [.r (.v (.slice none 0 0)), .r (.v (.slice none 0 0))]), (26, .tup [.agg ((Keep.c ((perfK k (IntKind.i64.wrap ((i : Int) + 2)) ((commandN ((belowN d size).2) k).1)).1)).map .r), .u, Bo ((perfK k (IntKind.i64.wrap ((i : Int) + 2)) ((commandN ((belowN d size).2) k).1)).2.2)]), (35, S ((perfK k (IntKind.i64.wrap ((i : Int) + 2)) ((commandN ((belowN d size).2) k).1)).2.1))] ++ b0⟩ K := by
    intro B bo8_11_1 go8_5_1 go8_6_1 qo8_5_2
    refine RA.of2 hall hf hb (RA.stepH (L := [8, 10]) (Tell.of rfl) (by kernel_rfl) (by simp) (RA.each ?_ (RA.each ?_ (RA.each0))))
    ·skip
     refine RO.extract (d := .agg ((Keep.c ((perfK k (IntKind.i64.wrap ((i : Int) + 2)) ((commandN ((belowN d size).2) k).1)).1)).map .r)) rfl rfl rfl rfl rfl (by decide) (Nat.le_of_ble_eq_true rfl) rfl rfl ?_
     exact RA.to2 hall hf hb (ro8_26 B bo8_11_1 go8_5_1 go8_6_1 qo8_5_2) rfl rfl (by kernel_rfl)
    ·skip
     refine RO.extract (d := Bo ((perfK k (IntKind.i64.wrap ((i : Int) + 2)) ((commandN ((belowN d size).2) k).1)).2.2)) rfl rfl rfl rfl rfl (by decide) (Nat.le_of_ble_eq_true rfl) rfl rfl ?_
     exact RA.to2 hall hf hb (ro8_29 B bo8_11_1 go8_5_1 go8_6_1 qo8_5_2) rfl rfl (by kernel_rfl)
   have ro8_22 : ∀ B, ∀ (go8_5_1 : Nat → Nat → Value), ∀ (go8_6_1 : Nat → Nat → Value), ∀ (qo8_5_2 : Nat → Value), RA f E B all 5 (bt 15 1791) ⟨40, [(0, .obj (bo 0) ((l01Cur.c ((commandN ((belowN d size).2) k).2)).map .r)), (26, .tup [.agg ((Keep.c ((perfK k (IntKind.i64.wrap ((i : Int) + 2)) ((commandN ((belowN d size).2) k).1)).1)).map .r), .u, .u]), (35, S ((perfK k (IntKind.i64.wrap ((i : Int) + 2)) ((commandN ((belowN d size).2) k).1)).2.1)), (36, Bo ((perfK k (IntKind.i64.wrap ((i : Int) + 2)) ((commandN ((belowN d size).2) k).1)).2.2))] ++ b0⟩ K := by
    intro B go8_5_1 go8_6_1 qo8_5_2
    refine RA.of2 hall hf hb (RA.stepH (L := [8, 11]) (Tell.of rfl) (by kernel_rfl) (by simp) (RA.each ?_ (RA.each ?_ (RA.each0))))
    ·skip
     refine RO.extract (d := .agg ((Keep.c ((perfK k (IntKind.i64.wrap ((i : Int) + 2)) ((commandN ((belowN d size).2) k).1)).1)).map .r)) rfl rfl rfl rfl rfl (by decide) (Nat.le_of_ble_eq_true rfl) rfl rfl ?_
     exact RA.to2 hall hf hb (ro8_25 B go8_5_1 go8_6_1 qo8_5_2) rfl rfl (by kernel_rfl)
    ·skip
     refine RO.alloc (ds := [.r (.v (.slice none 0 0)), .r (.v (.slice none 0 0))]) rfl rfl rfl rfl rfl rfl fun bo8_11_1 => ?_
     exact RA.to2 hall hf hb (ro8_29 B bo8_11_1 go8_5_1 go8_6_1 qo8_5_2) rfl rfl (by kernel_rfl)
   have ro8_21 : ∀ B, ∀ (bo8_11_1 : Nat), ∀ (go8_5_1 : Nat → Nat → Value), ∀ (go8_6_1 : Nat → Nat → Value), ∀ (qo8_5_2 : Nat → Value), RA f E B all 5 (bt 15 2559) ⟨40, [(0, .obj (bo 0) ((l01Cur.c ((commandN ((belowN d size).2) k).2)).map .r)), (9, .obj bo8_11_1 [.r (.v (.slice none 0 0)), .r (.v (.slice none 0 0))]), (26, .tup [.u, S ((perfK k (IntKind.i64.wrap ((i : Int) + 2)) ((commandN ((belowN d size).2) k).1)).2.1), Bo ((perfK k (IntKind.i64.wrap ((i : Int) + 2)) ((commandN ((belowN d size).2) k).1)).2.2)]), (34, .agg ((Keep.c ((perfK k (IntKind.i64.wrap ((i : Int) + 2)) ((commandN ((belowN d size).2) k).1)).1)).map .r))] ++ b0⟩ K := by
    intro B bo8_11_1 go8_5_1 go8_6_1 qo8_5_2
    refine RA.of2 hall hf hb (RA.stepH (L := [9, 10, 12]) (Tell.of rfl) (by kernel_rfl) (by simp) (RA.each ?_ (RA.each ?_ (RA.each ?_ (RA.each0)))))
    ·skip
     refine RO.extract (d := S ((perfK k (IntKind.i64.wrap ((i : Int) + 2)) ((commandN ((belowN d size).2) k).1)).2.1)) rfl rfl rfl rfl rfl (by decide) (Nat.le_of_ble_eq_true rfl) rfl rfl ?_
     exact RA.to2 hall hf hb (ro8_26 B bo8_11_1 go8_5_1 go8_6_1 qo8_5_2) rfl rfl (by kernel_rfl)
    ·skip
     refine RO.extract (d := Bo ((perfK k (IntKind.i64.wrap ((i : Int) + 2)) ((commandN ((belowN d size).2) k).1)).2.2)) rfl rfl rfl rfl rfl (by decide) (Nat.le_of_ble_eq_true rfl) rfl rfl ?_
     exact RA.to2 hall hf hb (ro8_27 B bo8_11_1 go8_5_1 go8_6_1 qo8_5_2) rfl rfl (by kernel_rfl)
    ·skip
     refine RO.storeAgg (es := ((Keep.c ((perfK k (IntKind.i64.wrap ((i : Int) + 2)) ((commandN ((belowN d size).2) k).1)).1)).map .r)) rfl rfl rfl rfl rfl rfl rfl rfl rfl rfl (Nat.le_of_ble_eq_true rfl) rfl ?_
     exact RA.to2 hall hf hb (ro8_28 B bo8_11_1 go8_5_1 go8_6_1 qo8_5_2) rfl rfl (by kernel_rfl)
   have ro8_20 : ∀ B, ∀ (go8_5_1 : Nat → Nat → Value), ∀ (go8_6_1 : Nat → Nat → Value), ∀ (qo8_5_2 : Nat → Value), RA f E B all 5 (bt 15 1535) ⟨40, [(0, .obj (bo 0) ((l01Cur.c ((commandN ((belowN d size).2) k).2)).map .r)), (26, .tup [.u, S ((perfK k (IntKind.i64.wrap ((i : Int) + 2)) ((commandN ((belowN d size).2) k).1)).2.1), .u]), (34, .agg ((Keep.c ((perfK k (IntKind.i64.wrap ((i : Int) + 2)) ((commandN ((belowN d size).2) k).1)).1)).map .r)), (36, Bo ((perfK k (IntKind.i64.wrap ((i : Int) + 2)) ((commandN ((belowN d size).2) k).1)).2.2))] ++ b0⟩ K := by
    intro B go8_5_1 go8_6_1 qo8_5_2
    refine RA.of2 hall hf hb (RA.stepH (L := [9, 11]) (Tell.of rfl) (by kernel_rfl) (by simp) (RA.each ?_ (RA.each ?_ (RA.each0))))
    ·skip
     refine RO.extract (d := S ((perfK k (IntKind.i64.wrap ((i : Int) + 2)) ((commandN ((belowN d size).2) k).1)).2.1)) rfl rfl rfl rfl rfl (by decide) (Nat.le_of_ble_eq_true rfl) rfl rfl ?_
     exact RA.to2 hall hf hb (ro8_25 B go8_5_1 go8_6_1 qo8_5_2) rfl rfl (by kernel_rfl)
    ·skip
     refine RO.alloc (ds := [.r (.v (.slice none 0 0)), .r (.v (.slice none 0 0))]) rfl rfl rfl rfl rfl rfl fun bo8_11_1 => ?_
     exact RA.to2 hall hf hb (ro8_27 B bo8_11_1 go8_5_1 go8_6_1 qo8_5_2) rfl rfl (by kernel_rfl)
   have ro8_19 : ∀ B, ∀ (go8_5_1 : Nat → Nat → Value), ∀ (go8_6_1 : Nat → Nat → Value), ∀ (qo8_5_2 : Nat → Value), RA f E B all 5 (bt 15 1023) ⟨40, [(0, .obj (bo 0) ((l01Cur.c ((commandN ((belowN d size).2) k).2)).map .r)), (26, .tup [.u, .u, Bo ((perfK k (IntKind.i64.wrap ((i : Int) + 2)) ((commandN ((belowN d size).2) k).1)).2.2)]), (34, .agg ((Keep.c ((perfK k (IntKind.i64.wrap ((i : Int) + 2)) ((commandN ((belowN d size).2) k).1)).1)).map .r)), (35, S ((perfK k (IntKind.i64.wrap ((i : Int) + 2)) ((commandN ((belowN d size).2) k).1)).2.1))] ++ b0⟩ K := by
    intro B go8_5_1 go8_6_1 qo8_5_2
    refine RA.of2 hall hf hb (RA.stepH (L := [10, 11]) (Tell.of rfl) (by kernel_rfl) (by simp) (RA.each ?_ (RA.each ?_ (RA.each0))))
    ·skip
     refine RO.extract (d := Bo ((perfK k (IntKind.i64.wrap ((i : Int) + 2)) ((commandN ((belowN d size).2) k).1)).2.2)) rfl rfl rfl rfl rfl (by decide) (Nat.le_of_ble_eq_true rfl) rfl rfl ?_
     exact RA.to2 hall hf hb (ro8_25 B go8_5_1 go8_6_1 qo8_5_2) rfl rfl (by kernel_rfl)
    ·skip
     refine RO.alloc (ds := [.r (.v (.slice none 0 0)), .r (.v (.slice none 0 0))]) rfl rfl rfl rfl rfl rfl fun bo8_11_1 => ?_
     exact RA.to2 hall hf hb (ro8_26 B bo8_11_1 go8_5_1 go8_6_1 qo8_5_2) rfl rfl (by kernel_rfl)
   have ro8_18 : ∀ B, ∀ (bo8_11_1 : Nat), ∀ (go8_5_1 : Nat → Nat → Value), ∀ (go8_6_1 : Nat → Nat → Value), ∀ (qo8_5_2 : Nat → Value), RA f E B all 6 (bt 15 2303) ⟨40, [(0, .obj (bo 0) ((l01Cur.c ((commandN ((belowN d size).2) k).2)).map .r)), (9, .obj bo8_11_1 [.r (.v (.slice none 0 0)), .r (.v (.slice none 0 0))]), (26, .tup [.agg ((Keep.c ((perfK k (IntKind.i64.wrap ((i : Int) + 2)) ((commandN ((belowN d size).2) k).1)).1)).map .r), S ((perfK k (IntKind.i64.wrap ((i : Int) + 2)) ((commandN ((belowN d size).2) k).1)).2.1), Bo ((perfK k (IntKind.i64.wrap ((i : Int) + 2)) ((commandN ((belowN d size).2) k).1)).2.2)])] ++ b0⟩ K := by
    intro B bo8_11_1 go8_5_1 go8_6_1 qo8_5_2
    refine RA.of2 hall hf hb (RA.stepH (L := [8, 9, 10]) (Tell.of rfl) (by kernel_rfl) (by simp) (RA.each ?_ (RA.each ?_ (RA.each ?_ (RA.each0)))))
    ·skip
     refine RO.extract (d := .agg ((Keep.c ((perfK k (IntKind.i64.wrap ((i : Int) + 2)) ((commandN ((belowN d size).2) k).1)).1)).map .r)) rfl rfl rfl rfl rfl (by decide) (Nat.le_of_ble_eq_true rfl) rfl rfl ?_
     exact RA.to2 hall hf hb (ro8_21 B bo8_11_1 go8_5_1 go8_6_1 qo8_5_2) rfl rfl (by kernel_rfl)
    ·skip
     refine RO.extract (d := S ((perfK k (IntKind.i64.wrap ((i : Int) + 2)) ((commandN ((belowN d size).2) k).1)).2.1)) rfl rfl rfl rfl rfl (by decide) (Nat.le_of_ble_eq_true rfl) rfl rfl ?_
     exact RA.to2 hall hf hb (ro8_23 B bo8_11_1 go8_5_1 go8_6_1 qo8_5_2) rfl rfl (by kernel_rfl)
    ·skip
     refine RO.extract (d := Bo ((perfK k (IntKind.i64.wrap ((i : Int) + 2)) ((commandN ((belowN d size).2) k).1)).2.2)) rfl rfl rfl rfl rfl (by decide) (Nat.le_of_ble_eq_true rfl) rfl rfl ?_
     exact RA.to2 hall hf hb (ro8_24 B bo8_11_1 go8_5_1 go8_6_1 qo8_5_2) rfl rfl (by kernel_rfl)
   have ro8_17 : ∀ B, ∀ (go8_5_1 : Nat → Nat → Value), ∀ (go8_6_1 : Nat → Nat → Value), ∀ (qo8_5_2 : Nat → Value), RA f E B all 6 (bt 15 1279) ⟨40, [(0, .obj (bo 0) ((l01Cur.c ((commandN ((belowN d size).2) k).2)).map .r)), (26, .tup [.agg ((Keep.c ((perfK k (IntKind.i64.wrap ((i : Int) + 2)) ((commandN ((belowN d size).2) k).1)).1)).map .r), S ((perfK k (IntKind.i64.wrap ((i : Int) + 2)) ((commandN ((belowN d size).2) k).1)).2.1), .u]), (36, Bo ((perfK k (IntKind.i64.wrap ((i : Int) + 2)) ((commandN ((belowN d size).2) k).1)).2.2))] ++ b0⟩ K := by
    intro B go8_5_1 go8_6_1 qo8_5_2
    refine RA.of2 hall hf hb (RA.stepH (L := [8, 9, 11]) (Tell.of rfl) (by kernel_rfl) (by simp) (RA.each ?_ (RA.each ?_ (RA.each ?_ (RA.each0)))))
    ·skip
     refine RO.extract (d := .agg ((Keep.c ((perfK k (IntKind.i64.wrap ((i : Int) + 2)) ((commandN ((belowN d size).2) k).1)).1)).map .r)) rfl rfl rfl rfl rfl (by decide) (Nat.le_of_ble_eq_true rfl) rfl rfl ?_
     exact RA.to2 hall hf hb (ro8_20 B go8_5_1 go8_6_1 qo8_5_2) rfl rfl (by kernel_rfl)
    ·skip
     refine RO.extract (d := S ((perfK k (IntKind.i64.wrap ((i : Int) + 2)) ((commandN ((belowN d size).2) k).1)).2.1)) rfl rfl rfl rfl rfl (by decide) (Nat.le_of_ble_eq_true rfl) rfl rfl ?_
     exact RA.to2 hall hf hb (ro8_22 B go8_5_1 go8_6_1 qo8_5_2) rfl rfl (by kernel_rfl)
    ·skip
     refine RO.alloc (ds := [.r (.v (.slice none 0 0)), .r (.v (.slice none 0 0))]) rfl rfl rfl rfl rfl rfl fun bo8_11_1 => ?_
     exact RA.to2 hall hf hb (ro8_24 B bo8_11_1 go8_5_1 go8_6_1 qo8_5_2) rfl rfl (by kernel_rfl)
   have ro8_16 : ∀ B, ∀ (go8_5_1 : Nat → Nat → Value), ∀ (go8_6_1 : Nat → Nat → Value), ∀ (qo8_5_2 : Nat → Value), RA f E B all 6 (bt 15 767) ⟨40, [(0, .obj (bo 0) ((l01Cur.c ((commandN ((belowN d size).2) k).2)).map .r)), (26, .tup [.agg ((Keep.c ((perfK k (IntKind.i64.wrap ((i : Int) + 2)) ((commandN ((belowN d size).2) k).1)).1)).map .r), .u, Bo ((perfK k (IntKind.i64.wrap ((i : Int) + 2)) ((commandN ((belowN d size).2) k).1)).2.2)]), (35, S ((perfK k (IntKind.i64.wrap ((i : Int) + 2)) ((commandN ((belowN d size).2) k).1)).2.1))] ++ b0⟩ K := by
    intro B go8_5_1 go8_6_1 qo8_5_2
    refine RA.of2 hall hf hb (RA.stepH (L := [8, 10, 11]) (Tell.of rfl) (by kernel_rfl) (by simp) (RA.each ?_ (RA.each ?_ (RA.each ?_ (RA.each0)))))
    ·skip
     refine RO.extract (d := .agg ((Keep.c ((perfK k (IntKind.i64.wrap ((i : Int) + 2)) ((commandN ((belowN d size).2) k).1)).1)).map .r)) rfl rfl rfl rfl rfl (by decide) (Nat.le_of_ble_eq_true rfl) rfl rfl ?_
     exact RA.to2 hall hf hb (ro8_19 B go8_5_1 go8_6_1 qo8_5_2) rfl rfl (by kernel_rfl)
    ·skip
     refine RO.extract (d := Bo ((perfK k (IntKind.i64.wrap ((i : Int) + 2)) ((commandN ((belowN d size).2) k).1)).2.2)) rfl rfl rfl rfl rfl (by decide) (Nat.le_of_ble_eq_true rfl) rfl rfl ?_
     exact RA.to2 hall hf hb (ro8_22 B go8_5_1 go8_6_1 qo8_5_2) rfl rfl (by kernel_rfl)
    ·skip
     refine RO.alloc (ds := [.r (.v (.slice none 0 0)), .r (.v (.slice none 0 0))]) rfl rfl rfl rfl rfl rfl fun bo8_11_1 => ?_
     exact RA.to2 hall hf hb (ro8_23 B bo8_11_1 go8_5_1 go8_6_1 qo8_5_2) rfl rfl (by kernel_rfl)
   have ro8_15 : ∀ B, ∀ (go8_5_1 : Nat → Nat → Value), ∀ (go8_6_1 : Nat → Nat → Value), ∀ (qo8_5_2 : Nat → Value), RA f E B all 6 (bt 15 511) ⟨40, [(0, .obj (bo 0) ((l01Cur.c ((commandN ((belowN d size).2) k).2)).map .r)), (26, .tup [.u, S ((perfK k (IntKind.i64.wrap ((i : Int) + 2)) ((commandN ((belowN d size).2) k).1)).2.1), Bo ((perfK k (IntKind.i64.wrap ((i : Int) + 2)) ((commandN ((belowN d size).2) k).1)).2.2)]), (34, .agg ((Keep.c ((perfK k (IntKind.i64.wrap ((i : Int) + 2)) ((commandN ((belowN d size).2) k).1)).1)).map .r))] ++ b0⟩ K := by
    intro B go8_5_1 go8_6_1 qo8_5_2
    refine RA.of2 hall hf hb (RA.stepH (L := [9, 10, 11]) (Tell.of rfl) (by kernel_rfl) (by simp) (RA.each ?_ (RA.each ?_ (RA.each ?_ (RA.each0)))))
    ·skip
     refine RO.extract (d := S ((perfK k (IntKind.i64.wrap ((i : Int) + 2)) ((commandN ((belowN d size).2) k).1)).2.1)) rfl rfl rfl rfl rfl (by decide) (Nat.le_of_ble_eq_true rfl) rfl rfl ?_
     exact RA.to2 hall hf hb (ro8_19 B go8_5_1 go8_6_1 qo8_5_2) rfl rfl (by kernel_rfl)
    ·skip
     refine RO.extract (d := Bo ((perfK k (IntKind.i64.wrap ((i : Int) + 2)) ((commandN ((belowN d size).2) k).1)).2.2)) rfl rfl rfl rfl rfl (by decide) (Nat.le_of_ble_eq_true rfl) rfl rfl ?_
     exact RA.to2 hall hf hb (ro8_20 B go8_5_1 go8_6_1 qo8_5_2) rfl rfl (by kernel_rfl)
    ·skip
     refine RO.alloc (ds := [.r (.v (.slice none 0 0)), .r (.v (.slice none 0 0))]) rfl rfl rfl rfl rfl rfl fun bo8_11_1 => ?_
     exact RA.to2 hall hf hb (ro8_21 B bo8_11_1 go8_5_1 go8_6_1 qo8_5_2) rfl rfl (by kernel_rfl)
   have ro8_14 : ∀ B, ∀ (bo8_11_1 : Nat), ∀ (go8_5_1 : Nat → Nat → Value), ∀ (go8_6_1 : Nat → Nat → Value), ∀ (qo8_5_2 : Nat → Value), RA f E B all 7 (bt 15 2175) ⟨40, [(0, .obj (bo 0) ((l01Cur.c ((commandN ((belowN d size).2) k).2)).map .r)), (9, .obj bo8_11_1 [.r (.v (.slice none 0 0)), .r (.v (.slice none 0 0))]), (33, .tup [.agg ((Keep.c ((perfK k (IntKind.i64.wrap ((i : Int) + 2)) ((commandN ((belowN d size).2) k).1)).1)).map .r), S ((perfK k (IntKind.i64.wrap ((i : Int) + 2)) ((commandN ((belowN d size).2) k).1)).2.1), Bo ((perfK k (IntKind.i64.wrap ((i : Int) + 2)) ((commandN ((belowN d size).2) k).1)).2.2)])] ++ b0⟩ K := by
    intro B bo8_11_1 go8_5_1 go8_6_1 qo8_5_2
    refine RA.of2 hall hf hb (RA.stepH (L := [7]) (Tell.of rfl) (by kernel_rfl) (by simp) (RA.each ?_ (RA.each0)))
    ·skip
     refine RO.moveMove rfl rfl rfl rfl rfl (by decide) (Nat.le_of_ble_eq_true rfl) (Nat.le_of_ble_eq_true rfl) ?_
     exact RA.to2 hall hf hb (ro8_18 B bo8_11_1 go8_5_1 go8_6_1 qo8_5_2) rfl rfl (by kernel_rfl)
   have ro8_13 : ∀ B, ∀ (go8_5_1 : Nat → Nat → Value), ∀ (go8_6_1 : Nat → Nat → Value), ∀ (qo8_5_2 : Nat → Value), RA f E B all 7 (bt 15 255) ⟨40, [(0, .obj (bo 0) ((l01Cur.c ((commandN ((belowN d size).2) k).2)).map .r)), (26, .tup [.agg ((Keep.c ((perfK k (IntKind.i64.wrap ((i : Int) + 2)) ((commandN ((belowN d size).2) k).1)).1)).map .r), S ((perfK k (IntKind.i64.wrap ((i : Int) + 2)) ((commandN ((belowN d size).2) k).1)).2.1), Bo ((perfK k (IntKind.i64.wrap ((i : Int) + 2)) ((commandN ((belowN d size).2) k).1)).2.2)])] ++ b0⟩ K := by
    intro B go8_5_1 go8_6_1 qo8_5_2
    refine RA.of2 hall hf hb (RA.stepH (L := [8, 9, 10, 11]) (Tell.of rfl) (by kernel_rfl) (by simp) (RA.each ?_ (RA.each ?_ (RA.each ?_ (RA.each ?_ (RA.each0))))))
    ·skip
     refine RO.extract (d := .agg ((Keep.c ((perfK k (IntKind.i64.wrap ((i : Int) + 2)) ((commandN ((belowN d size).2) k).1)).1)).map .r)) rfl rfl rfl rfl rfl (by decide) (Nat.le_of_ble_eq_true rfl) rfl rfl ?_
     exact RA.to2 hall hf hb (ro8_15 B go8_5_1 go8_6_1 qo8_5_2) rfl rfl (by kernel_rfl)
    ·skip
     refine RO.extract (d := S ((perfK k (IntKind.i64.wrap ((i : Int) + 2)) ((commandN ((belowN d size).2) k).1)).2.1)) rfl rfl rfl rfl rfl (by decide) (Nat.le_of_ble_eq_true rfl) rfl rfl ?_
     exact RA.to2 hall hf hb (ro8_16 B go8_5_1 go8_6_1 qo8_5_2) rfl rfl (by kernel_rfl)
    ·skip
     refine RO.extract (d := Bo ((perfK k (IntKind.i64.wrap ((i : Int) + 2)) ((commandN ((belowN d size).2) k).1)).2.2)) rfl rfl rfl rfl rfl (by decide) (Nat.le_of_ble_eq_true rfl) rfl rfl ?_
     exact RA.to2 hall hf hb (ro8_17 B go8_5_1 go8_6_1 qo8_5_2) rfl rfl (by kernel_rfl)
    ·skip
     refine RO.alloc (ds := [.r (.v (.slice none 0 0)), .r (.v (.slice none 0 0))]) rfl rfl rfl rfl rfl rfl fun bo8_11_1 => ?_
     exact RA.to2 hall hf hb (ro8_18 B bo8_11_1 go8_5_1 go8_6_1 qo8_5_2) rfl rfl (by kernel_rfl)
   have ro8_12 : ∀ B, ∀ (bo8_11_1 : Nat), ∀ (go8_5_1 : Nat → Nat → Value), ∀ (qo8_5_2 : Nat → Value), RA f E B all 8 (bt 15 2111) ⟨40, [(0, .obj (bo 0) ((l01Cur.c ((commandN ((belowN d size).2) k).2)).map .r)), (9, .obj bo8_11_1 [.r (.v (.slice none 0 0)), .r (.v (.slice none 0 0))]), (27, .agg ((Keep.c k).map .r)), (29, I (IntKind.i64.wrap ((i : Int) + 2))), (32, .agg ((Command.c ((commandN ((belowN d size).2) k).1)).map .r))] ++ b0⟩ K := by
    intro B bo8_11_1 go8_5_1 qo8_5_2
    refine RA.of2 hall hf hb (RA.stepH (L := [6]) (Tell.of rfl) (by kernel_rfl) (by simp) (RA.each ?_ (RA.each0)))
    ·skip
     refine RO.call rfl rfl (spec_Perform_fn k (IntKind.i64.wrap ((i : Int) + 2)) ((commandN ((belowN d size).2) k).1) hP.hk.ok.okTo) rfl (.cons (.agg (.cons (.r .r) (.cons (.r .r) (.nil)))) (.cons (.one (.r .r)) (.cons (.agg (.cons (.r .r) (.cons (.r .r) (.cons (.r .r) (.cons (.r .r) (.cons (.r .r) (.cons (.r .r) (.nil)))))))) (.nil)))) rfl fun go8_6_1 => ?_
     exact RA.to2 hall hf hb (ro8_14 B bo8_11_1 go8_5_1 go8_6_1 qo8_5_2) rfl rfl (by kernel_rfl)
   have ro8_11 : ∀ B, ∀ (go8_5_1 : Nat → Nat → Value), ∀ (go8_6_1 : Nat → Nat → Value), ∀ (qo8_5_2 : Nat → Value), RA f E B all 8 (bt 15 127) ⟨40, [(0, .obj (bo 0) ((l01Cur.c ((commandN ((belowN d size).2) k).2)).map .r)), (33, .tup [.agg ((Keep.c ((perfK k (IntKind.i64.wrap ((i : Int) + 2)) ((commandN ((belowN d size).2) k).1)).1)).map .r), S ((perfK k (IntKind.i64.wrap ((i : Int) + 2)) ((commandN ((belowN d size).2) k).1)).2.1), Bo ((perfK k (IntKind.i64.wrap ((i : Int) + 2)) ((commandN ((belowN d size).2) k).1)).2.2)])] ++ b0⟩ K := by
    intro B go8_5_1 go8_6_1 qo8_5_2
    refine RA.of2 hall hf hb (RA.stepH (L := [7, 11]) (Tell.of rfl) (by kernel_rfl) (by simp) (RA.each ?_ (RA.each ?_ (RA.each0))))
    ·skip
     refine RO.moveMove rfl rfl rfl rfl rfl (by decide) (Nat.le_of_ble_eq_true rfl) (Nat.le_of_ble_eq_true rfl) ?_
     exact RA.to2 hall hf hb (ro8_13 B go8_5_1 go8_6_1 qo8_5_2) rfl rfl (by kernel_rfl)
    ·skip
     refine RO.alloc (ds := [.r (.v (.slice none 0 0)), .r (.v (.slice none 0 0))]) rfl rfl rfl rfl rfl rfl fun bo8_11_1 => ?_
     exact RA.to2 hall hf hb (ro8_14 B bo8_11_1 go8_5_1 go8_6_1 qo8_5_2) rfl rfl (by kernel_rfl)
   have ro8_10 : ∀ B, ∀ (bo8_11_1 : Nat), ∀ (go8_5_1 : Nat → Nat → Value), ∀ (qo8_5_2 : Nat → Value), RA f E B all 9 (bt 15 2110) ⟨40, [(0, .obj (bo 0) ((l01Cur.c ((commandN ((belowN d size).2) k).2)).map .r)), (9, .obj bo8_11_1 [.r (.v (.slice none 0 0)), .r (.v (.slice none 0 0))]), (29, I (IntKind.i64.wrap ((i : Int) + 2))), (32, .agg ((Command.c ((commandN ((belowN d size).2) k).1)).map .r))] ++ b0⟩ K := by
    intro B bo8_11_1 go8_5_1 qo8_5_2
    refine RA.of2 hall hf hb (RA.stepH (L := [0]) (Tell.of rfl) (by kernel_rfl) (by simp) (RA.each ?_ (RA.each0)))
    ·skip
     refine RO.v rfl rfl (V.loadAgg rfl rfl rfl rfl rfl (Nat.le_of_ble_eq_true rfl)) rfl ?_
     exact RA.to2 hall hf hb (ro8_12 B bo8_11_1 go8_5_1 qo8_5_2) rfl rfl (by kernel_rfl)
   have ro8_9 : ∀ B, ∀ (bo8_11_1 : Nat), RA f E B all 9 (bt 15 2079) ⟨40, [(0, .obj (bo 0) ((l01Cur.c ((belowN d size).2)).map .r)), (9, .obj bo8_11_1 [.r (.v (.slice none 0 0)), .r (.v (.slice none 0 0))]), (27, .agg ((Keep.c k).map .r)), (29, I (IntKind.i64.wrap ((i : Int) + 2))), (30, .pt 0 (bo 0) 0), (31, .agg ((Keep.c k).map .r))] ++ b0⟩ K := by
    intro B bo8_11_1
    refine RA.of2 hall hf hb (RA.stepH (L := [5]) (Tell.of rfl) (by kernel_rfl) (by simp) (RA.each ?_ (RA.each0)))
    ·skip
     refine RO.callP (k := 0) (spec_l15Command_fn ((belowN d size).2) k (belowN_ok hP.hc _) hP.hk.ok.okTo) rfl rfl rfl rfl (Nat.le_of_ble_eq_true rfl) (by decide) rfl (DT.r (DT.r (DT.r DT.e))) (AsPs.here rfl (.cons (.agg (.cons (.r .r) (.cons (.r .r) (.nil)))) (.nil))) fun go8_5_1 qo8_5_2 => ?_
     exact RA.to2 hall hf hb (ro8_12 B bo8_11_1 go8_5_1 qo8_5_2) rfl rfl (by kernel_rfl)
   have ro8_8 : ∀ B, ∀ (go8_5_1 : Nat → Nat → Value), ∀ (qo8_5_2 : Nat → Value), RA f E B all 9 (bt 15 63) ⟨40, [(0, .obj (bo 0) ((l01Cur.c ((commandN ((belowN d size).2) k).2)).map .r)), (27, .agg ((Keep.c k).map .r)), (29, I (IntKind.i64.wrap ((i : Int) + 2))), (32, .agg ((Command.c ((commandN ((belowN d size).2) k).1)).map .r))] ++ b0⟩ K := by
    intro B go8_5_1 qo8_5_2
    refine RA.of2 hall hf hb (RA.stepH (L := [6, 11]) (Tell.of rfl) (by kernel_rfl) (by simp) (RA.each ?_ (RA.each ?_ (RA.each0))))
    ·skip
     refine RO.call rfl rfl (spec_Perform_fn k (IntKind.i64.wrap ((i : Int) + 2)) ((commandN ((belowN d size).2) k).1) hP.hk.ok.okTo) rfl (.cons (.agg (.cons (.r .r) (.cons (.r .r) (.nil)))) (.cons (.one (.r .r)) (.cons (.agg (.cons (.r .r) (.cons (.r .r) (.cons (.r .r) (.cons (.r .r) (.cons (.r .r) (.cons (.r .r) (.nil)))))))) (.nil)))) rfl fun go8_6_1 => ?_
     exact RA.to2 hall hf hb (ro8_11 B go8_5_1 go8_6_1 qo8_5_2) rfl rfl (by kernel_rfl)
    ·skip
     refine RO.alloc (ds := [.r (.v (.slice none 0 0)), .r (.v (.slice none 0 0))]) rfl rfl rfl rfl rfl rfl fun bo8_11_1 => ?_
     exact RA.to2 hall hf hb (ro8_12 B bo8_11_1 go8_5_1 qo8_5_2) rfl rfl (by kernel_rfl)
   have ro8_7 : ∀ B, ∀ (bo8_11_1 : Nat), RA f E B all 10 (bt 15 2078) ⟨40, [(0, .obj (bo 0) ((l01Cur.c ((belowN d size).2)).map .r)), (9, .obj bo8_11_1 [.r (.v (.slice none 0 0)), .r (.v (.slice none 0 0))]), (29, I (IntKind.i64.wrap ((i : Int) + 2))), (30, .pt 0 (bo 0) 0), (31, .agg ((Keep.c k).map .r))] ++ b0⟩ K := by
    intro B bo8_11_1
    refine RA.of2 hall hf hb (RA.stepH (L := [0, 5]) (Tell.of rfl) (by kernel_rfl) (by simp) (RA.each ?_ (RA.each ?_ (RA.each0))))
    ·skip
     refine RO.v rfl rfl (V.loadAgg rfl rfl rfl rfl rfl (Nat.le_of_ble_eq_true rfl)) rfl ?_
     exact RA.to2 hall hf hb (ro8_9 B bo8_11_1) rfl rfl (by kernel_rfl)
    ·skip
     refine RO.callP (k := 0) (spec_l15Command_fn ((belowN d size).2) k (belowN_ok hP.hc _) hP.hk.ok.okTo) rfl rfl rfl rfl (Nat.le_of_ble_eq_true rfl) (by decide) rfl (DT.r (DT.r (DT.r DT.e))) (AsPs.here rfl (.cons (.agg (.cons (.r .r) (.cons (.r .r) (.nil)))) (.nil))) fun go8_5_1 qo8_5_2 => ?_
     exact RA.to2 hall hf hb (ro8_10 B bo8_11_1 go8_5_1 qo8_5_2) rfl rfl (by kernel_rfl)
   have ro8_6 : ∀ B, ∀ (go8_5_1 : Nat → Nat → Value), ∀ (qo8_5_2 : Nat → Value), RA f E B all 10 (bt 15 62) ⟨40, [(0, .obj (bo 0) ((l01Cur.c ((commandN ((belowN d size).2) k).2)).map .r)), (29, I (IntKind.i64.wrap ((i : Int) + 2))), (32, .agg ((Command.c ((commandN ((belowN d size).2) k).1)).map .r))] ++ b0⟩ K := by
    intro B go8_5_1 qo8_5_2
    refine RA.of2 hall hf hb (RA.stepH (L := [0, 11]) (Tell.of rfl) (by kernel_rfl) (by simp) (RA.each ?_ (RA.each ?_ (RA.each0))))
    ·skip
     refine RO.v rfl rfl (V.loadAgg rfl rfl rfl rfl rfl (Nat.le_of_ble_eq_true rfl)) rfl ?_
     exact RA.to2 hall hf hb (ro8_8 B go8_5_1 qo8_5_2) rfl rfl (by kernel_rfl)
    ·skip
     refine RO.alloc (ds := [.r (.v (.slice none 0 0)), .r (.v (.slice none 0 0))]) rfl rfl rfl rfl rfl rfl fun bo8_11_1 => ?_
     exact RA.to2 hall hf hb (ro8_10 B bo8_11_1 go8_5_1 qo8_5_2) rfl rfl (by kernel_rfl)
   have ro8_5 : ∀ B, ∀ (bo8_11_1 : Nat), RA f E B all 10 (bt 15 2063) ⟨40, [(0, .obj (bo 0) ((l01Cur.c ((belowN d size).2)).map .r)), (9, .obj bo8_11_1 [.r (.v (.slice none 0 0)), .r (.v (.slice none 0 0))]), (27, .agg ((Keep.c k).map .r)), (29, I (IntKind.i64.wrap ((i : Int) + 2))), (30, .pt 0 (bo 0) 0)] ++ b0⟩ K := by
    intro B bo8_11_1
    refine RA.of2 hall hf hb (RA.stepH (L := [4]) (Tell.of rfl) (by kernel_rfl) (by simp) (RA.each ?_ (RA.each0)))
    ·skip
     refine RO.v rfl rfl (V.loadAgg rfl rfl rfl rfl rfl (Nat.le_of_ble_eq_true rfl)) rfl ?_
     exact RA.to2 hall hf hb (ro8_9 B bo8_11_1) rfl rfl (by kernel_rfl)
   have ro8_4 : ∀ B, RA f E B all 10 (bt 15 31) ⟨40, [(0, .obj (bo 0) ((l01Cur.c ((belowN d size).2)).map .r)), (27, .agg ((Keep.c k).map .r)), (29, I (IntKind.i64.wrap ((i : Int) + 2))), (30, .pt 0 (bo 0) 0), (31, .agg ((Keep.c k).map .r))] ++ b0⟩ K := by
    intro B
    refine RA.of2 hall hf hb (RA.stepH (L := [5, 11]) (Tell.of rfl) (by kernel_rfl) (by simp) (RA.each ?_ (RA.each ?_ (RA.each0))))
    ·skip
     refine RO.callP (k := 0) (spec_l15Command_fn ((belowN d size).2) k (belowN_ok hP.hc _) hP.hk.ok.okTo) rfl rfl rfl rfl (Nat.le_of_ble_eq_true rfl) (by decide) rfl (DT.r (DT.r (DT.r DT.e))) (AsPs.here rfl (.cons (.agg (.cons (.r .r) (.cons (.r .r) (.nil)))) (.nil))) fun go8_5_1 qo8_5_2 => ?_
     exact RA.to2 hall hf hb (ro8_8 B go8_5_1 qo8_5_2) rfl rfl (by kernel_rfl)
    ·skip
     refine RO.alloc (ds := [.r (.v (.slice none 0 0)), .r (.v (.slice none 0 0))]) rfl rfl rfl rfl rfl rfl fun bo8_11_1 => ?_
     exact RA.to2 hall hf hb (ro8_9 B bo8_11_1) rfl rfl (by kernel_rfl)
   have ro8_3 : ∀ B, ∀ (bo8_11_1 : Nat), RA f E B all 11 (bt 15 2062) ⟨40, [(0, .obj (bo 0) ((l01Cur.c ((belowN d size).2)).map .r)), (9, .obj bo8_11_1 [.r (.v (.slice none 0 0)), .r (.v (.slice none 0 0))]), (29, I (IntKind.i64.wrap ((i : Int) + 2))), (30, .pt 0 (bo 0) 0)] ++ b0⟩ K := by
    intro B bo8_11_1
    refine RA.of2 hall hf hb (RA.stepH (L := [0, 4]) (Tell.of rfl) (by kernel_rfl) (by simp) (RA.each ?_ (RA.each ?_ (RA.each0))))
    ·skip
     refine RO.v rfl rfl (V.loadAgg rfl rfl rfl rfl rfl (Nat.le_of_ble_eq_true rfl)) rfl ?_
     exact RA.to2 hall hf hb (ro8_5 B bo8_11_1) rfl rfl (by kernel_rfl)
    ·skip
     refine RO.v rfl rfl (V.loadAgg rfl rfl rfl rfl rfl (Nat.le_of_ble_eq_true rfl)) rfl ?_
     exact RA.to2 hall hf hb (ro8_7 B bo8_11_1) rfl rfl (by kernel_rfl)
   have ro8_2 : ∀ B, RA f E B all 11 (bt 15 30) ⟨40, [(0, .obj (bo 0) ((l01Cur.c ((belowN d size).2)).map .r)), (29, I (IntKind.i64.wrap ((i : Int) + 2))), (30, .pt 0 (bo 0) 0), (31, .agg ((Keep.c k).map .r))] ++ b0⟩ K := by
    intro B
    refine RA.of2 hall hf hb (RA.stepH (L := [0, 5, 11]) (Tell.of rfl) (by kernel_rfl) (by simp) (RA.each ?_ (RA.each ?_ (RA.each ?_ (RA.each0)))))
    ·skip
     refine RO.v rfl rfl (V.loadAgg rfl rfl rfl rfl rfl (Nat.le_of_ble_eq_true rfl)) rfl ?_
     exact RA.to2 hall hf hb (ro8_4 B) rfl rfl (by kernel_rfl)
    ·skip
     refine RO.callP (k := 0) (spec_l15Command_fn ((belowN d size).2) k (belowN_ok hP.hc _) hP.hk.ok.okTo) rfl rfl rfl rfl (Nat.le_of_ble_eq_true rfl) (by decide) rfl (DT.r (DT.r (DT.r DT.e))) (AsPs.here rfl (.cons (.agg (.cons (.r .r) (.cons (.r .r) (.nil)))) (.nil))) fun go8_5_1 qo8_5_2 => ?_
     exact RA.to2 hall hf hb (ro8_6 B go8_5_1 qo8_5_2) rfl rfl (by kernel_rfl)
    ·skip
     refine RO.alloc (ds := [.r (.v (.slice none 0 0)), .r (.v (.slice none 0 0))]) rfl rfl rfl rfl rfl rfl fun bo8_11_1 => ?_
     exact RA.to2 hall hf hb (ro8_7 B bo8_11_1) rfl rfl (by kernel_rfl)
   have ro8_1 : ∀ B, RA f E B all 11 (bt 15 15) ⟨40, [(0, .obj (bo 0) ((l01Cur.c ((belowN d size).2)).map .r)), (27, .agg ((Keep.c k).map .r)), (29, I (IntKind.i64.wrap ((i : Int) + 2))), (30, .pt 0 (bo 0) 0)] ++ b0⟩ K := by
    intro B
    refine RA.of2 hall hf hb (RA.stepH (L := [4, 11]) (Tell.of rfl) (by kernel_rfl) (by simp) (RA.each ?_ (RA.each ?_ (RA.each0))))
    ·skip
     refine RO.v rfl rfl (V.loadAgg rfl rfl rfl rfl rfl (Nat.le_of_ble_eq_true rfl)) rfl ?_
     exact RA.to2 hall hf hb (ro8_4 B) rfl rfl (by kernel_rfl)
    ·skip
     refine RO.alloc (ds := [.r (.v (.slice none 0 0)), .r (.v (.slice none 0 0))]) rfl rfl rfl rfl rfl rfl fun bo8_11_1 => ?_
     exact RA.to2 hall hf hb (ro8_5 B bo8_11_1) rfl rfl (by kernel_rfl)
   have ro8_0 : ∀ B, RA f E B all 12 (bt 15 14) ⟨40, [(0, .obj (bo 0) ((l01Cur.c ((belowN d size).2)).map .r)), (29, I (IntKind.i64.wrap ((i : Int) + 2))), (30, .pt 0 (bo 0) 0)] ++ b0⟩ K := by
    intro B
    refine RA.of2 hall hf hb (RA.stepH (L := [0, 4, 11]) (Tell.of rfl) (by kernel_rfl) (by simp) (RA.each ?_ (RA.each ?_ (RA.each ?_ (RA.each0)))))
    ·skip
     refine RO.v rfl rfl (V.loadAgg rfl rfl rfl rfl rfl (Nat.le_of_ble_eq_true rfl)) rfl ?_
     exact RA.to2 hall hf hb (ro8_1 B) rfl rfl (by kernel_rfl)
    ·skip
     refine RO.v rfl rfl (V.loadAgg rfl rfl rfl rfl rfl (Nat.le_of_ble_eq_true rfl)) rfl ?_
     exact RA.to2 hall hf hb (ro8_2 B) rfl rfl (by kernel_rfl)
    ·skip
     refine RO.alloc (ds := [.r (.v (.slice none 0 0)), .r (.v (.slice none 0 0))]) rfl rfl rfl rfl rfl rfl fun bo8_11_1 => ?_
     exact RA.to2 hall hf hb (ro8_3 B bo8_11_1) rfl rfl (by kernel_rfl)
   refine RA.start (by kernel_rfl) (by kernel_rfl) (m := 15) (ls' := (bt 15 0)) ?_
   refine RA.fr XK 40 12 [1,2,3] (bt 15 14) rfl rfl (by kernel_rfl) (Tell.of rfl) ?_
   (conv=>whnf);refine ⟨rfl,fun B=>?_⟩
   exact RA.to2 hall hf hb (ro8_0 B) rfl rfl (by kernel_rfl)
  ·rintro ⟨bo8_11_1, go8_5_1, go8_6_1, qo8_5_2⟩
   refine CW.k XK 40 1 [0,1,4,5,8,9,37] rfl ?_
   (conv=>whnf);refine ⟨rfl,?_⟩
   refine CW.cond rfl (fun h9 => ?_) (fun h9 => ?_)
   ·skip
    refine CW.region ?_
    refine RW.k XK 40 2 rfl ?_
    (conv=>whnf);refine ⟨rfl,?_⟩
    refine RW.nil ?_
    refine CW.keep 40 [0,1,4,5,8] rfl ?_;(conv=>whnf);refine ⟨?_⟩
    refine CW.region ?_
    refine RW.k XK 40 1 rfl ?_
    (conv=>whnf);refine ⟨rfl,?_⟩
    refine RW.v rfl (V.inc rfl rfl rfl (by have h9 := hP.lt hlt; omega) (by have h9 := hP.lt hlt; have h8 : size.toNat ≤ 40 := (by omega); simp only [maxLen]; omega)) ?_
    refine RW.k XK 40 1 rfl ?_
    (conv=>whnf);refine ⟨rfl,?_⟩
    refine RW.nil ?_
    exact ⟨(i + 1, _, _), by have h9 := hP.lt hlt; simp only []; omega, (hP.stepW hs hlt (by assumption) (by first | rfl | simp)), rfl, Le.c rfl <| Le.c rfl <| Le.c rfl <| Le.c rfl <| Le.c rfl <| Le.e⟩
   ·skip
    refine CW.skip ?_
    refine CW.keep 40 [0,1,4,5,8] rfl ?_;(conv=>whnf);refine ⟨?_⟩
    refine CW.region ?_
    refine RW.k XK 40 1 rfl ?_
    (conv=>whnf);refine ⟨rfl,?_⟩
    refine RW.v rfl (V.inc rfl rfl rfl (by have h9 := hP.lt hlt; omega) (by have h9 := hP.lt hlt; have h8 : size.toNat ≤ 40 := (by omega); simp only [maxLen]; omega)) ?_
    refine RW.k XK 40 1 rfl ?_
    (conv=>whnf);refine ⟨rfl,?_⟩
    refine RW.nil ?_
    exact ⟨(i + 1, _, _), by have h9 := hP.lt hlt; simp only []; omega, (hP.stepW hs hlt (by assumption) (by first | rfl | simp)), rfl, Le.c rfl <| Le.c rfl <| Le.c rfl <| Le.c rfl <| Le.c rfl <| Le.e⟩
 ·skip
  have hfin := hP.fin (of_decide_eq_false h7)
  refine CW.exit ?_
  refine CW.keep 40 [0,4,5] rfl ?_;(conv=>whnf);refine ⟨?_⟩
  refine CW.k XK 40 1 [0,4] rfl ?_
  (conv=>whnf);refine ⟨rfl,?_⟩
  refine CW.ret ?_
  exact Post.one (RV.c (f := fun e => (Keep.c e).map .r) (e' := k) rfl rfl rfl rfl (DT.r (DT.r DT.e)) (by rw [hfin])) (AOs.obE (f := fun e => (l01Cur.c e).map .r) (e' := ((belowN d size).2)) rfl (DT.r (DT.r (DT.r DT.e))) (by rw [hfin]) (AOs.r AOs.e))
set_option maxHeartbeats 4000000 in
theorem spec_DrawTalk_fn (code : List Int) : Eng.Fn E.P 15 [.one (.r (sl 1 cU code))] (.tup [.agg ((Keep.c ((talkK code).1)).map .r), .agg ((Command.c (talkX code)).map .w)]) [.one (.r (sl 1 cU code))] := by
 refine Eng.Fn.intro (E := E) (rvs := [.cell 2 31, .cell 3 38]) Tryd.func15 rfl rfl rfl (by simp [outSlots, moved, rvSlot, sl]) ?_
 intro B g bo
 refine CW.bound (x := .tmp 0) (n := code.length) (AsT.r) (fun hl0 => ?_)
 refine CW.keep 16 [0] rfl ?_;(conv=>whnf);refine ⟨?_⟩
 refine CW.k XK 16 1 [0,2,3] rfl ?_
 (conv=>whnf);intro b1;(conv=>whnf);intro b2;(conv=>whnf);refine ⟨rfl,?_⟩
 refine CW.seq ?_
 refine CW.region ?_
 refine RW.k XK 16 1 rfl ?_
 (conv=>whnf);refine ⟨rfl,?_⟩
 refine RW.call rfl (spec_l01New_fn code) rfl (.cons (.one (.r .r)) (.nil)) fun g3 => ?_
 refine RW.k XK 16 1 rfl ?_
 (conv=>whnf);refine ⟨rfl,?_⟩
 refine RW.nil ?_
 refine CW.keep 16 [0,2,3,4,7] rfl ?_;(conv=>whnf);refine ⟨?_⟩
 refine CW.seq ?_
 refine CW.region ?_
 refine RW.k XK 16 2 rfl ?_
 (conv=>whnf);refine ⟨rfl,?_⟩
 refine RW.call rfl (spec_l15Size_fn code) rfl (.cons (.one (.r .r)) (.nil)) fun g4 => ?_
 refine RW.callP (k := 7) (spec_l15Keep_fn (cur0 code) (talkSize code) (cur0_ok hl0).2 (by have h9 := talkSize_le code; omega)) rfl rfl (Nat.le_of_ble_eq_true rfl) (by decide) rfl (DT.r (DT.r (DT.r DT.e))) (AsPs.here rfl (.cons (.one (.r .r)) (.nil))) fun g5 q6 => ?_
 refine RW.k XK 16 2 rfl ?_
 (conv=>whnf);intro b7;(conv=>whnf);refine ⟨rfl,?_⟩
 refine RW.freezeB (ts := (Keep.c ((keepN (cur0 code) (talkSize code)).1))) 5 rfl (DRd.r (DRd.r DRd.e)) ?_
 refine RW.nil ?_
 refine CW.keep 16 [2,3,4,5,7] rfl ?_;(conv=>whnf);refine ⟨?_⟩
 refine CW.anyJ2 (fc := []) (L0 := []) 16 (fun (zz : (Nat → Nat → Value) × (Nat → Value)) => match zz with | (go8_3_1, qo8_3_2) => [(2, .obj b1 ((Keep.c ((keepN (cur0 code) (talkSize code)).1)).map .r)), (3, .obj b2 ((Command.c ((commandN ((keepN (cur0 code) (talkSize code)).2) ((keepN (cur0 code) (talkSize code)).1)).1)).map .r))]) (fun all hall f hf b0 hb K hK => ?_) ?_
 ·skip
  have ro8_3 : ∀ B, ∀ (go8_3_1 : Nat → Nat → Value), ∀ (qo8_3_2 : Nat → Value), RA f E B all 0 (bt 6 63) ⟨16, [(2, .obj b1 ((Keep.c ((keepN (cur0 code) (talkSize code)).1)).map .r)), (3, .obj b2 ((Command.c ((commandN ((keepN (cur0 code) (talkSize code)).2) ((keepN (cur0 code) (talkSize code)).1)).1)).map .r))] ++ b0⟩ K := by
   intro B go8_3_1 qo8_3_2
   exact RA.of2 hall hf hb (RA.finH (Tell.of rfl) (by kernel_rfl) (hK (go8_3_1, qo8_3_2) _ rfl (Le.of rfl)))
  have ro8_2 : ∀ B, ∀ (go8_3_1 : Nat → Nat → Value), ∀ (qo8_3_2 : Nat → Value), RA f E B all 1 (bt 6 31) ⟨16, [(2, .obj b1 ((Keep.c ((keepN (cur0 code) (talkSize code)).1)).map .r)), (3, .obj b2 [I 0, I 0, I 0, S (⟨#[]⟩), S (⟨#[]⟩), I 0]), (15, .agg ((Command.c ((commandN ((keepN (cur0 code) (talkSize code)).2) ((keepN (cur0 code) (talkSize code)).1)).1)).map .r))] ++ b0⟩ K := by
   intro B go8_3_1 qo8_3_2
   refine RA.of2 hall hf hb (RA.stepH (L := [5]) (Tell.of rfl) (by kernel_rfl) (by simp) (RA.each ?_ (RA.each0)))
   ·skip
    refine RO.storeAgg (es := ((Command.c ((commandN ((keepN (cur0 code) (talkSize code)).2) ((keepN (cur0 code) (talkSize code)).1)).1)).map .r)) rfl rfl rfl rfl rfl rfl rfl rfl rfl rfl (Nat.le_of_ble_eq_true rfl) rfl ?_
    exact RA.to2 hall hf hb (ro8_3 B go8_3_1 qo8_3_2) rfl rfl (by kernel_rfl)
  have ro8_1 : ∀ B, ∀ (go8_3_1 : Nat → Nat → Value), ∀ (qo8_3_2 : Nat → Value), RA f E B all 2 (bt 6 15) ⟨16, [(2, .obj b1 [.r (.v (.slice none 0 0)), .r (.v (.slice none 0 0))]), (3, .obj b2 [I 0, I 0, I 0, S (⟨#[]⟩), S (⟨#[]⟩), I 0]), (12, .agg ((Keep.c ((keepN (cur0 code) (talkSize code)).1)).map .r)), (15, .agg ((Command.c ((commandN ((keepN (cur0 code) (talkSize code)).2) ((keepN (cur0 code) (talkSize code)).1)).1)).map .r))] ++ b0⟩ K := by
   intro B go8_3_1 qo8_3_2
   refine RA.of2 hall hf hb (RA.stepH (L := [4]) (Tell.of rfl) (by kernel_rfl) (by simp) (RA.each ?_ (RA.each0)))
   ·skip
    refine RO.storeAgg (es := ((Keep.c ((keepN (cur0 code) (talkSize code)).1)).map .r)) rfl rfl rfl rfl rfl rfl rfl rfl rfl rfl (Nat.le_of_ble_eq_true rfl) rfl ?_
    exact RA.to2 hall hf hb (ro8_2 B go8_3_1 qo8_3_2) rfl rfl (by kernel_rfl)
  have ro8_0 : ∀ B, RA f E B all 3 (bt 6 7) ⟨16, [(2, .obj b1 [.r (.v (.slice none 0 0)), .r (.v (.slice none 0 0))]), (3, .obj b2 [I 0, I 0, I 0, S (⟨#[]⟩), S (⟨#[]⟩), I 0]), (7, .obj (blk (g3 0 3)) ((l01Cur.c ((keepN (cur0 code) (talkSize code)).2)).map .r)), (12, .agg ((Keep.c ((keepN (cur0 code) (talkSize code)).1)).map .r)), (13, .pt 7 (blk (g3 0 3)) 0), (14, .agg ((Keep.c ((keepN (cur0 code) (talkSize code)).1)).map .r))] ++ b0⟩ K := by
   intro B
   refine RA.of2 hall hf hb (RA.stepH (L := [3]) (Tell.of rfl) (by kernel_rfl) (by simp) (RA.each ?_ (RA.each0)))
   ·skip
    refine RO.callP (k := 7) (spec_l15Command_fn ((keepN (cur0 code) (talkSize code)).2) ((keepN (cur0 code) (talkSize code)).1) (talk_good hl0).2 (talk_good hl0).1.ok.okTo) rfl rfl rfl rfl (Nat.le_of_ble_eq_true rfl) (by decide) rfl (DT.r (DT.r (DT.r DT.e))) (AsPs.here rfl (.cons (.agg (.cons (.r .r) (.cons (.r .r) (.nil)))) (.nil))) fun go8_3_1 qo8_3_2 => ?_
    exact RA.to2 hall hf hb (ro8_1 B go8_3_1 qo8_3_2) rfl rfl (by kernel_rfl)
  refine RA.start (by kernel_rfl) (by kernel_rfl) (m := 6) (ls' := (bt 6 0)) ?_
  refine RA.fr XK 16 3 [0,1,2] (bt 6 7) rfl rfl (by kernel_rfl) (Tell.of rfl) ?_
  (conv=>whnf);refine ⟨rfl,fun B=>?_⟩
  exact RA.to2 hall hf hb (ro8_0 B) rfl rfl (by kernel_rfl)
 ·rintro ⟨go8_3_1, qo8_3_2⟩
  refine CW.ret ?_
  exact Post.tup (by decide) (RVs.c (RV.c (f := fun e => (Keep.c e).map .r) (e' := ((keepN (cur0 code) (talkSize code)).1)) rfl rfl rfl rfl (DT.r (DT.r DT.e)) (by rfl)) (RVs.c (RV.c (f := fun e => (Command.c e).map .w) (e' := ((commandN ((keepN (cur0 code) (talkSize code)).2) ((keepN (cur0 code) (talkSize code)).1)).1)) rfl rfl rfl rfl (DT.v (DT.v (DT.v (DT.v (DT.v (DT.v DT.e)))))) (by rfl)) RVs.e)) (AOs.r AOs.e)
set_option maxHeartbeats 4000000 in
theorem impl_ShowKeep_fn (k : Keep) (hok : okToKeep k) : Eng.Fn E.P 12 [.agg ((Keep.c k).map .r)] (.one (.one (.w (.v (.string (showK k)))))) [.agg ((Keep.c k).map .r)] := by
 refine Eng.Fn.intro (E := E) (rvs := [.tmp 2]) Tryd.func12 rfl rfl rfl (by simp [outSlots, moved, rvSlot, sl]) ?_
 intro B g bo
 refine CW.keep 33 [0] rfl ?_;(conv=>whnf);refine ⟨?_⟩
 have hl1 : k.sessions.length ≤ maxLen := by have := hok.1.1; simp only [maxLen]; omega
 have hl2 : k.items.length ≤ maxLen := by have := hok.2.1; simp only [maxLen]; omega
 refine CW.seq ?_
 refine CW.region ?_
 refine RW.k XK 33 1 rfl ?_
 (conv=>whnf);intro b1;(conv=>whnf);refine ⟨rfl,?_⟩
 refine RW.freezeB (ts := (Keep.c k)) 1 rfl (DRd.r (DRd.r DRd.e)) ?_
 refine RW.k XK 33 1 rfl ?_
 (conv=>whnf);refine ⟨rfl,?_⟩
 refine RW.nil ?_
 refine CW.keep 33 [1] rfl ?_;(conv=>whnf);refine ⟨?_⟩
 refine CW.k XK 33 1 [1,3] rfl ?_
 (conv=>whnf);refine ⟨rfl,?_⟩
 refine CW.seq ?_
 refine CW.seq ?_
 refine CW.region ?_
 refine RW.k XK 33 1 rfl ?_
 (conv=>whnf);refine ⟨rfl,?_⟩
 refine RW.call rfl (impl_KeepOk_fn k hok) rfl (.cons (.agg (.cons (.r .r) (.cons (.r .r) (.nil)))) (.nil)) fun g2 => ?_
 refine RW.k XK 33 1 rfl ?_
 (conv=>whnf);refine ⟨rfl,?_⟩
 refine RW.nil ?_
 refine CW.keep 33 [1,3,8] rfl ?_;(conv=>whnf);refine ⟨?_⟩
 refine CW.cond rfl (fun h3 => ?_) (fun h3 => ?_)
 ·skip
  refine CW.k XK 33 1 [2] rfl ?_
  (conv=>whnf);refine ⟨rfl,?_⟩
  refine CW.ret ?_
  exact Post.one (RV.s rfl (by simp_all [showK])) (AOs.a rfl AOs.e)
 ·skip
  have hko : keepOk k = true := by simpa using h3
  have hlen := keepOk_len hko
  have hits := keepOk_it hko
  refine CW.skip ?_
  refine CW.keep 33 [1,3] rfl ?_;(conv=>whnf);refine ⟨?_⟩
  refine CW.seq ?_
  refine CW.k XK 33 1 [3,11,12,13] rfl ?_
  (conv=>whnf);refine ⟨rfl,?_⟩
  refine CW.block ?_
  refine CW.loopI 33 (fun (zz : Nat × ByteArray) => match zz with | (i, s) => [(3, S s), (11, .r (sl 3 Item.c k.items)), (12, I (k.items.length : Int)), (13, I (i : Int))]) (fun (zz : Nat × ByteArray) => match zz with | (i, s) => i ≤ k.items.length ∧ s.size ≤ i * 41 ∧ s = showL (k.items.take i)) (fun (zz : Nat × ByteArray) => match zz with | (i, s) => k.items.length - i) (0, _) rfl (Le.c rfl <| Le.c rfl <| Le.c rfl <| Le.c rfl <| Le.e) ⟨by omega, by decide, rfl⟩ ?_
  rintro ⟨i, s⟩ ⟨hb, hs, hr⟩
  refine CW.k XK 33 1 [3,11,12,13,14] rfl ?_
  (conv=>whnf);refine ⟨rfl,?_⟩
  refine CW.seq ?_
  refine CW.cond rfl (fun h4 => ?_) (fun h4 => ?_)
  ·skip
   have hii : i < k.items.length := by have := h4; simp at this; first | exact this | omega | (simp; done) | (simp; omega)
   obtain ⟨ei, hei⟩ : ∃ e, k.items[i]? = some e := ⟨_, List.getElem?_eq_getElem hii⟩
   have hdi := drop_get hei
   have hit := hits ei (List.mem_of_getElem? hei)
   have hll := line_len hit
   have hq1 := hit.len
   have hq2 := hit.k8
   have hq3 := hit.v
   refine CW.skip ?_
   refine CW.keep 33 [3,11,12,13] rfl ?_;(conv=>whnf);refine ⟨?_⟩
   refine CW.seq ?_
   refine CW.block ?_
   refine CW.seq ?_
   refine CW.region ?_
   refine RW.v rfl (V.indexS rfl rfl rfl rfl rfl rfl Item.len hei) ?_
   refine RW.k XK 33 3 rfl ?_
   (conv=>whnf);intro b5;(conv=>whnf);refine ⟨rfl,?_⟩
   refine RW.freezeB (ts := (Item.c ei)) 5 rfl (DRd.r (DRd.r (DRd.r DRd.e))) ?_
   refine RW.nil ?_
   refine CW.keep 33 [3,5,11,12,13] rfl ?_;(conv=>whnf);refine ⟨?_⟩
   refine CW.anyR2 (fc := []) (L0 := [(11, .r (sl 3 Item.c k.items)), (12, I (k.items.length : Int)), (13, I (i : Int))]) 33 (fun (go6_6_1 : (Nat → Nat → Value)) => [(3, S (s ++ (((((ei.key ++ (⟨#[32]⟩ : ByteArray)) ++ (itoaB ei.ver)) ++ (⟨#[32]⟩ : ByteArray)) ++ ei.val) ++ (⟨#[10]⟩ : ByteArray))))]) (fun all hall f hf b0 hb K hK => ?_) ?_
   ·skip
    have ro6_1 : ∀ B, ∀ (go6_6_1 : Nat → Nat → Value), RA f E B all 0 (bt 15 32767) ⟨33, [(3, S (s ++ (((((ei.key ++ (⟨#[32]⟩ : ByteArray)) ++ (itoaB ei.ver)) ++ (⟨#[32]⟩ : ByteArray)) ++ ei.val) ++ (⟨#[10]⟩ : ByteArray))))] ++ b0⟩ K := by
     intro B go6_6_1
     exact RA.of2 hall hf hb (RA.finH (Tell.of rfl) (by kernel_rfl) (hK go6_6_1 _ rfl (Le.of rfl)))
    have ro6_0 : ∀ B, RA f E B all 7 (bt 15 1599) ⟨33, [(3, S s), (17, S s), (20, S (ei.key ++ (⟨#[32]⟩ : ByteArray))), (22, I ei.ver), (27, S ei.val)] ++ b0⟩ K := by
     intro B
     refine RA.of2 hall hf hb (RA.stepH (L := [6]) (Tell.of rfl) (by kernel_rfl) (by simp) (RA.each ?_ (RA.each0)))
     ·skip
      refine RO.call rfl rfl (impl_Decimal_fn ei.ver (by have h9 := hits ei (List.mem_of_getElem? hei); have hq1 := h9.n1; have hq2 := h9.n9; first | exact okI_of (by omega) (by omega) | (constructor <;> omega))) rfl (.cons (.one (.r .r)) (.nil)) rfl fun go6_6_1 => ?_
      refine RA.first (i := 7) (ls' := (bt 15 1791)) (Tell.of rfl) (by kernel_rfl) rfl rfl rfl (VF.p (V.cat rfl rfl rfl (by have g1 : (⟨#[32]⟩ : ByteArray).size = 1 := rfl; have g2 : (⟨#[10]⟩ : ByteArray).size = 1 := rfl; simp only [ByteArray.size_append, maxLen, g1, g2]; omega))) ?_
      refine RA.first (i := 8) (ls' := (bt 15 2047)) (Tell.of rfl) (by kernel_rfl) rfl rfl rfl (VF.p (V.cat rfl rfl rfl (by have g1 : (⟨#[32]⟩ : ByteArray).size = 1 := rfl; have g2 : (⟨#[10]⟩ : ByteArray).size = 1 := rfl; simp only [ByteArray.size_append, maxLen, g1, g2]; omega))) ?_
      refine RA.first (i := 11) (ls' := (bt 15 4095)) (Tell.of rfl) (by kernel_rfl) rfl rfl rfl (VF.p (V.cat rfl rfl rfl (by have g1 : (⟨#[32]⟩ : ByteArray).size = 1 := rfl; have g2 : (⟨#[10]⟩ : ByteArray).size = 1 := rfl; simp only [ByteArray.size_append, maxLen, g1, g2]; omega))) ?_
      refine RA.first (i := 12) (ls' := (bt 15 8191)) (Tell.of rfl) (by kernel_rfl) rfl rfl rfl (VF.p (V.cat rfl rfl rfl (by have g1 : (⟨#[32]⟩ : ByteArray).size = 1 := rfl; have g2 : (⟨#[10]⟩ : ByteArray).size = 1 := rfl; simp only [ByteArray.size_append, maxLen, g1, g2]; omega))) ?_
      refine RA.first (i := 13) (ls' := (bt 15 16383)) (Tell.of rfl) (by kernel_rfl) rfl rfl rfl (VF.p (V.cat rfl rfl rfl (by have g1 : (⟨#[32]⟩ : ByteArray).size = 1 := rfl; have g2 : (⟨#[10]⟩ : ByteArray).size = 1 := rfl; simp only [ByteArray.size_append, maxLen, g1, g2]; omega))) ?_
      refine RA.fr XK 33 0 [14] (bt 15 32767) rfl rfl (by kernel_rfl) (Tell.of rfl) ?_
      (conv=>whnf);refine ⟨rfl,fun B=>?_⟩
      exact RA.to2 hall hf hb (ro6_1 B go6_6_1) rfl rfl (by kernel_rfl)
    refine RA.start (by kernel_rfl) (by kernel_rfl) (m := 15) (ls' := (bt 15 0)) ?_
    refine RA.fr XK 33 12 [0,1,2] (bt 15 7) rfl rfl (by kernel_rfl) (Tell.of rfl) ?_
    (conv=>whnf);refine ⟨rfl,fun B=>?_⟩
    refine RA.first (i := 3) (ls' := (bt 15 15)) (Tell.of rfl) (by kernel_rfl) rfl rfl rfl (VF.p (V.cat rfl rfl rfl (by have g1 : (⟨#[32]⟩ : ByteArray).size = 1 := rfl; have g2 : (⟨#[10]⟩ : ByteArray).size = 1 := rfl; simp only [ByteArray.size_append, maxLen, g1, g2]; omega))) ?_
    refine RA.fr XK 33 7 [4,5,9,10] (bt 15 1599) rfl rfl (by kernel_rfl) (Tell.of rfl) ?_
    (conv=>whnf);refine ⟨rfl,fun B=>?_⟩
    exact RA.to2 hall hf hb (ro6_0 B) rfl rfl (by kernel_rfl)
   ·rintro go6_6_1
    refine CW.keep 33 [3,11,12,13] rfl ?_;(conv=>whnf);refine ⟨?_⟩
    refine CW.region ?_
    refine RW.v rfl (V.inc rfl rfl rfl hii hl2) ?_
    refine RW.k XK 33 1 rfl ?_
    (conv=>whnf);refine ⟨rfl,?_⟩
    refine RW.nil ?_
    exact ⟨(i + 1, _), by simp only []; omega, (show_step hei hb hs hr hll (by simp only [line, ByteArray.append_assoc])), rfl, Le.c rfl <| Le.c rfl <| Le.c rfl <| Le.c rfl <| Le.e⟩
  ·skip
   have hii : k.items.length ≤ i := by have := h4; simp at this; first | exact this | omega | (simp; done) | (simp; omega)
   have hdi : k.items.drop i = [] := List.drop_eq_nil_of_le hii
   refine CW.exit ?_
   refine CW.keep 33 [3] rfl ?_;(conv=>whnf);refine ⟨?_⟩
   refine CW.k XK 33 1 [2] rfl ?_
   (conv=>whnf);refine ⟨rfl,?_⟩
   refine CW.ret ?_
   exact Post.one (RV.s rfl (by rw [showK, if_pos hko, hr, List.take_of_length_le hii])) (AOs.a rfl AOs.e)
set_option maxHeartbeats 4000000 in
theorem spec_ShowKeep_fn (k : Keep) (hok : okToKeep k) : Eng.Fn E.P 10 [.agg ((Keep.c k).map .r)] (.one (.one (.w (.v (.string (showK k)))))) [.agg ((Keep.c k).map .r)] := by
 refine Eng.Fn.intro (E := E) (rvs := [.tmp 2]) Tryd.func10 rfl rfl rfl (by simp [outSlots, moved, rvSlot, sl]) ?_
 intro B g bo
 refine CW.keep 42 [0] rfl ?_;(conv=>whnf);refine ⟨?_⟩
 have hl1 : k.sessions.length ≤ maxLen := by have := hok.1.1; simp only [maxLen]; omega
 have hl2 : k.items.length ≤ maxLen := by have := hok.2.1; simp only [maxLen]; omega
 refine CW.seq ?_
 refine CW.region ?_
 refine RW.k XK 42 1 rfl ?_
 (conv=>whnf);intro b1;(conv=>whnf);refine ⟨rfl,?_⟩
 refine RW.freezeB (ts := (Keep.c k)) 1 rfl (DRd.r (DRd.r DRd.e)) ?_
 refine RW.k XK 42 1 rfl ?_
 (conv=>whnf);refine ⟨rfl,?_⟩
 refine RW.nil ?_
 refine CW.keep 42 [1] rfl ?_;(conv=>whnf);refine ⟨?_⟩
 refine CW.seq ?_
 refine CW.seq ?_
 refine CW.region ?_
 refine RW.k XK 42 1 rfl ?_
 (conv=>whnf);refine ⟨rfl,?_⟩
 refine RW.call rfl (spec_KeepOk_fn k hok) rfl (.cons (.agg (.cons (.r .r) (.cons (.r .r) (.nil)))) (.nil)) fun g2 => ?_
 refine RW.k XK 42 1 rfl ?_
 (conv=>whnf);refine ⟨rfl,?_⟩
 refine RW.nil ?_
 refine CW.keep 42 [1,7] rfl ?_;(conv=>whnf);refine ⟨?_⟩
 refine CW.cond rfl (fun h3 => ?_) (fun h3 => ?_)
 ·skip
  refine CW.k XK 42 1 [2] rfl ?_
  (conv=>whnf);refine ⟨rfl,?_⟩
  refine CW.ret ?_
  exact Post.one (RV.s rfl (by simp_all [showK])) (AOs.a rfl AOs.e)
 ·skip
  have hko : keepOk k = true := by simpa using h3
  have hlen := keepOk_len hko
  have hits := keepOk_it hko
  refine CW.skip ?_
  refine CW.keep 42 [1] rfl ?_;(conv=>whnf);refine ⟨?_⟩
  refine CW.k XK 42 1 [1,3] rfl ?_
  (conv=>whnf);refine ⟨rfl,?_⟩
  refine CW.seq ?_
  refine CW.k XK 42 1 [1,3,4] rfl ?_
  (conv=>whnf);refine ⟨rfl,?_⟩
  refine CW.block ?_
  refine CW.loopI 42 (fun (zz : Nat × ByteArray) => match zz with | (i, s) => [(1, .rp (Keep.c k)), (3, S s), (4, I (i : Int))]) (fun (zz : Nat × ByteArray) => match zz with | (i, s) => i ≤ k.items.length ∧ s.size ≤ i * 41 ∧ s = showL (k.items.take i)) (fun (zz : Nat × ByteArray) => match zz with | (i, s) => k.items.length - i) (0, _) rfl (Le.c rfl <| Le.c rfl <| Le.c rfl <| Le.e) ⟨by omega, by decide, rfl⟩ ?_
  rintro ⟨i, s⟩ ⟨hb, hs, hr⟩
  refine CW.seq ?_
  refine CW.k XK 42 1 [1,3,4,12] rfl ?_
  (conv=>whnf);refine ⟨rfl,?_⟩
  refine CW.cond rfl (fun h4 => ?_) (fun h4 => ?_)
  ·skip
   have hii : i < k.items.length := by have := h4; simp at this; first | exact this | omega | (simp; done) | (simp; omega)
   obtain ⟨ei, hei⟩ : ∃ e, k.items[i]? = some e := ⟨_, List.getElem?_eq_getElem hii⟩
   have hdi := drop_get hei
   have hit := hits ei (List.mem_of_getElem? hei)
   have hll := line_len hit
   have hq1 := hit.len
   have hq2 := hit.k8
   have hq3 := hit.v
   refine CW.skip ?_
   refine CW.keep 42 [1,3,4] rfl ?_;(conv=>whnf);refine ⟨?_⟩
   refine CW.seq ?_
   refine CW.block ?_
   refine CW.anyR2 (fc := []) (L0 := [(1, .rp (Keep.c k)), (4, I (i : Int))]) 42 (fun (go5_15_1 : (Nat → Nat → Value)) => [(3, S ((((((s ++ ei.key) ++ (⟨#[32]⟩ : ByteArray)) ++ (itoaB ei.ver)) ++ (⟨#[32]⟩ : ByteArray)) ++ ei.val) ++ (⟨#[10]⟩ : ByteArray)))]) (fun all hall f hf b0 hb K hK => ?_) ?_
   ·skip
    have ro5_1 : ∀ B, ∀ (go5_15_1 : Nat → Nat → Value), RA f E B all 0 (bt 27 134217727) ⟨42, [(3, S ((((((s ++ ei.key) ++ (⟨#[32]⟩ : ByteArray)) ++ (itoaB ei.ver)) ++ (⟨#[32]⟩ : ByteArray)) ++ ei.val) ++ (⟨#[10]⟩ : ByteArray)))] ++ b0⟩ K := by
     intro B go5_15_1
     exact RA.of2 hall hf hb (RA.finH (Tell.of rfl) (by kernel_rfl) (hK go5_15_1 _ rfl (Le.of rfl)))
    have ro5_0 : ∀ B, RA f E B all 6 (bt 27 16547839) ⟨42, [(3, S s), (23, S ((s ++ ei.key) ++ (⟨#[32]⟩ : ByteArray))), (29, I ei.ver), (38, S ei.val)] ++ b0⟩ K := by
     intro B
     refine RA.of2 hall hf hb (RA.stepH (L := [15]) (Tell.of rfl) (by kernel_rfl) (by simp) (RA.each ?_ (RA.each0)))
     ·skip
      refine RO.call rfl rfl (spec_Decimal_fn ei.ver (by have h9 := hits ei (List.mem_of_getElem? hei); have hq1 := h9.n1; have hq2 := h9.n9; first | exact okI_of (by omega) (by omega) | (constructor <;> omega))) rfl (.cons (.one (.r .r)) (.nil)) rfl fun go5_15_1 => ?_
      refine RA.first (i := 16) (ls' := (bt 27 16646143)) (Tell.of rfl) (by kernel_rfl) rfl rfl rfl (VF.p (V.cat rfl rfl rfl (by have g1 : (⟨#[32]⟩ : ByteArray).size = 1 := rfl; have g2 : (⟨#[10]⟩ : ByteArray).size = 1 := rfl; simp only [ByteArray.size_append, maxLen, g1, g2]; omega))) ?_
      refine RA.first (i := 17) (ls' := (bt 27 16777215)) (Tell.of rfl) (by kernel_rfl) rfl rfl rfl (VF.p (V.cat rfl rfl rfl (by have g1 : (⟨#[32]⟩ : ByteArray).size = 1 := rfl; have g2 : (⟨#[10]⟩ : ByteArray).size = 1 := rfl; simp only [ByteArray.size_append, maxLen, g1, g2]; omega))) ?_
      refine RA.first (i := 24) (ls' := (bt 27 33554431)) (Tell.of rfl) (by kernel_rfl) rfl rfl rfl (VF.p (V.cat rfl rfl rfl (by have g1 : (⟨#[32]⟩ : ByteArray).size = 1 := rfl; have g2 : (⟨#[10]⟩ : ByteArray).size = 1 := rfl; simp only [ByteArray.size_append, maxLen, g1, g2]; omega))) ?_
      refine RA.first (i := 25) (ls' := (bt 27 67108863)) (Tell.of rfl) (by kernel_rfl) rfl rfl rfl (VF.p (V.cat rfl rfl rfl (by have g1 : (⟨#[32]⟩ : ByteArray).size = 1 := rfl; have g2 : (⟨#[10]⟩ : ByteArray).size = 1 := rfl; simp only [ByteArray.size_append, maxLen, g1, g2]; omega))) ?_
      refine RA.fr XK 42 0 [26] (bt 27 134217727) rfl rfl (by kernel_rfl) (Tell.of rfl) ?_
      (conv=>whnf);refine ⟨rfl,fun B=>?_⟩
      exact RA.to2 hall hf hb (ro5_1 B go5_15_1) rfl rfl (by kernel_rfl)
    refine RA.start (by kernel_rfl) (by kernel_rfl) (m := 27) (ls' := (bt 27 0)) ?_
    refine RA.fr XK 42 23 [0,1,2,3] (bt 27 15) rfl rfl (by kernel_rfl) (Tell.of rfl) ?_
    (conv=>whnf);refine ⟨rfl,fun B=>?_⟩
    refine RA.first (i := 4) (ls' := (bt 27 31)) (Tell.of rfl) (by kernel_rfl) rfl rfl rfl (VF.p (V.indexS rfl rfl rfl rfl rfl rfl Item.len hei)) ?_
    refine RA.fr XK 42 20 [5,6] (bt 27 127) rfl rfl (by kernel_rfl) (Tell.of rfl) ?_
    (conv=>whnf);refine ⟨rfl,fun B=>?_⟩
    refine RA.first (i := 7) (ls' := (bt 27 255)) (Tell.of rfl) (by kernel_rfl) rfl rfl rfl (VF.p (V.cat rfl rfl rfl (by have g1 : (⟨#[32]⟩ : ByteArray).size = 1 := rfl; have g2 : (⟨#[10]⟩ : ByteArray).size = 1 := rfl; simp only [ByteArray.size_append, maxLen, g1, g2]; omega))) ?_
    refine RA.first (i := 8) (ls' := (bt 27 511)) (Tell.of rfl) (by kernel_rfl) rfl rfl rfl (VF.p (V.cat rfl rfl rfl (by have g1 : (⟨#[32]⟩ : ByteArray).size = 1 := rfl; have g2 : (⟨#[10]⟩ : ByteArray).size = 1 := rfl; simp only [ByteArray.size_append, maxLen, g1, g2]; omega))) ?_
    refine RA.fr XK 42 15 [9,10,11] (bt 27 4095) rfl rfl (by kernel_rfl) (Tell.of rfl) ?_
    (conv=>whnf);refine ⟨rfl,fun B=>?_⟩
    refine RA.first (i := 12) (ls' := (bt 27 8191)) (Tell.of rfl) (by kernel_rfl) rfl rfl rfl (VF.p (V.indexS rfl rfl rfl rfl rfl rfl Item.len hei)) ?_
    refine RA.fr XK 42 9 [13,14,18,19,20] (bt 27 1867775) rfl rfl (by kernel_rfl) (Tell.of rfl) ?_
    (conv=>whnf);refine ⟨rfl,fun B=>?_⟩
    refine RA.first (i := 21) (ls' := (bt 27 3964927)) (Tell.of rfl) (by kernel_rfl) rfl rfl rfl (VF.p (V.indexS rfl rfl rfl rfl rfl rfl Item.len hei)) ?_
    refine RA.fr XK 42 6 [22,23] (bt 27 16547839) rfl rfl (by kernel_rfl) (Tell.of rfl) ?_
    (conv=>whnf);refine ⟨rfl,fun B=>?_⟩
    exact RA.to2 hall hf hb (ro5_0 B) rfl rfl (by kernel_rfl)
   ·rintro go5_15_1
    refine CW.keep 42 [1,3,4] rfl ?_;(conv=>whnf);refine ⟨?_⟩
    refine CW.region ?_
    refine RW.k XK 42 1 rfl ?_
    (conv=>whnf);refine ⟨rfl,?_⟩
    refine RW.v rfl (V.inc rfl rfl rfl hii hl2) ?_
    refine RW.k XK 42 1 rfl ?_
    (conv=>whnf);refine ⟨rfl,?_⟩
    refine RW.nil ?_
    exact ⟨(i + 1, _), by simp only []; omega, (show_step hei hb hs hr hll (by simp only [line, ByteArray.append_assoc])), rfl, Le.c rfl <| Le.c rfl <| Le.c rfl <| Le.e⟩
  ·skip
   have hii : k.items.length ≤ i := by have := h4; simp at this; first | exact this | omega | (simp; done) | (simp; omega)
   have hdi : k.items.drop i = [] := List.drop_eq_nil_of_le hii
   refine CW.exit ?_
   refine CW.keep 42 [3] rfl ?_;(conv=>whnf);refine ⟨?_⟩
   refine CW.k XK 42 1 [2] rfl ?_
   (conv=>whnf);refine ⟨rfl,?_⟩
   refine CW.ret ?_
   exact Post.one (RV.s rfl (by rw [showK, if_pos hko, hr, List.take_of_length_le hii])) (AOs.a rfl AOs.e)
set_option maxHeartbeats 4000000 in
theorem laws_FnShown_fn (code : List Int) : Eng.Fn E.P 4 [.one (.r (sl 1 cU code))] (.one (.one (.w (.v (.bool true))))) [.one (.r (sl 1 cU code))] := by
 refine Eng.Fn.intro (E := E) (rvs := [.tmp 2]) Tryd.func4 rfl rfl rfl (by simp [outSlots, moved, rvSlot, sl]) ?_
 intro B g bo
 refine CW.bound (x := .tmp 0) (n := code.length) (AsT.r) (fun hl0 => ?_)
 refine CW.keep 54 [0] rfl ?_;(conv=>whnf);refine ⟨?_⟩
 have hsz : (showK (talkK code).1).size ≤ maxLen := by have h9 := show_size (talk_good hl0).1.ok; simp only [maxLen]; omega
 refine CW.k XK 54 1 [0] rfl ?_
 (conv=>whnf);refine ⟨rfl,?_⟩
 refine CW.seq ?_
 refine CW.seq ?_
 refine CW.region ?_
 refine RW.k XK 54 1 rfl ?_
 (conv=>whnf);refine ⟨rfl,?_⟩
 refine RW.call rfl (laws_big_fn code) rfl (.cons (.one (.r .r)) (.nil)) fun g1 => ?_
 refine RW.nil ?_
 refine CW.keep 54 [0,10] rfl ?_;(conv=>whnf);refine ⟨?_⟩
 refine CW.cond rfl (fun h2 => ?_) (fun h2 => ?_)
 ·skip
  refine CW.k XK 54 1 [2] rfl ?_
  (conv=>whnf);refine ⟨rfl,?_⟩
  refine CW.ret ?_
  exact Post.one (RV.b rfl (by rfl)) (AOs.r AOs.e)
 ·skip
  refine CW.skip ?_
  refine CW.keep 54 [0] rfl ?_;(conv=>whnf);refine ⟨?_⟩
  refine CW.seq ?_
  refine CW.region ?_
  refine RW.k XK 54 1 rfl ?_
  (conv=>whnf);refine ⟨rfl,?_⟩
  refine RW.call rfl (spec_DrawTalk_fn code) rfl (.cons (.one (.r .r)) (.nil)) fun g3 => ?_
  refine RW.k XK 54 6 rfl ?_
  (conv=>whnf);intro b4;(conv=>whnf);intro b5;(conv=>whnf);refine ⟨rfl,?_⟩
  refine RW.freezeB (ts := (Keep.c ((talkK code).1))) 3 rfl (DRd.r (DRd.r DRd.e)) ?_
  refine RW.k XK 54 1 rfl ?_
  (conv=>whnf);refine ⟨rfl,?_⟩
  refine RW.freezeB (ts := (Command.c (talkX code))) 4 rfl (DRd.r (DRd.r (DRd.r (DRd.r (DRd.r (DRd.r DRd.e)))))) ?_
  refine RW.nil ?_
  refine CW.keep 54 [3] rfl ?_;(conv=>whnf);refine ⟨?_⟩
  refine CW.seq ?_
  refine CW.region ?_
  refine RW.k XK 54 1 rfl ?_
  (conv=>whnf);refine ⟨rfl,?_⟩
  refine RW.call rfl (impl_ShowKeep_fn ((talkK code).1) (talk_good hl0).1.ok.okTo) rfl (.cons (.agg (.cons (.r .r) (.cons (.r .r) (.nil)))) (.nil)) fun g6 => ?_
  refine RW.k XK 54 1 rfl ?_
  (conv=>whnf);refine ⟨rfl,?_⟩
  refine RW.nil ?_
  refine CW.keep 54 [3,5] rfl ?_;(conv=>whnf);refine ⟨?_⟩
  refine CW.k XK 54 1 [3,5,6] rfl ?_
  (conv=>whnf);refine ⟨rfl,?_⟩
  refine CW.seq ?_
  refine CW.k XK 54 1 [3,5,6,7] rfl ?_
  (conv=>whnf);refine ⟨rfl,?_⟩
  refine CW.block ?_
  refine CW.loopI 54 (fun (zz : Nat × Int) => match zz with | (i, n) => [(3, .rp (Keep.c ((talkK code).1))), (5, S (showK ((talkK code).1))), (6, I n), (7, I (i : Int))]) (fun (zz : Nat × Int) => match zz with | (i, n) => ShP (showK (talkK code).1) i n) (fun (zz : Nat × Int) => match zz with | (i, n) => (showK (talkK code).1).size - i) (0, 0) rfl (Le.c rfl <| Le.c rfl <| Le.c rfl <| Le.c rfl <| Le.e) (ShP.init _) ?_
  rintro ⟨i, n⟩ hP
  refine CW.seq ?_
  refine CW.k XK 54 1 [3,5,6,7,21] rfl ?_
  (conv=>whnf);refine ⟨rfl,?_⟩
  refine CW.cond rfl (fun h7 => ?_) (fun h7 => ?_)
  ·skip
   have hlt : i < (showK (talkK code).1).size := by simpa using h7
   refine CW.skip ?_
   refine CW.keep 54 [3,5,6,7] rfl ?_;(conv=>whnf);refine ⟨?_⟩
   refine CW.seq ?_
   refine CW.block ?_
   refine CW.seq ?_
   refine CW.region ?_
   refine RW.k XK 54 2 rfl ?_
   (conv=>whnf);refine ⟨rfl,?_⟩
   refine RW.v rfl (V.idxStr (m := i) rfl (by kernel_rfl) rfl rfl hlt) ?_
   refine RW.k XK 54 1 rfl ?_
   (conv=>whnf);refine ⟨rfl,?_⟩
   refine RW.nil ?_
   refine CW.keep 54 [3,5,6,7,27] rfl ?_;(conv=>whnf);refine ⟨?_⟩
   refine CW.cond rfl (fun h8 => ?_) (fun h8 => ?_)
   ·skip
    have hb := h8
    refine CW.region ?_
    refine RW.k XK 54 3 rfl ?_
    (conv=>whnf);refine ⟨rfl,?_⟩
    refine RW.nil ?_
    refine CW.keep 54 [3,5,6,7] rfl ?_;(conv=>whnf);refine ⟨?_⟩
    refine CW.region ?_
    refine RW.k XK 54 1 rfl ?_
    (conv=>whnf);refine ⟨rfl,?_⟩
    refine RW.v rfl (V.inc rfl rfl rfl hlt hsz) ?_
    refine RW.k XK 54 1 rfl ?_
    (conv=>whnf);refine ⟨rfl,?_⟩
    refine RW.nil ?_
    exact ⟨(i + 1, (IntKind.i64.wrap (n + 1))), by simp only []; omega, (by first | exact hP.yes hlt hb hsz | exact hP.no hlt hb), rfl, Le.c rfl <| Le.c rfl <| Le.c rfl <| Le.c rfl <| Le.e⟩
   ·skip
    have hb := h8
    refine CW.skip ?_
    refine CW.keep 54 [3,5,6,7] rfl ?_;(conv=>whnf);refine ⟨?_⟩
    refine CW.region ?_
    refine RW.k XK 54 1 rfl ?_
    (conv=>whnf);refine ⟨rfl,?_⟩
    refine RW.v rfl (V.inc rfl rfl rfl hlt hsz) ?_
    refine RW.k XK 54 1 rfl ?_
    (conv=>whnf);refine ⟨rfl,?_⟩
    refine RW.nil ?_
    exact ⟨(i + 1, n), by simp only []; omega, (by first | exact hP.yes hlt hb hsz | exact hP.no hlt hb), rfl, Le.c rfl <| Le.c rfl <| Le.c rfl <| Le.c rfl <| Le.e⟩
  ·skip
   have hge : (showK (talkK code).1).size ≤ i := by simpa using h7
   refine CW.exit ?_
   refine CW.keep 54 [3,5,6] rfl ?_;(conv=>whnf);refine ⟨?_⟩
   refine CW.seq ?_
   refine CW.region ?_
   refine RW.k XK 54 1 rfl ?_
   (conv=>whnf);refine ⟨rfl,?_⟩
   refine RW.build1 (c := Item.c) (v := (⟨⟨#[]⟩, ⟨#[]⟩, 0⟩ : Item)) rfl rfl rfl rfl rfl rfl (DW.v (DW.v (DW.v DW.e))) Item.len (by decide) (by decide) fun X9 => ?_
   refine RW.k XK 54 3 rfl ?_
   (conv=>whnf);intro b10;(conv=>whnf);refine ⟨rfl,?_⟩
   refine RW.keep 54 [3,5,6,8,31] rfl ?_;(conv=>whnf);refine ⟨?_⟩
   refine RW.pullT (k := 8) (l := 31) (j := 1) 8 31 1 rfl rfl rfl (by decide) rfl rfl rfl ?_
   refine RW.keep 54 [3,5,6,8] rfl ?_;(conv=>whnf);refine ⟨?_⟩
   refine RW.nil ?_
   refine CW.keep 54 [3,5,6,8] rfl ?_;(conv=>whnf);refine ⟨?_⟩
   refine CW.seqJ 54 (fun (v11 : Bool) => [(2, Bo v11)]) (fun v11 => v11 = ((((n == ((((talkK code).1).items).length : Int)) && ((showK ((talkK code).1)).toList == (showK ((talkK code).1)).toList)) && ((showK (⟨[], [(⟨⟨#[]⟩, ⟨#[]⟩, 0⟩ : Item)]⟩ : Keep)).toList == (⟨#[]⟩ : ByteArray).toList)) && ((showK keepNew).toList == (⟨#[114, 111, 111, 116, 32, 49, 32, 10]⟩ : ByteArray).toList))) ?_ ?_
   ·refine CW.region ?_
    refine RW.k XK 54 6 rfl ?_
    (conv=>whnf);refine ⟨rfl,?_⟩
    refine RW.gv rfl rfl rfl rfl (fun h12 => V.mv (d := S (showK ((talkK code).1))) rfl rfl) (fun h12 => ?_) (fun h12 => ?_)
    ·skip
     refine RW.k XK 54 1 rfl ?_
     (conv=>whnf);refine ⟨rfl,?_⟩
     refine RW.gcall rfl rfl rfl rfl (spec_ShowKeep_fn ((talkK code).1) (talk_good hl0).1.ok.okTo) rfl (.cons (.agg (.cons (.r .r) (.cons (.r .r) (.nil)))) (.nil)) fun g13 => ?_
     refine RW.k XK 54 3 rfl ?_
     (conv=>whnf);refine ⟨rfl,?_⟩
     refine RW.gv rfl rfl rfl rfl (fun h14 => V.loadAgg rfl rfl rfl rfl rfl (Nat.le_of_ble_eq_true rfl)) (fun h14 => ?_) (fun h14 => ?_)
     ·skip
      refine RW.gcallOwn rfl rfl rfl rfl (impl_ShowKeep_fn (⟨[], [(⟨⟨#[]⟩, ⟨#[]⟩, 0⟩ : Item)]⟩ : Keep) bad_okTo) rfl (.cons (.agg (.cons (.r .nil) (.cons (.r (.alo (k := none) (i := 8) (j := 1) (sz := 3) (V := X9) rfl rfl rfl nofun)) (.nil)))) (.nil)) rfl fun g15 => ?_
      refine RW.k XK 54 3 rfl ?_
      (conv=>whnf);refine ⟨rfl,?_⟩
      refine RW.bool 49 rfl (fun h16 => ?_) (fun h16 => ?_)
      ·skip
       refine RW.gcall rfl rfl rfl rfl (impl_KeepNew_fn ) rfl (.nil) fun g17 => ?_
       refine RW.gcallOwn rfl rfl rfl rfl (impl_ShowKeep_fn keepNew keepNew_ok.okTo) rfl (.cons (.agg (.cons (.r (.ala (k := none) (i := 50) (j := 0) (sz := 3) (V := (g17 0 0)) rfl rfl rfl nofun)) (.cons (.r (.ala (k := none) (i := 50) (j := 1) (sz := 3) (V := (g17 0 1)) rfl rfl rfl nofun)) (.nil)))) (.nil)) rfl fun g18 => ?_
       refine RW.k XK 54 3 rfl ?_
       (conv=>whnf);refine ⟨rfl,?_⟩
       refine RW.nil ?_
       exact ⟨_, by first | rfl | (simp_all; done) | (simp_all; omega) | grind, rfl, Le.of rfl⟩
      ·skip
       refine RW.k XK 54 5 rfl ?_
       (conv=>whnf);refine ⟨rfl,?_⟩
       refine RW.nil ?_
       exact ⟨_, by first | rfl | (simp_all; done) | (simp_all; omega) | grind, rfl, Le.of rfl⟩
     ·skip
      refine RW.k XK 54 9 rfl ?_
      (conv=>whnf);refine ⟨rfl,?_⟩
      refine RW.nil ?_
      exact ⟨_, by first | rfl | (simp_all; done) | (simp_all; omega) | grind, rfl, Le.of rfl⟩
    ·skip
     refine RW.k XK 54 15 rfl ?_
     (conv=>whnf);refine ⟨rfl,?_⟩
     refine RW.nil ?_
     exact ⟨_, by first | rfl | (simp_all; done) | (simp_all; omega) | grind, rfl, Le.of rfl⟩
   ·intro v11 hv19
    refine CW.ret ?_
    exact Post.one (RV.b rfl (by rw [hv19]; exact shown_end (hP.fin (talk_good hl0).1 hge))) (AOs.r AOs.e)
end Go.Proofs.YtaeagpakloggfaaDoor.Y
