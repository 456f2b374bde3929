import Derived.Test.YtaeagpakloggfaaDoorWPutGetD
namespace Go.Proofs.YtaeagpakloggfaaDoor.Y
open Go Go.RowKit Go.Eng Go.Proofs
set_option maxRecDepth 10000
set_option maxHeartbeats 4000000 in
theorem spec_l15Keep_fn (c : l01Cur) (size : Int) (hc : curOk c) (hs : size ≤ 40) : Eng.Fn E.P 44 [.ob ((l01Cur.c c).map .r), .one (.r (.v (.int .i64 size)))] (.one (.agg ((Keep.c ((keepN c size).1)).map .r))) [.ob ((l01Cur.c ((keepN c size).2)).map .r), .one (.r (.v (.int .i64 size)))] := by
 refine Eng.Fn.intro (E := E) (rvs := [.cell 4 31]) Tryd.func44 rfl rfl rfl (by simp [outSlots, moved, rvSlot, sl]) ?_
 intro B g bo
 refine CW.keep 40 [0,1] rfl ?_;(conv=>whnf);refine ⟨?_⟩
 refine CW.k XK 40 1 [0,1,4] rfl ?_
 (conv=>whnf);intro b1;(conv=>whnf);refine ⟨rfl,?_⟩
 refine CW.seq ?_
 refine CW.region ?_
 refine RW.call rfl (spec_KeepNew_fn ) rfl (.nil) fun g2 => ?_
 refine RW.k XK 40 1 rfl ?_
 (conv=>whnf);refine ⟨rfl,?_⟩
 refine RW.freeze 13 (d' := .agg ((Keep.c keepNew).map .r)) rfl rfl ?_
 refine RW.call rfl (spec_Perform_fn keepNew 1 (⟨1, 0, 0, ⟨#[]⟩, ⟨#[]⟩, 0⟩ : Command) keepNew_ok.okTo) rfl (.cons (.agg (.cons (.r .r) (.cons (.r .r) (.nil)))) (.cons (.one (.r .r)) (.cons (.agg (.cons (.r .r) (.cons (.r .r) (.cons (.r .r) (.cons (.r .r) (.cons (.r .r) (.cons (.r .r) (.nil)))))))) (.nil)))) fun g3 => ?_
 refine RW.k XK 40 8 rfl ?_
 (conv=>whnf);intro b4;(conv=>whnf);refine ⟨rfl,?_⟩
 refine RW.nil ?_
 refine CW.keep 40 [0,1,4,5] rfl ?_;(conv=>whnf);refine ⟨?_⟩
 refine CW.seq ?_
 refine CW.k XK 40 1 [0,1,4,5,8] rfl ?_
 (conv=>whnf);refine ⟨rfl,?_⟩
 refine CW.block ?_
 refine CW.loopI 40 (fun (zz : Nat × l01Cur × Keep) => match zz with | (i, d, k) => [(0, .obj (bo 0) ((l01Cur.c d).map .r)), (1, I size), (4, .obj b1 [.r (.v (.slice none 0 0)), .r (.v (.slice none 0 0))]), (5, .obj b4 ((Keep.c k).map .r)), (8, I (i : Int))]) (fun (zz : Nat × l01Cur × Keep) => match zz with | (i, d, k) => KeP c size i d k) (fun (zz : Nat × l01Cur × Keep) => match zz with | (i, d, k) => size.toNat - i) (0, _, _) rfl (Le.c rfl <| Le.c rfl <| Le.c rfl <| Le.c rfl <| Le.c rfl <| Le.e) (KeP.init hc) ?_
 rintro ⟨i, d, k⟩ hP
 refine CW.seq ?_
 refine CW.seq ?_
 refine CW.region ?_
 refine RW.k XK 40 3 rfl ?_
 (conv=>whnf);refine ⟨rfl,?_⟩
 refine RW.callP (k := 0) (spec_l01Below_fn d size hP.hc) rfl rfl (Nat.le_of_ble_eq_true rfl) (by decide) rfl (DT.r (DT.r (DT.r DT.e))) (AsPs.here rfl (.cons (.one (.r .r)) (.nil))) fun g5 q6 => ?_
 refine RW.k XK 40 1 rfl ?_
 (conv=>whnf);refine ⟨rfl,?_⟩
 refine RW.nil ?_
 refine CW.keep 40 [0,1,4,5,8,23] rfl ?_;(conv=>whnf);refine ⟨?_⟩
 refine CW.cond rfl (fun h7 => ?_) (fun h7 => ?_)
 ·skip
  have hlt := of_decide_eq_true h7
  refine CW.skip ?_
  refine CW.keep 40 [0,1,4,5,8] rfl ?_;(conv=>whnf);refine ⟨?_⟩
  refine CW.seq ?_
  refine CW.block ?_
  refine CW.anyJ2 (fc := [(4, b1, [.slice none 0 0, .slice none 0 0])]) (L0 := [(1, I size), (4, .obj b1 [.r (.v (.slice none 0 0)), .r (.v (.slice none 0 0))]), (5, .obj b4 ((Keep.c k).map .r)), (8, I (i : Int))]) 40 (fun (zz : Nat × (Nat → Nat → Value) × (Nat → Nat → Value) × (Nat → Value)) => match zz with | (bo8_11_1, go8_5_1, go8_6_1, qo8_5_2) => [(0, .obj (bo 0) ((l01Cur.c ((commandN ((belowN d size).2) k).2)).map .r)), (9, .obj bo8_11_1 ((Keep.c ((perfK k (IntKind.i64.wrap ((i : Int) + 2)) ((commandN ((belowN d size).2) k).1)).1)).map .r)), (11, Bo ((perfK k (IntKind.i64.wrap ((i : Int) + 2)) ((commandN ((belowN d size).2) k).1)).2.2))]) (fun all hall f hf b0 hb K hK => ?_) ?_
  ·skip
   have ro8_33 : ∀ B, ∀ (bo8_11_1 : Nat), ∀ (go8_5_1 : Nat → Nat → Value), ∀ (go8_6_1 : Nat → Nat → Value), ∀ (qo8_5_2 : Nat → Value), RA f E B all 0 (bt 15 32767) ⟨40, [(0, .obj (bo 0) ((l01Cur.c ((commandN ((belowN d size).2) k).2)).map .r)), (9, .obj bo8_11_1 ((Keep.c ((perfK k (IntKind.i64.wrap ((i : Int) + 2)) ((commandN ((belowN d size).2) k).1)).1)).map .r)), (11, Bo ((perfK k (IntKind.i64.wrap ((i : Int) + 2)) ((commandN ((belowN d size).2) k).1)).2.2))] ++ b0⟩ K := by
    intro B bo8_11_1 go8_5_1 go8_6_1 qo8_5_2
    exact RA.of2 hall hf hb (RA.finH (Tell.of rfl) (by kernel_rfl) (hK (bo8_11_1, go8_5_1, go8_6_1, qo8_5_2) _ rfl (Le.of rfl)))
   have ro8_32 : ∀ B, ∀ (bo8_11_1 : Nat), ∀ (go8_5_1 : Nat → Nat → Value), ∀ (go8_6_1 : Nat → Nat → Value), ∀ (qo8_5_2 : Nat → Value), RA f E B all 2 (bt 15 15359) ⟨40, [(0, .obj (bo 0) ((l01Cur.c ((commandN ((belowN d size).2) k).2)).map .r)), (9, .obj bo8_11_1 ((Keep.c ((perfK k (IntKind.i64.wrap ((i : Int) + 2)) ((commandN ((belowN d size).2) k).1)).1)).map .r)), (26, .tup [.u, .u, Bo ((perfK k (IntKind.i64.wrap ((i : Int) + 2)) ((commandN ((belowN d size).2) k).1)).2.2)])] ++ b0⟩ K := by
    intro B bo8_11_1 go8_5_1 go8_6_1 qo8_5_2
    refine RA.of2 hall hf hb (RA.stepH (L := [10]) (Tell.of rfl) (by kernel_rfl) (by simp) (RA.each ?_ (RA.each0)))
    ·skip
     refine RO.extract (d := Bo ((perfK k (IntKind.i64.wrap ((i : Int) + 2)) ((commandN ((belowN d size).2) k).1)).2.2)) rfl rfl rfl rfl rfl (by decide) (Nat.le_of_ble_eq_true rfl) rfl rfl ?_
     refine RA.fr XK 40 0 [14] (bt 15 32767) rfl rfl (by kernel_rfl) (Tell.of rfl) ?_
     (conv=>whnf);refine ⟨rfl,fun B=>?_⟩
     exact RA.to2 hall hf hb (ro8_33 B bo8_11_1 go8_5_1 go8_6_1 qo8_5_2) rfl rfl (by kernel_rfl)
   have ro8_31 : ∀ B, ∀ (bo8_11_1 : Nat), ∀ (go8_5_1 : Nat → Nat → Value), ∀ (go8_6_1 : Nat → Nat → Value), ∀ (qo8_5_2 : Nat → Value), RA f E B all 3 (bt 15 7679) ⟨40, [(0, .obj (bo 0) ((l01Cur.c ((commandN ((belowN d size).2) k).2)).map .r)), (9, .obj bo8_11_1 ((Keep.c ((perfK k (IntKind.i64.wrap ((i : Int) + 2)) ((commandN ((belowN d size).2) k).1)).1)).map .r)), (26, .tup [.u, S ((perfK k (IntKind.i64.wrap ((i : Int) + 2)) ((commandN ((belowN d size).2) k).1)).2.1), .u]), (36, Bo ((perfK k (IntKind.i64.wrap ((i : Int) + 2)) ((commandN ((belowN d size).2) k).1)).2.2))] ++ b0⟩ K := by
    intro B bo8_11_1 go8_5_1 go8_6_1 qo8_5_2
    refine RA.of2 hall hf hb (RA.stepH (L := [9]) (Tell.of rfl) (by kernel_rfl) (by simp) (RA.each ?_ (RA.each0)))
    ·skip
     refine RO.extract (d := S ((perfK k (IntKind.i64.wrap ((i : Int) + 2)) ((commandN ((belowN d size).2) k).1)).2.1)) rfl rfl rfl rfl rfl (by decide) (Nat.le_of_ble_eq_true rfl) rfl rfl ?_
     refine RA.fr XK 40 0 [13,14] (bt 15 32767) rfl rfl (by kernel_rfl) (Tell.of rfl) ?_
     (conv=>whnf);refine ⟨rfl,fun B=>?_⟩
     exact RA.to2 hall hf hb (ro8_33 B bo8_11_1 go8_5_1 go8_6_1 qo8_5_2) rfl rfl (by kernel_rfl)
   have ro8_30 : ∀ B, ∀ (bo8_11_1 : Nat), ∀ (go8_5_1 : Nat → Nat → Value), ∀ (go8_6_1 : Nat → Nat → Value), ∀ (qo8_5_2 : Nat → Value), RA f E B all 3 (bt 15 4095) ⟨40, [(0, .obj (bo 0) ((l01Cur.c ((commandN ((belowN d size).2) k).2)).map .r)), (9, .obj bo8_11_1 [.r (.v (.slice none 0 0)), .r (.v (.slice none 0 0))]), (34, .agg ((Keep.c ((perfK k (IntKind.i64.wrap ((i : Int) + 2)) ((commandN ((belowN d size).2) k).1)).1)).map .r)), (35, S ((perfK k (IntKind.i64.wrap ((i : Int) + 2)) ((commandN ((belowN d size).2) k).1)).2.1)), (36, Bo ((perfK k (IntKind.i64.wrap ((i : Int) + 2)) ((commandN ((belowN d size).2) k).1)).2.2))] ++ b0⟩ K := by
    intro B bo8_11_1 go8_5_1 go8_6_1 qo8_5_2
    refine RA.of2 hall hf hb (RA.stepH (L := [12]) (Tell.of rfl) (by kernel_rfl) (by simp) (RA.each ?_ (RA.each0)))
    ·skip
     refine RO.storeAgg (es := ((Keep.c ((perfK k (IntKind.i64.wrap ((i : Int) + 2)) ((commandN ((belowN d size).2) k).1)).1)).map .r)) rfl rfl rfl rfl rfl rfl rfl rfl rfl rfl (Nat.le_of_ble_eq_true rfl) rfl ?_
     refine RA.fr XK 40 0 [13,14] (bt 15 32767) rfl rfl (by kernel_rfl) (Tell.of rfl) ?_
     (conv=>whnf);refine ⟨rfl,fun B=>?_⟩
     exact RA.to2 hall hf hb (ro8_33 B bo8_11_1 go8_5_1 go8_6_1 qo8_5_2) rfl rfl (by kernel_rfl)
   have ro8_29 : ∀ B, ∀ (bo8_11_1 : Nat), ∀ (go8_5_1 : Nat → Nat → Value), ∀ (go8_6_1 : Nat → Nat → Value), ∀ (qo8_5_2 : Nat → Value), RA f E B all 4 (bt 15 3839) ⟨40, [(0, .obj (bo 0) ((l01Cur.c ((commandN ((belowN d size).2) k).2)).map .r)), (9, .obj bo8_11_1 [.r (.v (.slice none 0 0)), .r (.v (.slice none 0 0))]), (26, .tup [.agg ((Keep.c ((perfK k (IntKind.i64.wrap ((i : Int) + 2)) ((commandN ((belowN d size).2) k).1)).1)).map .r), .u, .u]), (35, S ((perfK k (IntKind.i64.wrap ((i : Int) + 2)) ((commandN ((belowN d size).2) k).1)).2.1)), (36, Bo ((perfK k (IntKind.i64.wrap ((i : Int) + 2)) ((commandN ((belowN d size).2) k).1)).2.2))] ++ b0⟩ K := by
    intro B bo8_11_1 go8_5_1 go8_6_1 qo8_5_2
    refine RA.of2 hall hf hb (RA.stepH (L := [8]) (Tell.of rfl) (by kernel_rfl) (by simp) (RA.each ?_ (RA.each0)))
    ·skip
     refine RO.extract (d := .agg ((Keep.c ((perfK k (IntKind.i64.wrap ((i : Int) + 2)) ((commandN ((belowN d size).2) k).1)).1)).map .r)) rfl rfl rfl rfl rfl (by decide) (Nat.le_of_ble_eq_true rfl) rfl rfl ?_
     exact RA.to2 hall hf hb (ro8_30 B bo8_11_1 go8_5_1 go8_6_1 qo8_5_2) rfl rfl (by kernel_rfl)
   have ro8_28 : ∀ B, ∀ (bo8_11_1 : Nat), ∀ (go8_5_1 : Nat → Nat → Value), ∀ (go8_6_1 : Nat → Nat → Value), ∀ (qo8_5_2 : Nat → Value), RA f E B all 4 (bt 15 6655) ⟨40, [(0, .obj (bo 0) ((l01Cur.c ((commandN ((belowN d size).2) k).2)).map .r)), (9, .obj bo8_11_1 ((Keep.c ((perfK k (IntKind.i64.wrap ((i : Int) + 2)) ((commandN ((belowN d size).2) k).1)).1)).map .r)), (26, .tup [.u, S ((perfK k (IntKind.i64.wrap ((i : Int) + 2)) ((commandN ((belowN d size).2) k).1)).2.1), Bo ((perfK k (IntKind.i64.wrap ((i : Int) + 2)) ((commandN ((belowN d size).2) k).1)).2.2)])] ++ b0⟩ K := by
    intro B bo8_11_1 go8_5_1 go8_6_1 qo8_5_2
    refine RA.of2 hall hf hb (RA.stepH (L := [9, 10]) (Tell.of rfl) (by kernel_rfl) (by simp) (RA.each ?_ (RA.each ?_ (RA.each0))))
    ·skip
     refine RO.extract (d := S ((perfK k (IntKind.i64.wrap ((i : Int) + 2)) ((commandN ((belowN d size).2) k).1)).2.1)) rfl rfl rfl rfl rfl (by decide) (Nat.le_of_ble_eq_true rfl) rfl rfl ?_
     refine RA.fr XK 40 2 [13] (bt 15 15359) rfl rfl (by kernel_rfl) (Tell.of rfl) ?_
     (conv=>whnf);refine ⟨rfl,fun B=>?_⟩
     exact RA.to2 hall hf hb (ro8_32 B bo8_11_1 go8_5_1 go8_6_1 qo8_5_2) rfl rfl (by kernel_rfl)
    ·skip
     refine RO.extract (d := Bo ((perfK k (IntKind.i64.wrap ((i : Int) + 2)) ((commandN ((belowN d size).2) k).1)).2.2)) rfl rfl rfl rfl rfl (by decide) (Nat.le_of_ble_eq_true rfl) rfl rfl ?_
     exact RA.to2 hall hf hb (ro8_31 B bo8_11_1 go8_5_1 go8_6_1 qo8_5_2) rfl rfl (by kernel_rfl)
   have ro8_27 : ∀ B, ∀ (bo8_11_1 : Nat), ∀ (go8_5_1 : Nat → Nat → Value), ∀ (go8_6_1 : Nat → Nat → Value), ∀ (qo8_5_2 : Nat → Value), RA f E B all 4 (bt 15 3583) ⟨40, [(0, .obj (bo 0) ((l01Cur.c ((commandN ((belowN d size).2) k).2)).map .r)), (9, .obj bo8_11_1 [.r (.v (.slice none 0 0)), .r (.v (.slice none 0 0))]), (26, .tup [.u, S ((perfK k (IntKind.i64.wrap ((i : Int) + 2)) ((commandN ((belowN d size).2) k).1)).2.1), .u]), (34, .agg ((Keep.c ((perfK k (IntKind.i64.wrap ((i : Int) + 2)) ((commandN ((belowN d size).2) k).1)).1)).map .r)), (36, Bo ((perfK k (IntKind.i64.wrap ((i : Int) + 2)) ((commandN ((belowN d size).2) k).1)).2.2))] ++ b0⟩ K := by
    intro B bo8_11_1 go8_5_1 go8_6_1 qo8_5_2
    refine RA.of2 hall hf hb (RA.stepH (L := [9, 12]) (Tell.of rfl) (by kernel_rfl) (by simp) (RA.each ?_ (RA.each ?_ (RA.each0))))
    ·skip
     refine RO.extract (d := S ((perfK k (IntKind.i64.wrap ((i : Int) + 2)) ((commandN ((belowN d size).2) k).1)).2.1)) rfl rfl rfl rfl rfl (by decide) (Nat.le_of_ble_eq_true rfl) rfl rfl ?_
     exact RA.to2 hall hf hb (ro8_30 B bo8_11_1 go8_5_1 go8_6_1 qo8_5_2) rfl rfl (by kernel_rfl)
    ·skip
     refine RO.storeAgg (es := ((Keep.c ((perfK k (IntKind.i64.wrap ((i : Int) + 2)) ((commandN ((belowN d size).2) k).1)).1)).map .r)) rfl rfl rfl rfl rfl rfl rfl rfl rfl rfl (Nat.le_of_ble_eq_true rfl) rfl ?_
     exact RA.to2 hall hf hb (ro8_31 B bo8_11_1 go8_5_1 go8_6_1 qo8_5_2) rfl rfl (by kernel_rfl)
   have ro8_26 : ∀ B, ∀ (bo8_11_1 : Nat), ∀ (go8_5_1 : Nat → Nat → Value), ∀ (go8_6_1 : Nat → Nat → Value), ∀ (qo8_5_2 : Nat → Value), RA f E B all 4 (bt 15 3071) ⟨40, [(0, .obj (bo 0) ((l01Cur.c ((commandN ((belowN d size).2) k).2)).map .r)), (9, .obj bo8_11_1 [.r (.v (.slice none 0 0)), .r (.v (.slice none 0 0))]), (26, .tup [.u, .u, Bo ((perfK k (IntKind.i64.wrap ((i : Int) + 2)) ((commandN ((belowN d size).2) k).1)).2.2)]), (34, .agg ((Keep.c ((perfK k (IntKind.i64.wrap ((i : Int) + 2)) ((commandN ((belowN d size).2) k).1)).1)).map .r)), (35, S ((perfK k (IntKind.i64.wrap ((i : Int) + 2)) ((commandN ((belowN d size).2) k).1)).2.1))] ++ b0⟩ K := by
    intro B bo8_11_1 go8_5_1 go8_6_1 qo8_5_2
    refine RA.of2 hall hf hb (RA.stepH (L := [10, 12]) (Tell.of rfl) (by kernel_rfl) (by simp) (RA.each ?_ (RA.each ?_ (RA.each0))))
    ·skip
     refine RO.extract (d := Bo ((perfK k (IntKind.i64.wrap ((i : Int) + 2)) ((commandN ((belowN d size).2) k).1)).2.2)) rfl rfl rfl rfl rfl (by decide) (Nat.le_of_ble_eq_true rfl) rfl rfl ?_
     exact RA.to2 hall hf hb (ro8_30 B bo8_11_1 go8_5_1 go8_6_1 qo8_5_2) rfl rfl (by kernel_rfl)
    ·skip
     refine RO.storeAgg (es := ((Keep.c ((perfK k (IntKind.i64.wrap ((i : Int) + 2)) ((commandN ((belowN d size).2) k).1)).1)).map .r)) rfl rfl rfl rfl rfl rfl rfl rfl rfl rfl (Nat.le_of_ble_eq_true rfl) rfl ?_
     refine RA.fr XK 40 2 [13] (bt 15 15359) rfl rfl (by kernel_rfl) (Tell.of rfl) ?_
     (conv=>whnf);refine ⟨rfl,fun B=>?_⟩
     exact RA.to2 hall hf hb (ro8_32 B bo8_11_1 go8_5_1 go8_6_1 qo8_5_2) rfl rfl (by kernel_rfl)
   have ro8_25 : ∀ B, ∀ (go8_5_1 : Nat → Nat → Value), ∀ (go8_6_1 : Nat → Nat → Value), ∀ (qo8_5_2 : Nat → Value), RA f E B all 4 (bt 15 2047) ⟨40, [(0, .obj (bo 0) ((l01Cur.c ((commandN ((belowN d size).2) k).2)).map .r)), (34, .agg ((Keep.c ((perfK k (IntKind.i64.wrap ((i : Int) + 2)) ((commandN ((belowN d size).2) k).1)).1)).map .r)), (35, S ((perfK k (IntKind.i64.wrap ((i : Int) + 2)) ((commandN ((belowN d size).2) k).1)).2.1)), (36, Bo ((perfK k (IntKind.i64.wrap ((i : Int) + 2)) ((commandN ((belowN d size).2) k).1)).2.2))] ++ b0⟩ K := by
    intro B go8_5_1 go8_6_1 qo8_5_2
    refine RA.of2 hall hf hb (RA.stepH (L := [11]) (Tell.of rfl) (by kernel_rfl) (by simp) (RA.each ?_ (RA.each0)))
    ·skip
     refine RO.alloc (ds := [.r (.v (.slice none 0 0)), .r (.v (.slice none 0 0))]) rfl rfl rfl rfl rfl rfl fun bo8_11_1 => ?_
     exact RA.to2 hall hf hb (ro8_30 B bo8_11_1 go8_5_1 go8_6_1 qo8_5_2) rfl rfl (by kernel_rfl)
   have ro8_24 : ∀ B, ∀ (bo8_11_1 : Nat), ∀ (go8_5_1 : Nat → Nat → Value), ∀ (go8_6_1 : Nat → Nat → Value), ∀ (qo8_5_2 : Nat → Value), RA f E B all 5 (bt 15 3327) ⟨40, [(0, .obj (bo 0) ((l01Cur.c ((commandN ((belowN d size).2) k).2)).map .r)), (9, .obj bo8_11_1 [.r (.v (.slice none 0 0)), .r (.v (.slice none 0 0))]), (26, .tup [.agg ((Keep.c ((perfK k (IntKind.i64.wrap ((i : Int) + 2)) ((commandN ((belowN d size).2) k).1)).1)).map .r), S ((perfK k (IntKind.i64.wrap ((i : Int) + 2)) ((commandN ((belowN d size).2) k).1)).2.1), .u]), (36, Bo ((perfK k (IntKind.i64.wrap ((i : Int) + 2)) ((commandN ((belowN d size).2) k).1)).2.2))] ++ b0⟩ K := by
    intro B bo8_11_1 go8_5_1 go8_6_1 qo8_5_2
    refine RA.of2 hall hf hb (RA.stepH (L := [8, 9]) (Tell.of rfl) (by kernel_rfl) (by simp) (RA.each ?_ (RA.each ?_ (RA.each0))))
    ·skip
     refine RO.extract (d := .agg ((Keep.c ((perfK k (IntKind.i64.wrap ((i : Int) + 2)) ((commandN ((belowN d size).2) k).1)).1)).map .r)) rfl rfl rfl rfl rfl (by decide) (Nat.le_of_ble_eq_true rfl) rfl rfl ?_
     exact RA.to2 hall hf hb (ro8_27 B bo8_11_1 go8_5_1 go8_6_1 qo8_5_2) rfl rfl (by kernel_rfl)
    ·skip
     refine RO.extract (d := S ((perfK k (IntKind.i64.wrap ((i : Int) + 2)) ((commandN ((belowN d size).2) k).1)).2.1)) rfl rfl rfl rfl rfl (by decide) (Nat.le_of_ble_eq_true rfl) rfl rfl ?_
     exact RA.to2 hall hf hb (ro8_29 B bo8_11_1 go8_5_1 go8_6_1 qo8_5_2) rfl rfl (by kernel_rfl)
   have ro8_23 : ∀ B, ∀ (bo8_11_1 : Nat), ∀ (go8_5_1 : Nat → Nat → Value), ∀ (go8_6_1 : Nat → Nat → Value), ∀ (qo8_5_2 : Nat → Value), RA f E B all 5 (bt 15 2815) ⟨40, [(0, .obj (bo 0) ((l01Cur.c ((commandN ((belowN d size).2) k).2)).map .r)), (9, .obj bo8_11_1 [.r (.v (.slice none 0 0)), .r (.v (.slice none 0 0))]), (26, .tup [.agg ((Keep.c ((perfK k (IntKind.i64.wrap ((i : Int) + 2)) ((commandN ((belowN d size).2) k).1)).1)).map .r), .u, Bo ((perfK k (IntKind.i64.wrap ((i : Int) + 2)) ((commandN ((belowN d size).2) k).1)).2.2)]), (35, S ((perfK k (IntKind.i64.wrap ((i : Int) + 2)) ((commandN ((belowN d size).2) k).1)).2.1))] ++ b0⟩ K := by
    intro B bo8_11_1 go8_5_1 go8_6_1 qo8_5_2
    refine RA.of2 hall hf hb (RA.stepH (L := [8, 10]) (Tell.of rfl) (by kernel_rfl) (by simp) (RA.each ?_ (RA.each ?_ (RA.each0))))
    ·skip
     refine RO.extract (d := .agg ((Keep.c ((perfK k (IntKind.i64.wrap ((i : Int) + 2)) ((commandN ((belowN d size).2) k).1)).1)).map .r)) rfl rfl rfl rfl rfl (by decide) (Nat.le_of_ble_eq_true rfl) rfl rfl ?_
     exact RA.to2 hall hf hb (ro8_26 B bo8_11_1 go8_5_1 go8_6_1 qo8_5_2) rfl rfl (by kernel_rfl)
    ·skip
     refine RO.extract (d := Bo ((perfK k (IntKind.i64.wrap ((i : Int) + 2)) ((commandN ((belowN d size).2) k).1)).2.2)) rfl rfl rfl rfl rfl (by decide) (Nat.le_of_ble_eq_true rfl) rfl rfl ?_
     exact RA.to2 hall hf hb (ro8_29 B bo8_11_1 go8_5_1 go8_6_1 qo8_5_2) rfl rfl (by kernel_rfl)
   have ro8_22 : ∀ B, ∀ (go8_5_1 : Nat → Nat → Value), ∀ (go8_6_1 : Nat → Nat → Value), ∀ (qo8_5_2 : Nat → Value), RA f E B all 5 (bt 15 1791) ⟨40, [(0, .obj (bo 0) ((l01Cur.c ((commandN ((belowN d size).2) k).2)).map .r)), (26, .tup [.agg ((Keep.c ((perfK k (IntKind.i64.wrap ((i : Int) + 2)) ((commandN ((belowN d size).2) k).1)).1)).map .r), .u, .u]), (35, S ((perfK k (IntKind.i64.wrap ((i : Int) + 2)) ((commandN ((belowN d size).2) k).1)).2.1)), (36, Bo ((perfK k (IntKind.i64.wrap ((i : Int) + 2)) ((commandN ((belowN d size).2) k).1)).2.2))] ++ b0⟩ K := by
    intro B go8_5_1 go8_6_1 qo8_5_2
    refine RA.of2 hall hf hb (RA.stepH (L := [8, 11]) (Tell.of rfl) (by kernel_rfl) (by simp) (RA.each ?_ (RA.each ?_ (RA.each0))))
    ·skip
     refine RO.extract (d := .agg ((Keep.c ((perfK k (IntKind.i64.wrap ((i : Int) + 2)) ((commandN ((belowN d size).2) k).1)).1)).map .r)) rfl rfl rfl rfl rfl (by decide) (Nat.le_of_ble_eq_true rfl) rfl rfl ?_
     exact RA.to2 hall hf hb (ro8_25 B go8_5_1 go8_6_1 qo8_5_2) rfl rfl (by kernel_rfl)
    ·skip
     refine RO.alloc (ds := [.r (.v (.slice none 0 0)), .r (.v (.slice none 0 0))]) rfl rfl rfl rfl rfl rfl fun bo8_11_1 => ?_
     exact RA.to2 hall hf hb (ro8_29 B bo8_11_1 go8_5_1 go8_6_1 qo8_5_2) rfl rfl (by kernel_rfl)
   have ro8_21 : ∀ B, ∀ (bo8_11_1 : Nat), ∀ (go8_5_1 : Nat → Nat → Value), ∀ (go8_6_1 : Nat → Nat → Value), ∀ (qo8_5_2 : Nat → Value), RA f E B all 5 (bt 15 2559) ⟨40, [(0, .obj (bo 0) ((l01Cur.c ((commandN ((belowN d size).2) k).2)).map .r)), (9, .obj bo8_11_1 [.r (.v (.slice none 0 0)), .r (.v (.slice none 0 0))]), (26, .tup [.u, S ((perfK k (IntKind.i64.wrap ((i : Int) + 2)) ((commandN ((belowN d size).2) k).1)).2.1), Bo ((perfK k (IntKind.i64.wrap ((i : Int) + 2)) ((commandN ((belowN d size).2) k).1)).2.2)]), (34, .agg ((Keep.c ((perfK k (IntKind.i64.wrap ((i : Int) + 2)) ((commandN ((belowN d size).2) k).1)).1)).map .r))] ++ b0⟩ K := by
    intro B bo8_11_1 go8_5_1 go8_6_1 qo8_5_2
    refine RA.of2 hall hf hb (RA.stepH (L := [9, 10, 12]) (Tell.of rfl) (by kernel_rfl) (by simp) (RA.each ?_ (RA.each ?_ (RA.each ?_ (RA.each0)))))
    ·skip
     refine RO.extract (d := S ((perfK k (IntKind.i64.wrap ((i : Int) + 2)) ((commandN ((belowN d size).2) k).1)).2.1)) rfl rfl rfl rfl rfl (by decide) (Nat.le_of_ble_eq_true rfl) rfl rfl ?_
     exact RA.to2 hall hf hb (ro8_26 B bo8_11_1 go8_5_1 go8_6_1 qo8_5_2) rfl rfl (by kernel_rfl)
    ·skip
     refine RO.extract (d := Bo ((perfK k (IntKind.i64.wrap ((i : Int) + 2)) ((commandN ((belowN d size).2) k).1)).2.2)) rfl rfl rfl rfl rfl (by decide) (Nat.le_of_ble_eq_true rfl) rfl rfl ?_
     exact RA.to2 hall hf hb (ro8_27 B bo8_11_1 go8_5_1 go8_6_1 qo8_5_2) rfl rfl (by kernel_rfl)
    ·skip
     refine RO.storeAgg (es := ((Keep.c ((perfK k (IntKind.i64.wrap ((i : Int) + 2)) ((commandN ((belowN d size).2) k).1)).1)).map .r)) rfl rfl rfl rfl rfl rfl rfl rfl rfl rfl (Nat.le_of_ble_eq_true rfl) rfl ?_
     exact RA.to2 hall hf hb (ro8_28 B bo8_11_1 go8_5_1 go8_6_1 qo8_5_2) rfl rfl (by kernel_rfl)
   have ro8_20 : ∀ B, ∀ (go8_5_1 : Nat → Nat → Value), ∀ (go8_6_1 : Nat → Nat → Value), ∀ (qo8_5_2 : Nat → Value), RA f E B all 5 (bt 15 1535) ⟨40, [(0, .obj (bo 0) ((l01Cur.c ((commandN ((belowN d size).2) k).2)).map .r)), (26, .tup [.u, S ((perfK k (IntKind.i64.wrap ((i : Int) + 2)) ((commandN ((belowN d size).2) k).1)).2.1), .u]), (34, .agg ((Keep.c ((perfK k (IntKind.i64.wrap ((i : Int) + 2)) ((commandN ((belowN d size).2) k).1)).1)).map .r)), (36, Bo ((perfK k (IntKind.i64.wrap ((i : Int) + 2)) ((commandN ((belowN d size).2) k).1)).2.2))] ++ b0⟩ K := by
    intro B go8_5_1 go8_6_1 qo8_5_2
    refine RA.of2 hall hf hb (RA.stepH (L := [9, 11]) (Tell.of rfl) (by kernel_rfl) (by simp) (RA.each ?_ (RA.each ?_ (RA.each0))))
    ·skip
     refine RO.extract (d := S ((perfK k (IntKind.i64.wrap ((i : Int) + 2)) ((commandN ((belowN d size).2) k).1)).2.1)) rfl rfl rfl rfl rfl (by decide) (Nat.le_of_ble_eq_true rfl) rfl rfl ?_
     exact RA.to2 hall hf hb (ro8_25 B go8_5_1 go8_6_1 qo8_5_2) rfl rfl (by kernel_rfl)
    ·skip
     refine RO.alloc (ds := [.r (.v (.slice none 0 0)), .r (.v (.slice none 0 0))]) rfl rfl rfl rfl rfl rfl fun bo8_11_1 => ?_
     exact RA.to2 hall hf hb (ro8_27 B bo8_11_1 go8_5_1 go8_6_1 qo8_5_2) rfl rfl (by kernel_rfl)
   have ro8_19 : ∀ B, ∀ (go8_5_1 : Nat → Nat → Value), ∀ (go8_6_1 : Nat → Nat → Value), ∀ (qo8_5_2 : Nat → Value), RA f E B all 5 (bt 15 1023) ⟨40, [(0, .obj (bo 0) ((l01Cur.c ((commandN ((belowN d size).2) k).2)).map .r)), (26, .tup [.u, .u, Bo ((perfK k (IntKind.i64.wrap ((i : Int) + 2)) ((commandN ((belowN d size).2) k).1)).2.2)]), (34, .agg ((Keep.c ((perfK k (IntKind.i64.wrap ((i : Int) + 2)) ((commandN ((belowN d size).2) k).1)).1)).map .r)), (35, S ((perfK k (IntKind.i64.wrap ((i : Int) + 2)) ((commandN ((belowN d size).2) k).1)).2.1))] ++ b0⟩ K := by
    intro B go8_5_1 go8_6_1 qo8_5_2
    refine RA.of2 hall hf hb (RA.stepH (L := [10, 11]) (Tell.of rfl) (by kernel_rfl) (by simp) (RA.each ?_ (RA.each ?_ (RA.each0))))
    ·skip
     refine RO.extract (d := Bo ((perfK k (IntKind.i64.wrap ((i : Int) + 2)) ((commandN ((belowN d size).2) k).1)).2.2)) rfl rfl rfl rfl rfl (by decide) (Nat.le_of_ble_eq_true rfl) rfl rfl ?_
     exact RA.to2 hall hf hb (ro8_25 B go8_5_1 go8_6_1 qo8_5_2) rfl rfl (by kernel_rfl)
    ·skip
     refine RO.alloc (ds := [.r (.v (.slice none 0 0)), .r (.v (.slice none 0 0))]) rfl rfl rfl rfl rfl rfl fun bo8_11_1 => ?_
     exact RA.to2 hall hf hb (ro8_26 B bo8_11_1 go8_5_1 go8_6_1 qo8_5_2) rfl rfl (by kernel_rfl)
   have ro8_18 : ∀ B, ∀ (bo8_11_1 : Nat), ∀ (go8_5_1 : Nat → Nat → Value), ∀ (go8_6_1 : Nat → Nat → Value), ∀ (qo8_5_2 : Nat → Value), RA f E B all 6 (bt 15 2303) ⟨40, [(0, .obj (bo 0) ((l01Cur.c ((commandN ((belowN d size).2) k).2)).map .r)), (9, .obj bo8_11_1 [.r (.v (.slice none 0 0)), .r (.v (.slice none 0 0))]), (26, .tup [.agg ((Keep.c ((perfK k (IntKind.i64.wrap ((i : Int) + 2)) ((commandN ((belowN d size).2) k).1)).1)).map .r), S ((perfK k (IntKind.i64.wrap ((i : Int) + 2)) ((commandN ((belowN d size).2) k).1)).2.1), Bo ((perfK k (IntKind.i64.wrap ((i : Int) + 2)) ((commandN ((belowN d size).2) k).1)).2.2)])] ++ b0⟩ K := by
    intro B bo8_11_1 go8_5_1 go8_6_1 qo8_5_2
    refine RA.of2 hall hf hb (RA.stepH (L := [8, 9, 10]) (Tell.of rfl) (by kernel_rfl) (by simp) (RA.each ?_ (RA.each ?_ (RA.each ?_ (RA.each0)))))
    ·skip
     refine RO.extract (d := .agg ((Keep.c ((perfK k (IntKind.i64.wrap ((i : Int) + 2)) ((commandN ((belowN d size).2) k).1)).1)).map .r)) rfl rfl rfl rfl rfl (by decide) (Nat.le_of_ble_eq_true rfl) rfl rfl ?_
     exact RA.to2 hall hf hb (ro8_21 B bo8_11_1 go8_5_1 go8_6_1 qo8_5_2) rfl rfl (by kernel_rfl)
    ·skip
     refine RO.extract (d := S ((perfK k (IntKind.i64.wrap ((i : Int) + 2)) ((commandN ((belowN d size).2) k).1)).2.1)) rfl rfl rfl rfl rfl (by decide) (Nat.le_of_ble_eq_true rfl) rfl rfl ?_
     exact RA.to2 hall hf hb (ro8_23 B bo8_11_1 go8_5_1 go8_6_1 qo8_5_2) rfl rfl (by kernel_rfl)
    ·skip
     refine RO.extract (d := Bo ((perfK k (IntKind.i64.wrap ((i : Int) + 2)) ((commandN ((belowN d size).2) k).1)).2.2)) rfl rfl rfl rfl rfl (by decide) (Nat.le_of_ble_eq_true rfl) rfl rfl ?_
     exact RA.to2 hall hf hb (ro8_24 B bo8_11_1 go8_5_1 go8_6_1 qo8_5_2) rfl rfl (by kernel_rfl)
   have ro8_17 : ∀ B, ∀ (go8_5_1 : Nat → Nat → Value), ∀ (go8_6_1 : Nat → Nat → Value), ∀ (qo8_5_2 : Nat → Value), RA f E B all 6 (bt 15 1279) ⟨40, [(0, .obj (bo 0) ((l01Cur.c ((commandN ((belowN d size).2) k).2)).map .r)), (26, .tup [.agg ((Keep.c ((perfK k (IntKind.i64.wrap ((i : Int) + 2)) ((commandN ((belowN d size).2) k).1)).1)).map .r), S ((perfK k (IntKind.i64.wrap ((i : Int) + 2)) ((commandN ((belowN d size).2) k).1)).2.1), .u]), (36, Bo ((perfK k (IntKind.i64.wrap ((i : Int) + 2)) ((commandN ((belowN d size).2) k).1)).2.2))] ++ b0⟩ K := by
    intro B go8_5_1 go8_6_1 qo8_5_2
    refine RA.of2 hall hf hb (RA.stepH (L := [8, 9, 11]) (Tell.of rfl) (by kernel_rfl) (by simp) (RA.each ?_ (RA.each ?_ (RA.each ?_ (RA.each0)))))
    ·skip
     refine RO.extract (d := .agg ((Keep.c ((perfK k (IntKind.i64.wrap ((i : Int) + 2)) ((commandN ((belowN d size).2) k).1)).1)).map .r)) rfl rfl rfl rfl rfl (by decide) (Nat.le_of_ble_eq_true rfl) rfl rfl ?_
     exact RA.to2 hall hf hb (ro8_20 B go8_5_1 go8_6_1 qo8_5_2) rfl rfl (by kernel_rfl)
    ·skip
     refine RO.extract (d := S ((perfK k (IntKind.i64.wrap ((i : Int) + 2)) ((commandN ((belowN d size).2) k).1)).2.1)) rfl rfl rfl rfl rfl (by decide) (Nat.le_of_ble_eq_true rfl) rfl rfl ?_
     exact RA.to2 hall hf hb (ro8_22 B go8_5_1 go8_6_1 qo8_5_2) rfl rfl (by kernel_rfl)
    ·skip
     refine RO.alloc (ds := [.r (.v (.slice none 0 0)), .r (.v (.slice none 0 0))]) rfl rfl rfl rfl rfl rfl fun bo8_11_1 => ?_
     exact RA.to2 hall hf hb (ro8_24 B bo8_11_1 go8_5_1 go8_6_1 qo8_5_2) rfl rfl (by kernel_rfl)
   have ro8_16 : ∀ B, ∀ (go8_5_1 : Nat → Nat → Value), ∀ (go8_6_1 : Nat → Nat → Value), ∀ (qo8_5_2 : Nat → Value), RA f E B all 6 (bt 15 767) ⟨40, [(0, .obj (bo 0) ((l01Cur.c ((commandN ((belowN d size).2) k).2)).map .r)), (26, .tup [.agg ((Keep.c ((perfK k (IntKind.i64.wrap ((i : Int) + 2)) ((commandN ((belowN d size).2) k).1)).1)).map .r), .u, Bo ((perfK k (IntKind.i64.wrap ((i : Int) + 2)) ((commandN ((belowN d size).2) k).1)).2.2)]), (35, S ((perfK k (IntKind.i64.wrap ((i : Int) + 2)) ((commandN ((belowN d size).2) k).1)).2.1))] ++ b0⟩ K := by
    intro B go8_5_1 go8_6_1 qo8_5_2
    refine RA.of2 hall hf hb (RA.stepH (L := [8, 10, 11]) (Tell.of rfl) (by kernel_rfl) (by simp) (RA.each ?_ (RA.each ?_ (RA.each ?_ (RA.each0)))))
    ·skip
     refine RO.extract (d := .agg ((Keep.c ((perfK k (IntKind.i64.wrap ((i : Int) + 2)) ((commandN ((belowN d size).2) k).1)).1)).map .r)) rfl rfl rfl rfl rfl (by decide) (Nat.le_of_ble_eq_true rfl) rfl rfl ?_
     exact RA.to2 hall hf hb (ro8_19 B go8_5_1 go8_6_1 qo8_5_2) rfl rfl (by kernel_rfl)
    ·skip
     refine RO.extract (d := Bo ((perfK k (IntKind.i64.wrap ((i : Int) + 2)) ((commandN ((belowN d size).2) k).1)).2.2)) rfl rfl rfl rfl rfl (by decide) (Nat.le_of_ble_eq_true rfl) rfl rfl ?_
     exact RA.to2 hall hf hb (ro8_22 B go8_5_1 go8_6_1 qo8_5_2) rfl rfl (by kernel_rfl)
    ·skip
     refine RO.alloc (ds := [.r (.v (.slice none 0 0)), .r (.v (.slice none 0 0))]) rfl rfl rfl rfl rfl rfl fun bo8_11_1 => ?_
     exact RA.to2 hall hf hb (ro8_23 B bo8_11_1 go8_5_1 go8_6_1 qo8_5_2) rfl rfl (by kernel_rfl)
   have ro8_15 : ∀ B, ∀ (go8_5_1 : Nat → Nat → Value), ∀ (go8_6_1 : Nat → Nat → Value), ∀ (qo8_5_2 : Nat → Value), RA f E B all 6 (bt 15 511) ⟨40, [(0, .obj (bo 0) ((l01Cur.c ((commandN ((belowN d size).2) k).2)).map .r)), (26, .tup [.u, S ((perfK k (IntKind.i64.wrap ((i : Int) + 2)) ((commandN ((belowN d size).2) k).1)).2.1), Bo ((perfK k (IntKind.i64.wrap ((i : Int) + 2)) ((commandN ((belowN d size).2) k).1)).2.2)]), (34, .agg ((Keep.c ((perfK k (IntKind.i64.wrap ((i : Int) + 2)) ((commandN ((belowN d size).2) k).1)).1)).map .r))] ++ b0⟩ K := by
    intro B go8_5_1 go8_6_1 qo8_5_2
    refine RA.of2 hall hf hb (RA.stepH (L := [9, 10, 11]) (Tell.of rfl) (by kernel_rfl) (by simp) (RA.each ?_ (RA.each ?_ (RA.each ?_ (RA.each0)))))
    ·skip
     refine RO.extract (d := S ((perfK k (IntKind.i64.wrap ((i : Int) + 2)) ((commandN ((belowN d size).2) k).1)).2.1)) rfl rfl rfl rfl rfl (by decide) (Nat.le_of_ble_eq_true rfl) rfl rfl ?_
     exact RA.to2 hall hf hb (ro8_19 B go8_5_1 go8_6_1 qo8_5_2) rfl rfl (by kernel_rfl)
    ·skip
     refine RO.extract (d := Bo ((perfK k (IntKind.i64.wrap ((i : Int) + 2)) ((commandN ((belowN d size).2) k).1)).2.2)) rfl rfl rfl rfl rfl (by decide) (Nat.le_of_ble_eq_true rfl) rfl rfl ?_
     exact RA.to2 hall hf hb (ro8_20 B go8_5_1 go8_6_1 qo8_5_2) rfl rfl (by kernel_rfl)
    ·skip
     refine RO.alloc (ds := [.r (.v (.slice none 0 0)), .r (.v (.slice none 0 0))]) rfl rfl rfl rfl rfl rfl fun bo8_11_1 => ?_
     exact RA.to2 hall hf hb (ro8_21 B bo8_11_1 go8_5_1 go8_6_1 qo8_5_2) rfl rfl (by kernel_rfl)
   have ro8_14 : ∀ B, ∀ (bo8_11_1 : Nat), ∀ (go8_5_1 : Nat → Nat → Value), ∀ (go8_6_1 : Nat → Nat → Value), ∀ (qo8_5_2 : Nat → Value), RA f E B all 7 (bt 15 2175) ⟨40, [(0, .obj (bo 0) ((l01Cur.c ((commandN ((belowN d size).2) k).2)).map .r)), (9, .obj bo8_11_1 [.r (.v (.slice none 0 0)), .r (.v (.slice none 0 0))]), (33, .tup [.agg ((Keep.c ((perfK k (IntKind.i64.wrap ((i : Int) + 2)) ((commandN ((belowN d size).2) k).1)).1)).map .r), S ((perfK k (IntKind.i64.wrap ((i : Int) + 2)) ((commandN ((belowN d size).2) k).1)).2.1), Bo ((perfK k (IntKind.i64.wrap ((i : Int) + 2)) ((commandN ((belowN d size).2) k).1)).2.2)])] ++ b0⟩ K := by
    intro B bo8_11_1 go8_5_1 go8_6_1 qo8_5_2
    refine RA.of2 hall hf hb (RA.stepH (L := [7]) (Tell.of rfl) (by kernel_rfl) (by simp) (RA.each ?_ (RA.each0)))
    ·skip
     refine RO.moveMove rfl rfl rfl rfl rfl (by decide) (Nat.le_of_ble_eq_true rfl) (Nat.le_of_ble_eq_true rfl) ?_
     exact RA.to2 hall hf hb (ro8_18 B bo8_11_1 go8_5_1 go8_6_1 qo8_5_2) rfl rfl (by kernel_rfl)
   have ro8_13 : ∀ B, ∀ (go8_5_1 : Nat → Nat → Value), ∀ (go8_6_1 : Nat → Nat → Value), ∀ (qo8_5_2 : Nat → Value), RA f E B all 7 (bt 15 255) ⟨40, [(0, .obj (bo 0) ((l01Cur.c ((commandN ((belowN d size).2) k).2)).map .r)), (26, .tup [.agg ((Keep.c ((perfK k (IntKind.i64.wrap ((i : Int) + 2)) ((commandN ((belowN d size).2) k).1)).1)).map .r), S ((perfK k (IntKind.i64.wrap ((i : Int) + 2)) ((commandN ((belowN d size).2) k).1)).2.1), Bo ((perfK k (IntKind.i64.wrap ((i : Int) + 2)) ((commandN ((belowN d size).2) k).1)).2.2)])] ++ b0⟩ K := by
    intro B go8_5_1 go8_6_1 qo8_5_2
    refine RA.of2 hall hf hb (RA.stepH (L := [8, 9, 10, 11]) (Tell.of rfl) (by kernel_rfl) (by simp) (RA.each ?_ (RA.each ?_ (RA.each ?_ (RA.each ?_ (RA.each0))))))
    ·skip
     refine RO.extract (d := .agg ((Keep.c ((perfK k (IntKind.i64.wrap ((i : Int) + 2)) ((commandN ((belowN d size).2) k).1)).1)).map .r)) rfl rfl rfl rfl rfl (by decide) (Nat.le_of_ble_eq_true rfl) rfl rfl ?_
     exact RA.to2 hall hf hb (ro8_15 B go8_5_1 go8_6_1 qo8_5_2) rfl rfl (by kernel_rfl)
    ·skip
     refine RO.extract (d := S ((perfK k (IntKind.i64.wrap ((i : Int) + 2)) ((commandN ((belowN d size).2) k).1)).2.1)) rfl rfl rfl rfl rfl (by decide) (Nat.le_of_ble_eq_true rfl) rfl rfl ?_
     exact RA.to2 hall hf hb (ro8_16 B go8_5_1 go8_6_1 qo8_5_2) rfl rfl (by kernel_rfl)
    ·skip
     refine RO.extract (d := Bo ((perfK k (IntKind.i64.wrap ((i : Int) + 2)) ((commandN ((belowN d size).2) k).1)).2.2)) rfl rfl rfl rfl rfl (by decide) (Nat.le_of_ble_eq_true rfl) rfl rfl ?_
     exact RA.to2 hall hf hb (ro8_17 B go8_5_1 go8_6_1 qo8_5_2) rfl rfl (by kernel_rfl)
    ·skip
     refine RO.alloc (ds := [.r (.v (.slice none 0 0)), .r (.v (.slice none 0 0))]) rfl rfl rfl rfl rfl rfl fun bo8_11_1 => ?_
     exact RA.to2 hall hf hb (ro8_18 B bo8_11_1 go8_5_1 go8_6_1 qo8_5_2) rfl rfl (by kernel_rfl)
   have ro8_12 : ∀ B, ∀ (bo8_11_1 : Nat), ∀ (go8_5_1 : Nat → Nat → Value), ∀ (qo8_5_2 : Nat → Value), RA f E B all 8 (bt 15 2111) ⟨40, [(0, .obj (bo 0) ((l01Cur.c ((commandN ((belowN d size).2) k).2)).map .r)), (9, .obj bo8_11_1 [.r (.v (.slice none 0 0)), .r (.v (.slice none 0 0))]), (27, .agg ((Keep.c k).map .r)), (29, I (IntKind.i64.wrap ((i : Int) + 2))), (32, .agg ((Command.c ((commandN ((belowN d size).2) k).1)).map .r))] ++ b0⟩ K := by
    intro B bo8_11_1 go8_5_1 qo8_5_2
    refine RA.of2 hall hf hb (RA.stepH (L := [6]) (Tell.of rfl) (by kernel_rfl) (by simp) (RA.each ?_ (RA.each0)))
    ·skip
     refine RO.call rfl rfl (spec_Perform_fn k (IntKind.i64.wrap ((i : Int) + 2)) ((commandN ((belowN d size).2) k).1) hP.hk.ok.okTo) rfl (.cons (.agg (.cons (.r .r) (.cons (.r .r) (.nil)))) (.cons (.one (.r .r)) (.cons (.agg (.cons (.r .r) (.cons (.r .r) (.cons (.r .r) (.cons (.r .r) (.cons (.r .r) (.cons (.r .r) (.nil)))))))) (.nil)))) rfl fun go8_6_1 => ?_
     exact RA.to2 hall hf hb (ro8_14 B bo8_11_1 go8_5_1 go8_6_1 qo8_5_2) rfl rfl (by kernel_rfl)
   have ro8_11 : ∀ B, ∀ (go8_5_1 : Nat → Nat → Value), ∀ (go8_6_1 : Nat → Nat → Value), ∀ (qo8_5_2 : Nat → Value), RA f E B all 8 (bt 15 127) ⟨40, [(0, .obj (bo 0) ((l01Cur.c ((commandN ((belowN d size).2) k).2)).map .r)), (33, .tup [.agg ((Keep.c ((perfK k (IntKind.i64.wrap ((i : Int) + 2)) ((commandN ((belowN d size).2) k).1)).1)).map .r), S ((perfK k (IntKind.i64.wrap ((i : Int) + 2)) ((commandN ((belowN d size).2) k).1)).2.1), Bo ((perfK k (IntKind.i64.wrap ((i : Int) + 2)) ((commandN ((belowN d size).2) k).1)).2.2)])] ++ b0⟩ K := by
    intro B go8_5_1 go8_6_1 qo8_5_2
    refine RA.of2 hall hf hb (RA.stepH (L := [7, 11]) (Tell.of rfl) (by kernel_rfl) (by simp) (RA.each ?_ (RA.each ?_ (RA.each0))))
    ·skip
     refine RO.moveMove rfl rfl rfl rfl rfl (by decide) (Nat.le_of_ble_eq_true rfl) (Nat.le_of_ble_eq_true rfl) ?_
     exact RA.to2 hall hf hb (ro8_13 B go8_5_1 go8_6_1 qo8_5_2) rfl rfl (by kernel_rfl)
    ·skip
     refine RO.alloc (ds := [.r (.v (.slice none 0 0)), .r (.v (.slice none 0 0))]) rfl rfl rfl rfl rfl rfl fun bo8_11_1 => ?_
     exact RA.to2 hall hf hb (ro8_14 B bo8_11_1 go8_5_1 go8_6_1 qo8_5_2) rfl rfl (by kernel_rfl)
   have ro8_10 : ∀ B, ∀ (bo8_11_1 : Nat), ∀ (go8_5_1 : Nat → Nat → Value), ∀ (qo8_5_2 : Nat → Value), RA f E B all 9 (bt 15 2110) ⟨40, [(0, .obj (bo 0) ((l01Cur.c ((commandN ((belowN d size).2) k).2)).map .r)), (9, .obj bo8_11_1 [.r (.v (.slice none 0 0)), .r (.v (.slice none 0 0))]), (29, I (IntKind.i64.wrap ((i : Int) + 2))), (32, .agg ((Command.c ((commandN ((belowN d size).2) k).1)).map .r))] ++ b0⟩ K := by
    intro B bo8_11_1 go8_5_1 qo8_5_2
    refine RA.of2 hall hf hb (RA.stepH (L := [0]) (Tell.of rfl) (by kernel_rfl) (by simp) (RA.each ?_ (RA.each0)))
    ·skip
     refine RO.v rfl rfl (V.loadAgg rfl rfl rfl rfl rfl (Nat.le_of_ble_eq_true rfl)) rfl ?_
     exact RA.to2 hall hf hb (ro8_12 B bo8_11_1 go8_5_1 qo8_5_2) rfl rfl (by kernel_rfl)
   have ro8_9 : ∀ B, ∀ (bo8_11_1 : Nat), RA f E B all 9 (bt 15 2079) ⟨40, [(0, .obj (bo 0) ((l01Cur.c ((belowN d size).2)).map .r)), (9, .obj bo8_11_1 [.r (.v (.slice none 0 0)), .r (.v (.slice none 0 0))]), (27, .agg ((Keep.c k).map .r)), (29, I (IntKind.i64.wrap ((i : Int) + 2))), (30, .pt 0 (bo 0) 0), (31, .agg ((Keep.c k).map .r))] ++ b0⟩ K := by
    intro B bo8_11_1
    refine RA.of2 hall hf hb (RA.stepH (L := [5]) (Tell.of rfl) (by kernel_rfl) (by simp) (RA.each ?_ (RA.each0)))
    ·skip
     refine RO.callP (k := 0) (spec_l15Command_fn ((belowN d size).2) k (belowN_ok hP.hc _) hP.hk.ok.okTo) rfl rfl rfl rfl (Nat.le_of_ble_eq_true rfl) (by decide) rfl (DT.r (DT.r (DT.r DT.e))) (AsPs.here rfl (.cons (.agg (.cons (.r .r) (.cons (.r .r) (.nil)))) (.nil))) fun go8_5_1 qo8_5_2 => ?_
     exact RA.to2 hall hf hb (ro8_12 B bo8_11_1 go8_5_1 qo8_5_2) rfl rfl (by kernel_rfl)
   have ro8_8 : ∀ B, ∀ (go8_5_1 : Nat → Nat → Value), ∀ (qo8_5_2 : Nat → Value), RA f E B all 9 (bt 15 63) ⟨40, [(0, .obj (bo 0) ((l01Cur.c ((commandN ((belowN d size).2) k).2)).map .r)), (27, .agg ((Keep.c k).map .r)), (29, I (IntKind.i64.wrap ((i : Int) + 2))), (32, .agg ((Command.c ((commandN ((belowN d size).2) k).1)).map .r))] ++ b0⟩ K := by
    intro B go8_5_1 qo8_5_2
    refine RA.of2 hall hf hb (RA.stepH (L := [6, 11]) (Tell.of rfl) (by kernel_rfl) (by simp) (RA.each ?_ (RA.each ?_ (RA.each0))))
    ·skip
     refine RO.call rfl rfl (spec_Perform_fn k (IntKind.i64.wrap ((i : Int) + 2)) ((commandN ((belowN d size).2) k).1) hP.hk.ok.okTo) rfl (.cons (.agg (.cons (.r .r) (.cons (.r .r) (.nil)))) (.cons (.one (.r .r)) (.cons (.agg (.cons (.r .r) (.cons (.r .r) (.cons (.r .r) (.cons (.r .r) (.cons (.r .r) (.cons (.r .r) (.nil)))))))) (.nil)))) rfl fun go8_6_1 => ?_
     exact RA.to2 hall hf hb (ro8_11 B go8_5_1 go8_6_1 qo8_5_2) rfl rfl (by kernel_rfl)
    ·skip
     refine RO.alloc (ds := [.r (.v (.slice none 0 0)), .r (.v (.slice none 0 0))]) rfl rfl rfl rfl rfl rfl fun bo8_11_1 => ?_
     exact RA.to2 hall hf hb (ro8_12 B bo8_11_1 go8_5_1 qo8_5_2) rfl rfl (by kernel_rfl)
   have ro8_7 : ∀ B, ∀ (bo8_11_1 : Nat), RA f E B all 10 (bt 15 2078) ⟨40, [(0, .obj (bo 0) ((l01Cur.c ((belowN d size).2)).map .r)), (9, .obj bo8_11_1 [.r (.v (.slice none 0 0)), .r (.v (.slice none 0 0))]), (29, I (IntKind.i64.wrap ((i : Int) + 2))), (30, .pt 0 (bo 0) 0), (31, .agg ((Keep.c k).map .r))] ++ b0⟩ K := by
    intro B bo8_11_1
    refine RA.of2 hall hf hb (RA.stepH (L := [0, 5]) (Tell.of rfl) (by kernel_rfl) (by simp) (RA.each ?_ (RA.each ?_ (RA.each0))))
    ·skip
     refine RO.v rfl rfl (V.loadAgg rfl rfl rfl rfl rfl (Nat.le_of_ble_eq_true rfl)) rfl ?_
     exact RA.to2 hall hf hb (ro8_9 B bo8_11_1) rfl rfl (by kernel_rfl)
    ·skip
     refine RO.callP (k := 0) (spec_l15Command_fn ((belowN d size).2) k (belowN_ok hP.hc _) hP.hk.ok.okTo) rfl rfl rfl rfl (Nat.le_of_ble_eq_true rfl) (by decide) rfl (DT.r (DT.r (DT.r DT.e))) (AsPs.here rfl (.cons (.agg (.cons (.r .r) (.cons (.r .r) (.nil)))) (.nil))) fun go8_5_1 qo8_5_2 => ?_
     exact RA.to2 hall hf hb (ro8_10 B bo8_11_1 go8_5_1 qo8_5_2) rfl rfl (by kernel_rfl)
   have ro8_6 : ∀ B, ∀ (go8_5_1 : Nat → Nat → Value), ∀ (qo8_5_2 : Nat → Value), RA f E B all 10 (bt 15 62) ⟨40, [(0, .obj (bo 0) ((l01Cur.c ((commandN ((belowN d size).2) k).2)).map .r)), (29, I (IntKind.i64.wrap ((i : Int) + 2))), (32, .agg ((Command.c ((commandN ((belowN d size).2) k).1)).map .r))] ++ b0⟩ K := by
    intro B go8_5_1 qo8_5_2
    refine RA.of2 hall hf hb (RA.stepH (L := [0, 11]) (Tell.of rfl) (by kernel_rfl) (by simp) (RA.each ?_ (RA.each ?_ (RA.each0))))
    ·skip
     refine RO.v rfl rfl (V.loadAgg rfl rfl rfl rfl rfl (Nat.le_of_ble_eq_true rfl)) rfl ?_
     exact RA.to2 hall hf hb (ro8_8 B go8_5_1 qo8_5_2) rfl rfl (by kernel_rfl)
    ·skip
     refine RO.alloc (ds := [.r (.v (.slice none 0 0)), .r (.v (.slice none 0 0))]) rfl rfl rfl rfl rfl rfl fun bo8_11_1 => ?_
     exact RA.to2 hall hf hb (ro8_10 B bo8_11_1 go8_5_1 qo8_5_2) rfl rfl (by kernel_rfl)
   have ro8_5 : ∀ B, ∀ (bo8_11_1 : Nat), RA f E B all 10 (bt 15 2063) ⟨40, [(0, .obj (bo 0) ((l01Cur.c ((belowN d size).2)).map .r)), (9, .obj bo8_11_1 [.r (.v (.slice none 0 0)), .r (.v (.slice none 0 0))]), (27, .agg ((Keep.c k).map .r)), (29, I (IntKind.i64.wrap ((i : Int) + 2))), (30, .pt 0 (bo 0) 0)] ++ b0⟩ K := by
    intro B bo8_11_1
    refine RA.of2 hall hf hb (RA.stepH (L := [4]) (Tell.of rfl) (by kernel_rfl) (by simp) (RA.each ?_ (RA.each0)))
    ·skip
     refine RO.v rfl rfl (V.loadAgg rfl rfl rfl rfl rfl (Nat.le_of_ble_eq_true rfl)) rfl ?_
     exact RA.to2 hall hf hb (ro8_9 B bo8_11_1) rfl rfl (by kernel_rfl)
   have ro8_4 : ∀ B, RA f E B all 10 (bt 15 31) ⟨40, [(0, .obj (bo 0) ((l01Cur.c ((belowN d size).2)).map .r)), (27, .agg ((Keep.c k).map .r)), (29, I (IntKind.i64.wrap ((i : Int) + 2))), (30, .pt 0 (bo 0) 0), (31, .agg ((Keep.c k).map .r))] ++ b0⟩ K := by
    intro B
    refine RA.of2 hall hf hb (RA.stepH (L := [5, 11]) (Tell.of rfl) (by kernel_rfl) (by simp) (RA.each ?_ (RA.each ?_ (RA.each0))))
    ·skip
     refine RO.callP (k := 0) (spec_l15Command_fn ((belowN d size).2) k (belowN_ok hP.hc _) hP.hk.ok.okTo) rfl rfl rfl rfl (Nat.le_of_ble_eq_true rfl) (by decide) rfl (DT.r (DT.r (DT.r DT.e))) (AsPs.here rfl (.cons (.agg (.cons (.r .r) (.cons (.r .r) (.nil)))) (.nil))) fun go8_5_1 qo8_5_2 => ?_
     exact RA.to2 hall hf hb (ro8_8 B go8_5_1 qo8_5_2) rfl rfl (by kernel_rfl)
    ·skip
     refine RO.alloc (ds := [.r (.v (.slice none 0 0)), .r (.v (.slice none 0 0))]) rfl rfl rfl rfl rfl rfl fun bo8_11_1 => ?_
     exact RA.to2 hall hf hb (ro8_9 B bo8_11_1) rfl rfl (by kernel_rfl)
   have ro8_3 : ∀ B, ∀ (bo8_11_1 : Nat), RA f E B all 11 (bt 15 2062) ⟨40, [(0, .obj (bo 0) ((l01Cur.c ((belowN d size).2)).map .r)), (9, .obj bo8_11_1 [.r (.v (.slice none 0 0)), .r (.v (.slice none 0 0))]), (29, I (IntKind.i64.wrap ((i : Int) + 2))), (30, .pt 0 (bo 0) 0)] ++ b0⟩ K := by
    intro B bo8_11_1
    refine RA.of2 hall hf hb (RA.stepH (L := [0, 4]) (Tell.of rfl) (by kernel_rfl) (by simp) (RA.each ?_ (RA.each ?_ (RA.each0))))
    ·skip
     refine RO.v rfl rfl (V.loadAgg rfl rfl rfl rfl rfl (Nat.le_of_ble_eq_true rfl)) rfl ?_
     exact RA.to2 hall hf hb (ro8_5 B bo8_11_1) rfl rfl (by kernel_rfl)
    ·skip
     refine RO.v rfl rfl (V.loadAgg rfl rfl rfl rfl rfl (Nat.le_of_ble_eq_true rfl)) rfl ?_
     exact RA.to2 hall hf hb (ro8_7 B bo8_11_1) rfl rfl (by kernel_rfl)
   have ro8_2 : ∀ B, RA f E B all 11 (bt 15 30) ⟨40, [(0, .obj (bo 0) ((l01Cur.c ((belowN d size).2)).map .r)), (29, I (IntKind.i64.wrap ((i : Int) + 2))), (30, .pt 0 (bo 0) 0), (31, .agg ((Keep.c k).map .r))] ++ b0⟩ K := by
    intro B
    refine RA.of2 hall hf hb (RA.stepH (L := [0, 5, 11]) (Tell.of rfl) (by kernel_rfl) (by simp) (RA.each ?_ (RA.each ?_ (RA.each ?_ (RA.each0)))))
    ·skip
     refine RO.v rfl rfl (V.loadAgg rfl rfl rfl rfl rfl (Nat.le_of_ble_eq_true rfl)) rfl ?_
     exact RA.to2 hall hf hb (ro8_4 B) rfl rfl (by kernel_rfl)
    ·skip
     refine RO.callP (k := 0) (spec_l15Command_fn ((belowN d size).2) k (belowN_ok hP.hc _) hP.hk.ok.okTo) rfl rfl rfl rfl (Nat.le_of_ble_eq_true rfl) (by decide) rfl (DT.r (DT.r (DT.r DT.e))) (AsPs.here rfl (.cons (.agg (.cons (.r .r) (.cons (.r .r) (.nil)))) (.nil))) fun go8_5_1 qo8_5_2 => ?_
     exact RA.to2 hall hf hb (ro8_6 B go8_5_1 qo8_5_2) rfl rfl (by kernel_rfl)
    ·skip
     refine RO.alloc (ds := [.r (.v (.slice none 0 0)), .r (.v (.slice none 0 0))]) rfl rfl rfl rfl rfl rfl fun bo8_11_1 => ?_
     exact RA.to2 hall hf hb (ro8_7 B bo8_11_1) rfl rfl (by kernel_rfl)
   have ro8_1 : ∀ B, RA f E B all 11 (bt 15 15) ⟨40, [(0, .obj (bo 0) ((l01Cur.c ((belowN d size).2)).map .r)), (27, .agg ((Keep.c k).map .r)), (29, I (IntKind.i64.wrap ((i : Int) + 2))), (30, .pt 0 (bo 0) 0)] ++ b0⟩ K := by
    intro B
    refine RA.of2 hall hf hb (RA.stepH (L := [4, 11]) (Tell.of rfl) (by kernel_rfl) (by simp) (RA.each ?_ (RA.each ?_ (RA.each0))))
    ·skip
     refine RO.v rfl rfl (V.loadAgg rfl rfl rfl rfl rfl (Nat.le_of_ble_eq_true rfl)) rfl ?_
     exact RA.to2 hall hf hb (ro8_4 B) rfl rfl (by kernel_rfl)
    ·skip
     refine RO.alloc (ds := [.r (.v (.slice none 0 0)), .r (.v (.slice none 0 0))]) rfl rfl rfl rfl rfl rfl fun bo8_11_1 => ?_
     exact RA.to2 hall hf hb (ro8_5 B bo8_11_1) rfl rfl (by kernel_rfl)
   have ro8_0 : ∀ B, RA f E B all 12 (bt 15 14) ⟨40, [(0, .obj (bo 0) ((l01Cur.c ((belowN d size).2)).map .r)), (29, I (IntKind.i64.wrap ((i : Int) + 2))), (30, .pt 0 (bo 0) 0)] ++ b0⟩ K := by
    intro B
    refine RA.of2 hall hf hb (RA.stepH (L := [0, 4, 11]) (Tell.of rfl) (by kernel_rfl) (by simp) (RA.each ?_ (RA.each ?_ (RA.each ?_ (RA.each0)))))
    ·skip
     refine RO.v rfl rfl (V.loadAgg rfl rfl rfl rfl rfl (Nat.le_of_ble_eq_true rfl)) rfl ?_
     exact RA.to2 hall hf hb (ro8_1 B) rfl rfl (by kernel_rfl)
    ·skip
     refine RO.v rfl rfl (V.loadAgg rfl rfl rfl rfl rfl (Nat.le_of_ble_eq_true rfl)) rfl ?_
     exact RA.to2 hall hf hb (ro8_2 B) rfl rfl (by kernel_rfl)
    ·skip
     refine RO.alloc (ds := [.r (.v (.slice none 0 0)), .r (.v (.slice none 0 0))]) rfl rfl rfl rfl rfl rfl fun bo8_11_1 => ?_
     exact RA.to2 hall hf hb (ro8_3 B bo8_11_1) rfl rfl (by kernel_rfl)
   refine RA.start (by kernel_rfl) (by kernel_rfl) (m := 15) (ls' := (bt 15 0)) ?_
   refine RA.fr XK 40 12 [1,2,3] (bt 15 14) rfl rfl (by kernel_rfl) (Tell.of rfl) ?_
   (conv=>whnf);refine ⟨rfl,fun B=>?_⟩
   exact RA.to2 hall hf hb (ro8_0 B) rfl rfl (by kernel_rfl)
  ·rintro ⟨bo8_11_1, go8_5_1, go8_6_1, qo8_5_2⟩
   refine CW.k XK 40 1 [0,1,4,5,8,9,37] rfl ?_
   (conv=>whnf);refine ⟨rfl,?_⟩
   refine CW.cond rfl (fun h9 => ?_) (fun h9 => ?_)
   ·skip
    refine CW.region ?_
    refine RW.k XK 40 2 rfl ?_
    (conv=>whnf);refine ⟨rfl,?_⟩
    refine RW.nil ?_
    refine CW.keep 40 [0,1,4,5,8] rfl ?_;(conv=>whnf);refine ⟨?_⟩
    refine CW.region ?_
    refine RW.k XK 40 1 rfl ?_
    (conv=>whnf);refine ⟨rfl,?_⟩
    refine RW.v rfl (V.inc rfl rfl rfl (by have h9 := hP.lt hlt; omega) (by have h9 := hP.lt hlt; have h8 : size.toNat ≤ 40 := (by omega); simp only [maxLen]; omega)) ?_
    refine RW.k XK 40 1 rfl ?_
    (conv=>whnf);refine ⟨rfl,?_⟩
    refine RW.nil ?_
    exact ⟨(i + 1, _, _), by have h9 := hP.lt hlt; simp only []; omega, (hP.stepW hs hlt (by assumption) (by first | rfl | simp)), rfl, Le.c rfl <| Le.c rfl <| Le.c rfl <| Le.c rfl <| Le.c rfl <| Le.e⟩
   ·skip
    refine CW.skip ?_
    refine CW.keep 40 [0,1,4,5,8] rfl ?_;(conv=>whnf);refine ⟨?_⟩
    refine CW.region ?_
    refine RW.k XK 40 1 rfl ?_
    (conv=>whnf);refine ⟨rfl,?_⟩
    refine RW.v rfl (V.inc rfl rfl rfl (by have h9 := hP.lt hlt; omega) (by have h9 := hP.lt hlt; have h8 : size.toNat ≤ 40 := (by omega); simp only [maxLen]; omega)) ?_
    refine RW.k XK 40 1 rfl ?_
    (conv=>whnf);refine ⟨rfl,?_⟩
    refine RW.nil ?_
    exact ⟨(i + 1, _, _), by have h9 := hP.lt hlt; simp only []; omega, (hP.stepW hs hlt (by assumption) (by first | rfl | simp)), rfl, Le.c rfl <| Le.c rfl <| Le.c rfl <| Le.c rfl <| Le.c rfl <| Le.e⟩
 ·skip
  have hfin := hP.fin (of_decide_eq_false h7)
  refine CW.exit ?_
  refine CW.keep 40 [0,4,5] rfl ?_;(conv=>whnf);refine ⟨?_⟩
  refine CW.k XK 40 1 [0,4] rfl ?_
  (conv=>whnf);refine ⟨rfl,?_⟩
  refine CW.ret ?_
  exact Post.one (RV.c (f := fun e => (Keep.c e).map .r) (e' := k) rfl rfl rfl rfl (DT.r (DT.r DT.e)) (by rw [hfin])) (AOs.obE (f := fun e => (l01Cur.c e).map .r) (e' := ((belowN d size).2)) rfl (DT.r (DT.r (DT.r DT.e))) (by rw [hfin]) (AOs.r AOs.e))
set_option maxHeartbeats 4000000 in
theorem spec_DrawTalk_fn (code : List Int) : Eng.Fn E.P 15 [.one (.r (sl 1 cU code))] (.tup [.agg ((Keep.c ((talkK code).1)).map .r), .agg ((Command.c (talkX code)).map .w)]) [.one (.r (sl 1 cU code))] := by
 refine Eng.Fn.intro (E := E) (rvs := [.cell 2 31, .cell 3 38]) Tryd.func15 rfl rfl rfl (by simp [outSlots, moved, rvSlot, sl]) ?_
 intro B g bo
 refine CW.bound (x := .tmp 0) (n := code.length) (AsT.r) (fun hl0 => ?_)
 refine CW.keep 16 [0] rfl ?_;(conv=>whnf);refine ⟨?_⟩
 refine CW.k XK 16 1 [0,2,3] rfl ?_
 (conv=>whnf);intro b1;(conv=>whnf);intro b2;(conv=>whnf);refine ⟨rfl,?_⟩
 refine CW.seq ?_
 refine CW.region ?_
 refine RW.k XK 16 1 rfl ?_
 (conv=>whnf);refine ⟨rfl,?_⟩
 refine RW.call rfl (spec_l01New_fn code) rfl (.cons (.one (.r .r)) (.nil)) fun g3 => ?_
 refine RW.k XK 16 1 rfl ?_
 (conv=>whnf);refine ⟨rfl,?_⟩
 refine RW.nil ?_
 refine CW.keep 16 [0,2,3,4,7] rfl ?_;(conv=>whnf);refine ⟨?_⟩
 refine CW.seq ?_
 refine CW.region ?_
 refine RW.k XK 16 2 rfl ?_
 (conv=>whnf);refine ⟨rfl,?_⟩
 refine RW.call rfl (spec_l15Size_fn code) rfl (.cons (.one (.r .r)) (.nil)) fun g4 => ?_
 refine RW.callP (k := 7) (spec_l15Keep_fn (cur0 code) (talkSize code) (cur0_ok hl0).2 (by have h9 := talkSize_le code; omega)) rfl rfl (Nat.le_of_ble_eq_true rfl) (by decide) rfl (DT.r (DT.r (DT.r DT.e))) (AsPs.here rfl (.cons (.one (.r .r)) (.nil))) fun g5 q6 => ?_
 refine RW.k XK 16 2 rfl ?_
 (conv=>whnf);intro b7;(conv=>whnf);refine ⟨rfl,?_⟩
 refine RW.freezeB (ts := (Keep.c ((keepN (cur0 code) (talkSize code)).1))) 5 rfl (DRd.r (DRd.r DRd.e)) ?_
 refine RW.nil ?_
 refine CW.keep 16 [2,3,4,5,7] rfl ?_;(conv=>whnf);refine ⟨?_⟩
 refine CW.anyJ2 (fc := []) (L0 := []) 16 (fun (zz : (Nat → Nat → Value) × (Nat → Value)) => match zz with | (go8_3_1, qo8_3_2) => [(2, .obj b1 ((Keep.c ((keepN (cur0 code) (talkSize code)).1)).map .r)), (3, .obj b2 ((Command.c ((commandN ((keepN (cur0 code) (talkSize code)).2) ((keepN (cur0 code) (talkSize code)).1)).1)).map .r))]) (fun all hall f hf b0 hb K hK => ?_) ?_
 ·skip
  have ro8_3 : ∀ B, ∀ (go8_3_1 : Nat → Nat → Value), ∀ (qo8_3_2 : Nat → Value), RA f E B all 0 (bt 6 63) ⟨16, [(2, .obj b1 ((Keep.c ((keepN (cur0 code) (talkSize code)).1)).map .r)), (3, .obj b2 ((Command.c ((commandN ((keepN (cur0 code) (talkSize code)).2) ((keepN (cur0 code) (talkSize code)).1)).1)).map .r))] ++ b0⟩ K := by
   intro B go8_3_1 qo8_3_2
   exact RA.of2 hall hf hb (RA.finH (Tell.of rfl) (by kernel_rfl) (hK (go8_3_1, qo8_3_2) _ rfl (Le.of rfl)))
  have ro8_2 : ∀ B, ∀ (go8_3_1 : Nat → Nat → Value), ∀ (qo8_3_2 : Nat → Value), RA f E B all 1 (bt 6 31) ⟨16, [(2, .obj b1 ((Keep.c ((keepN (cur0 code) (talkSize code)).1)).map .r)), (3, .obj b2 [I 0, I 0, I 0, S (⟨#[]⟩), S (⟨#[]⟩), I 0]), (15, .agg ((Command.c ((commandN ((keepN (cur0 code) (talkSize code)).2) ((keepN (cur0 code) (talkSize code)).1)).1)).map .r))] ++ b0⟩ K := by
   intro B go8_3_1 qo8_3_2
   refine RA.of2 hall hf hb (RA.stepH (L := [5]) (Tell.of rfl) (by kernel_rfl) (by simp) (RA.each ?_ (RA.each0)))
   ·skip
    refine RO.storeAgg (es := ((Command.c ((commandN ((keepN (cur0 code) (talkSize code)).2) ((keepN (cur0 code) (talkSize code)).1)).1)).map .r)) rfl rfl rfl rfl rfl rfl rfl rfl rfl rfl (Nat.le_of_ble_eq_true rfl) rfl ?_
    exact RA.to2 hall hf hb (ro8_3 B go8_3_1 qo8_3_2) rfl rfl (by kernel_rfl)
  have ro8_1 : ∀ B, ∀ (go8_3_1 : Nat → Nat → Value), ∀ (qo8_3_2 : Nat → Value), RA f E B all 2 (bt 6 15) ⟨16, [(2, .obj b1 [.r (.v (.slice none 0 0)), .r (.v (.slice none 0 0))]), (3, .obj b2 [I 0, I 0, I 0, S (⟨#[]⟩), S (⟨#[]⟩), I 0]), (12, .agg ((Keep.c ((keepN (cur0 code) (talkSize code)).1)).map .r)), (15, .agg ((Command.c ((commandN ((keepN (cur0 code) (talkSize code)).2) ((keepN (cur0 code) (talkSize code)).1)).1)).map .r))] ++ b0⟩ K := by
   intro B go8_3_1 qo8_3_2
   refine RA.of2 hall hf hb (RA.stepH (L := [4]) (Tell.of rfl) (by kernel_rfl) (by simp) (RA.each ?_ (RA.each0)))
   ·skip
    refine RO.storeAgg (es := ((Keep.c ((keepN (cur0 code) (talkSize code)).1)).map .r)) rfl rfl rfl rfl rfl rfl rfl rfl rfl rfl (Nat.le_of_ble_eq_true rfl) rfl ?_
    exact RA.to2 hall hf hb (ro8_2 B go8_3_1 qo8_3_2) rfl rfl (by kernel_rfl)
  have ro8_0 : ∀ B, RA f E B all 3 (bt 6 7) ⟨16, [(2, .obj b1 [.r (.v (.slice none 0 0)), .r (.v (.slice none 0 0))]), (3, .obj b2 [I 0, I 0, I 0, S (⟨#[]⟩), S (⟨#[]⟩), I 0]), (7, .obj (blk (g3 0 3)) ((l01Cur.c ((keepN (cur0 code) (talkSize code)).2)).map .r)), (12, .agg ((Keep.c ((keepN (cur0 code) (talkSize code)).1)).map .r)), (13, .pt 7 (blk (g3 0 3)) 0), (14, .agg ((Keep.c ((keepN (cur0 code) (talkSize code)).1)).map .r))] ++ b0⟩ K := by
   intro B
   refine RA.of2 hall hf hb (RA.stepH (L := [3]) (Tell.of rfl) (by kernel_rfl) (by simp) (RA.each ?_ (RA.each0)))
   ·skip
    refine RO.callP (k := 7) (spec_l15Command_fn ((keepN (cur0 code) (talkSize code)).2) ((keepN (cur0 code) (talkSize code)).1) (talk_good hl0).2 (talk_good hl0).1.ok.okTo) rfl rfl rfl rfl (Nat.le_of_ble_eq_true rfl) (by decide) rfl (DT.r (DT.r (DT.r DT.e))) (AsPs.here rfl (.cons (.agg (.cons (.r .r) (.cons (.r .r) (.nil)))) (.nil))) fun go8_3_1 qo8_3_2 => ?_
    exact RA.to2 hall hf hb (ro8_1 B go8_3_1 qo8_3_2) rfl rfl (by kernel_rfl)
  refine RA.start (by kernel_rfl) (by kernel_rfl) (m := 6) (ls' := (bt 6 0)) ?_
  refine RA.fr XK 16 3 [0,1,2] (bt 6 7) rfl rfl (by kernel_rfl) (Tell.of rfl) ?_
  (conv=>whnf);refine ⟨rfl,fun B=>?_⟩
  exact RA.to2 hall hf hb (ro8_0 B) rfl rfl (by kernel_rfl)
 ·rintro ⟨go8_3_1, qo8_3_2⟩
  refine CW.ret ?_
  exact Post.tup (by decide) (RVs.c (RV.c (f := fun e => (Keep.c e).map .r) (e' := ((keepN (cur0 code) (talkSize code)).1)) rfl rfl rfl rfl (DT.r (DT.r DT.e)) (by rfl)) (RVs.c (RV.c (f := fun e => (Command.c e).map .w) (e' := ((commandN ((keepN (cur0 code) (talkSize code)).2) ((keepN (cur0 code) (talkSize code)).1)).1)) rfl rfl rfl rfl (DT.v (DT.v (DT.v (DT.v (DT.v (DT.v DT.e)))))) (by rfl)) RVs.e)) (AOs.r AOs.e)
set_option maxHeartbeats 4000000 in
theorem spec_DrawPlaces_fn (code : List Int) : Eng.Fn E.P 18 [.one (.r (sl 1 cU code))] (.one (.one (.r (sl 1 cI (drawPlaces code))))) [.one (.r (sl 1 cU code))] := by
 refine Eng.Fn.intro (E := E) (rvs := [.tmp 2]) Tryd.func18 rfl rfl rfl (by simp [outSlots, moved, rvSlot, sl]) ?_
 intro B g bo
 refine CW.bound (x := .tmp 0) (n := code.length) (AsT.r) (fun hl0 => ?_)
 refine CW.keep 21 [0] rfl ?_;(conv=>whnf);refine ⟨?_⟩
 refine CW.k XK 21 1 [0] rfl ?_
 (conv=>whnf);refine ⟨rfl,?_⟩
 refine CW.seq ?_
 refine CW.region ?_
 refine RW.k XK 21 1 rfl ?_
 (conv=>whnf);refine ⟨rfl,?_⟩
 refine RW.call rfl (spec_l01New_fn code) rfl (.cons (.one (.r .r)) (.nil)) fun g1 => ?_
 refine RW.k XK 21 1 rfl ?_
 (conv=>whnf);refine ⟨rfl,?_⟩
 refine RW.nil ?_
 refine CW.keep 21 [3,7] rfl ?_;(conv=>whnf);refine ⟨?_⟩
 refine CW.seq ?_
 refine CW.region ?_
 refine RW.k XK 21 1 rfl ?_
 (conv=>whnf);refine ⟨rfl,?_⟩
 refine RW.callP (k := 7) (spec_l01Byte_fn (cur0 code) (cur0_ok hl0).2) rfl rfl (Nat.le_of_ble_eq_true rfl) (by decide) rfl (DT.r (DT.r (DT.r DT.e))) (AsPs.here rfl (.nil)) fun g2 q3 => ?_
 refine RW.nil ?_
 refine CW.keep 21 [3,7] rfl ?_;(conv=>whnf);refine ⟨?_⟩
 refine CW.seq ?_
 refine CW.region ?_
 refine RW.build0 cI rfl rfl rfl rfl rfl fun X4 => ?_
 refine RW.assignMove rfl rfl rfl (by decide) (Nat.le_of_ble_eq_true rfl) (Nat.le_of_ble_eq_true rfl) ?_
 refine RW.nil ?_
 refine CW.keep 21 [3,4,7] rfl ?_;(conv=>whnf);refine ⟨?_⟩
 refine CW.seq ?_
 refine CW.k XK 21 1 [3,4,5,7] rfl ?_
 (conv=>whnf);refine ⟨rfl,?_⟩
 refine CW.block ?_
 refine CW.loopI 21 (fun (zz : Nat × List Int × Value × l01Cur) => match zz with | (i, l, X, c) => [(3, .pt 7 (blk (g1 0 3)) 0), (4, .w (sl 1 cI l) X), (5, I (i : Int)), (7, .obj (blk (g1 0 3)) ((l01Cur.c c).map .r))]) (fun (zz : Nat × List Int × Value × l01Cur) => match zz with | (i, l, X, c) => PlP code i l c) (fun (zz : Nat × List Int × Value × l01Cur) => match zz with | (i, l, X, c) => 12 - i) (0, [], _, _) rfl (Le.c rfl <| Le.c rfl <| Le.c rfl <| Le.c rfl <| Le.e) (PlP.init hl0) ?_
 rintro ⟨i, l, X, c⟩ hP
 refine CW.seq ?_
 refine CW.k XK 21 1 [3,4,5,7,12] rfl ?_
 (conv=>whnf);refine ⟨rfl,?_⟩
 refine CW.cond rfl (fun h5 => ?_) (fun h5 => ?_)
 ·skip
  have hlt : i < 12 := by simp at h5; omega
  refine CW.skip ?_
  refine CW.keep 21 [3,4,5,7] rfl ?_;(conv=>whnf);refine ⟨?_⟩
  refine CW.seq ?_
  refine CW.block ?_
  refine CW.region ?_
  refine RW.k XK 21 2 rfl ?_
  (conv=>whnf);refine ⟨rfl,?_⟩
  refine RW.callP (k := 7) (spec_l01Below_fn c 10000 hP.1) rfl rfl (Nat.le_of_ble_eq_true rfl) (by decide) rfl (DT.r (DT.r (DT.r DT.e))) (AsPs.here rfl (.cons (.one (.r .r)) (.nil))) fun g6 q7 => ?_
  refine RW.build1c (c := cI) (v := ((belowN c 10000).1)) (u := .v (.int .i64 ((belowN c 10000).1))) rfl rfl rfl rfl rfl rfl (.inl rfl) rfl rfl fun X8 => ?_
  refine RW.appendSR (c := cI) (l1 := l) (l2 := [((belowN c 10000).1)]) rfl rfl rfl rfl rfl rfl rfl rfl (.al (k := none) (i := 18) (sz := 1) (V := X8) rfl rfl nofun) (by decide) (Nat.le_of_ble_eq_true rfl) cI.len (fun _ => rfl) rfl (by have h7 := hP.2.1; simp only [maxLen, List.length_singleton]; omega) (by have h7 := hP.2.1; simp only [maxLen, List.length_singleton]; omega) fun X9 => ?_
  refine RW.assignMove rfl rfl rfl (by decide) (Nat.le_of_ble_eq_true rfl) (Nat.le_of_ble_eq_true rfl) ?_
  refine RW.nil ?_
  refine CW.keep 21 [3,4,5,7] rfl ?_;(conv=>whnf);refine ⟨?_⟩
  refine CW.region ?_
  refine RW.k XK 21 1 rfl ?_
  (conv=>whnf);refine ⟨rfl,?_⟩
  refine RW.v rfl (V.inc rfl rfl rfl hlt (by simp only [maxLen]; omega)) ?_
  refine RW.k XK 21 1 rfl ?_
  (conv=>whnf);refine ⟨rfl,?_⟩
  refine RW.nil ?_
  exact ⟨(i + 1, _, _, _), by simp only []; omega, (hP.step hlt), rfl, Le.c rfl <| Le.c rfl <| Le.c rfl <| Le.c rfl <| Le.e⟩
 ·skip
  have hge : 12 ≤ i := by simp at h5; omega
  refine CW.exit ?_
  refine CW.keep 21 [4] rfl ?_;(conv=>whnf);refine ⟨?_⟩
  refine CW.seq ?_
  refine CW.region ?_
  refine RW.k XK 21 2 rfl ?_
  (conv=>whnf);refine ⟨rfl,?_⟩
  refine RW.pullS 2 4 (by decide) rfl rfl ?_
  refine RW.nil ?_
  refine CW.keep 21 [2] rfl ?_;(conv=>whnf);refine ⟨?_⟩
  refine CW.freeze 2 (d' := .r (sl 1 cI l)) rfl rfl ?_
  refine CW.ret ?_
  exact Post.one (RV.r rfl (by exact hP.fin hge)) (AOs.r AOs.e)
theorem perfA (code : List Int) (hok : okToKeep ((talkK code).1)) : Eng.Fn E.P 19 [.agg ((Keep.c ((talkK code).1)).map .r), .one (.r (.v (.int .i64 70))), .agg ((Command.c (⟨2, (sP code).token, (IntKind.i64.wrap ((sP code).last + 1)), (gP code), (⟨#[118, 97, 108]⟩ : ByteArray), 0⟩ : Command)).map .r)] (.tup [.agg ((Keep.c ((qA code).1)).map .r), .one (.w (.v (.string ((qA code).2.1)))), .one (.w (.v (.bool ((qA code).2.2))))]) [.agg ((Keep.c ((talkK code).1)).map .r), .one (.r (.v (.int .i64 70))), .agg ((Command.c (⟨2, (sP code).token, (IntKind.i64.wrap ((sP code).last + 1)), (gP code), (⟨#[118, 97, 108]⟩ : ByteArray), 0⟩ : Command)).map .r)] := by
  rw [qA, kA, cPut, val3]
  exact impl_Perform_fn _ _ _ hok
theorem perfB (code : List Int) (hok : okToKeep ((qA code).1)) : Eng.Fn E.P 19 [.agg ((Keep.c ((qA code).1)).map .r), .one (.r (.v (.int .i64 71))), .agg ((Command.c (⟨3, (sP code).token, (IntKind.i64.wrap ((sP code).last + 2)), (gP code), ⟨#[]⟩, 0⟩ : Command)).map .r)] (.tup [.agg ((Keep.c ((qB code).1)).map .r), .one (.w (.v (.string ((qB code).2.1)))), .one (.w (.v (.bool ((qB code).2.2))))]) [.agg ((Keep.c ((qA code).1)).map .r), .one (.r (.v (.int .i64 71))), .agg ((Command.c (⟨3, (sP code).token, (IntKind.i64.wrap ((sP code).last + 2)), (gP code), ⟨#[]⟩, 0⟩ : Command)).map .r)] := by
  rw [qB, cGet]
  exact impl_Perform_fn _ _ _ hok
theorem perfC (code : List Int) (hok : okToKeep ((qB code).1)) : Eng.Fn E.P 19 [.agg ((Keep.c ((qB code).1)).map .r), .one (.r (.v (.int .i64 72))), .agg ((Command.c (⟨5, (sP code).token, (IntKind.i64.wrap ((sP code).last + 3)), (gP code), (⟨#[120]⟩ : ByteArray), 69⟩ : Command)).map .r)] (.tup [.agg ((Keep.c ((qC code).1)).map .r), .one (.w (.v (.string ((qC code).2.1)))), .one (.w (.v (.bool ((qC code).2.2))))]) [.agg ((Keep.c ((qB code).1)).map .r), .one (.r (.v (.int .i64 72))), .agg ((Command.c (⟨5, (sP code).token, (IntKind.i64.wrap ((sP code).last + 3)), (gP code), (⟨#[120]⟩ : ByteArray), 69⟩ : Command)).map .r)] := by
  rw [qC, cSw1]
  exact impl_Perform_fn _ _ _ hok
theorem perfD (code : List Int) (hok : okToKeep ((qC code).1)) : Eng.Fn E.P 19 [.agg ((Keep.c ((qC code).1)).map .r), .one (.r (.v (.int .i64 73))), .agg ((Command.c (⟨5, (sP code).token, (IntKind.i64.wrap ((sP code).last + 4)), (gP code), (⟨#[121]⟩ : ByteArray), 70⟩ : Command)).map .r)] (.tup [.agg ((Keep.c ((qD code).1)).map .r), .one (.w (.v (.string ((qD code).2.1)))), .one (.w (.v (.bool ((qD code).2.2))))]) [.agg ((Keep.c ((qC code).1)).map .r), .one (.r (.v (.int .i64 73))), .agg ((Command.c (⟨5, (sP code).token, (IntKind.i64.wrap ((sP code).last + 4)), (gP code), (⟨#[121]⟩ : ByteArray), 70⟩ : Command)).map .r)] := by
  rw [qD, cSw2]
  exact impl_Perform_fn _ _ _ hok
theorem perfE (code : List Int) (hok : okToKeep ((qD code).1)) : Eng.Fn E.P 19 [.agg ((Keep.c ((qD code).1)).map .r), .one (.r (.v (.int .i64 74))), .agg ((Command.c (⟨4, (sP code).token, (IntKind.i64.wrap ((sP code).last + 5)), (gP code), ⟨#[]⟩, 0⟩ : Command)).map .r)] (.tup [.agg ((Keep.c ((qE code).1)).map .r), .one (.w (.v (.string ((qE code).2.1)))), .one (.w (.v (.bool ((qE code).2.2))))]) [.agg ((Keep.c ((qD code).1)).map .r), .one (.r (.v (.int .i64 74))), .agg ((Command.c (⟨4, (sP code).token, (IntKind.i64.wrap ((sP code).last + 5)), (gP code), ⟨#[]⟩, 0⟩ : Command)).map .r)] := by
  rw [qE, cDrop]
  exact impl_Perform_fn _ _ _ hok
set_option maxHeartbeats 4000000 in
theorem laws_FnPutGet_fn (code : List Int) : Eng.Fn E.P 5 [.one (.r (sl 1 cU code))] (.one (.one (.w (.v (.bool true))))) [.one (.r (sl 1 cU code))] := by
 refine Eng.Fn.intro (E := E) (rvs := [.tmp 2]) Tryd.func5 rfl rfl rfl (by simp [outSlots, moved, rvSlot, sl]) ?_
 intro B g bo
 refine CW.bound (x := .tmp 0) (n := code.length) (AsT.r) (fun hl0 => ?_)
 refine CW.keep 239 [0] rfl ?_;(conv=>whnf);refine ⟨?_⟩
 have hG := talk_good hl0
 have hK := hG.1.ok
 refine CW.k XK 239 1 [0] rfl ?_
 (conv=>whnf);refine ⟨rfl,?_⟩
 refine CW.seq ?_
 refine CW.seq ?_
 refine CW.region ?_
 refine RW.k XK 239 1 rfl ?_
 (conv=>whnf);refine ⟨rfl,?_⟩
 refine RW.call rfl (laws_big_fn code) rfl (.cons (.one (.r .r)) (.nil)) fun g1 => ?_
 refine RW.nil ?_
 refine CW.keep 239 [0,34] rfl ?_;(conv=>whnf);refine ⟨?_⟩
 refine CW.cond rfl (fun h2 => ?_) (fun h2 => ?_)
 ·skip
  refine CW.k XK 239 1 [2] rfl ?_
  (conv=>whnf);refine ⟨rfl,?_⟩
  refine CW.ret ?_
  exact Post.one (RV.b rfl (by rfl)) (AOs.r AOs.e)
 ·skip
  refine CW.skip ?_
  refine CW.keep 239 [0] rfl ?_;(conv=>whnf);refine ⟨?_⟩
  refine CW.seq ?_
  refine CW.region ?_
  refine RW.k XK 239 1 rfl ?_
  (conv=>whnf);refine ⟨rfl,?_⟩
  refine RW.call rfl (spec_DrawTalk_fn code) rfl (.cons (.one (.r .r)) (.nil)) fun g3 => ?_
  refine RW.k XK 239 6 rfl ?_
  (conv=>whnf);intro b4;(conv=>whnf);intro b5;(conv=>whnf);refine ⟨rfl,?_⟩
  refine RW.freezeB (ts := (Keep.c ((talkK code).1))) 3 rfl (DRd.r (DRd.r DRd.e)) ?_
  refine RW.k XK 239 1 rfl ?_
  (conv=>whnf);refine ⟨rfl,?_⟩
  refine RW.freezeB (ts := (Command.c (talkX code))) 4 rfl (DRd.r (DRd.r (DRd.r (DRd.r (DRd.r (DRd.r DRd.e)))))) ?_
  refine RW.nil ?_
  refine CW.keep 239 [0,3] rfl ?_;(conv=>whnf);refine ⟨?_⟩
  refine CW.seq ?_
  refine CW.k XK 239 1 [0,3,43] rfl ?_
  (conv=>whnf);refine ⟨rfl,?_⟩
  refine CW.cond rfl (fun h6 => ?_) (fun h6 => ?_)
  ·skip
   refine CW.seq ?_
   refine CW.region ?_
   refine RW.k XK 239 1 rfl ?_
   (conv=>whnf);refine ⟨rfl,?_⟩
   refine RW.call rfl (impl_KeepOk_fn ((talkK code).1) hK.okTo) rfl (.cons (.agg (.cons (.r .r) (.cons (.r .r) (.nil)))) (.nil)) fun g7 => ?_
   refine RW.k XK 239 1 rfl ?_
   (conv=>whnf);refine ⟨rfl,?_⟩
   refine RW.nil ?_
   refine CW.keep 239 [2] rfl ?_;(conv=>whnf);refine ⟨?_⟩
   refine CW.ret ?_
   exact Post.one (RV.b rfl (by exact hK.to)) (AOs.r AOs.e)
  ·skip
   have hlp : 0 < (talkK code).1.sessions.length := len_pos h6
   have hM := qL hl0 hlp
   have hL := qQ hM
   refine CW.skip ?_
   refine CW.keep 239 [0,3] rfl ?_;(conv=>whnf);refine ⟨?_⟩
   refine CW.seq ?_
   refine CW.region ?_
   refine RW.k XK 239 1 rfl ?_
   (conv=>whnf);refine ⟨rfl,?_⟩
   refine RW.call rfl (spec_DrawPlaces_fn code) rfl (.cons (.one (.r .r)) (.nil)) fun g8 => ?_
   refine RW.k XK 239 1 rfl ?_
   (conv=>whnf);refine ⟨rfl,?_⟩
   refine RW.nil ?_
   refine CW.keep 239 [3,5] rfl ?_;(conv=>whnf);refine ⟨?_⟩
   refine CW.anyJ2 (fc := []) (L0 := [(3, .rp (Keep.c ((talkK code).1))), (5, .r (sl 1 cI (drawPlaces code)))]) 239 (fun (bo9_11_1 : Nat) => [(6, .obj bo9_11_1 ((Session.c (sP code)).map .r))]) (fun all hall f hf b0 hb K hK => ?_) ?_
   ·skip
    have ro9_2 : ∀ B, ∀ (bo9_11_1 : Nat), RA f E B all 0 (bt 13 8191) ⟨239, [(6, .obj bo9_11_1 ((Session.c (sP code)).map .r))] ++ b0⟩ K := by
     intro B bo9_11_1
     exact RA.of2 hall hf hb (RA.finH (Tell.of rfl) (by kernel_rfl) (hK bo9_11_1 _ rfl (Le.of rfl)))
    have ro9_1 : ∀ B, ∀ (bo9_11_1 : Nat), RA f E B all 1 (bt 13 4095) ⟨239, [(6, .obj bo9_11_1 [I 0, I 0, S (⟨#[]⟩)]), (58, .agg ((Session.c (sP code)).map .r))] ++ b0⟩ K := by
     intro B bo9_11_1
     refine RA.of2 hall hf hb (RA.stepH (L := [12]) (Tell.of rfl) (by kernel_rfl) (by simp) (RA.each ?_ (RA.each0)))
     ·skip
      refine RO.storeAgg (es := ((Session.c (sP code)).map .r)) rfl rfl rfl rfl rfl rfl rfl rfl rfl rfl (Nat.le_of_ble_eq_true rfl) rfl ?_
      exact RA.to2 hall hf hb (ro9_2 B bo9_11_1) rfl rfl (by kernel_rfl)
    have ro9_0 : ∀ B, RA f E B all 2 (bt 13 2047) ⟨239, [(58, .agg ((Session.c (sP code)).map .r))] ++ b0⟩ K := by
     intro B
     refine RA.of2 hall hf hb (RA.stepH (L := [11]) (Tell.of rfl) (by kernel_rfl) (by simp) (RA.each ?_ (RA.each0)))
     ·skip
      refine RO.alloc (ds := [I 0, I 0, S (⟨#[]⟩)]) rfl rfl rfl rfl rfl rfl fun bo9_11_1 => ?_
      exact RA.to2 hall hf hb (ro9_1 B bo9_11_1) rfl rfl (by kernel_rfl)
    refine RA.start (by kernel_rfl) (by kernel_rfl) (m := 13) (ls' := (bt 13 0)) ?_
    refine RA.fr XK 239 10 [0,1,2] (bt 13 7) rfl rfl (by kernel_rfl) (Tell.of rfl) ?_
    (conv=>whnf);refine ⟨rfl,fun B=>?_⟩
    refine RA.first (i := 3) (ls' := (bt 13 15)) (Tell.of rfl) (by kernel_rfl) rfl rfl rfl (VF.p (V.indexZ (m := 0) (v := ((drawPlaces code).getD 0 0)) rfl rfl rfl rfl rfl rfl rfl cI.len (getD_some (by rw [draw_len]; decide)))) ?_
    refine RA.fr XK 239 5 [4,5,6,7] (bt 13 255) rfl rfl (by kernel_rfl) (Tell.of rfl) ?_
    (conv=>whnf);refine ⟨rfl,fun B=>?_⟩
    refine RA.first (i := 8) (ls' := (bt 13 511)) (Tell.of rfl) (by kernel_rfl) rfl rfl rfl (VF.p (V.rem rfl rfl rfl (by omega))) ?_
    refine RA.first (i := 9) (ls' := (bt 13 1023)) (Tell.of rfl) (by kernel_rfl) rfl rfl rfl (VF.p (V.indexZ (m := (sI code)) (v := (sP code)) rfl rfl rfl rfl rfl rfl (by rw [sI]; exact (sI_eq hlp).symm) Session.len (sP_at hlp))) ?_
    refine RA.fr XK 239 2 [10] (bt 13 2047) rfl rfl (by kernel_rfl) (Tell.of rfl) ?_
    (conv=>whnf);refine ⟨rfl,fun B=>?_⟩
    exact RA.to2 hall hf hb (ro9_0 B) rfl rfl (by kernel_rfl)
   ·rintro bo9_11_1
    refine CW.seq ?_
    refine CW.region ?_
    refine RW.buildK (c := cS) (L := gkeys) (vs := [(.string (⟨#[97]⟩ : ByteArray)), (.string (⟨#[98]⟩ : ByteArray)), (.string (⟨#[114, 111, 111, 116]⟩ : ByteArray)), (.string (⟨#[110, 101, 119]⟩ : ByteArray))]) rfl rfl rfl rfl rfl (fun _ => rfl) rfl rfl rfl (by decide) (by decide) rfl rfl fun X10 => ?_
    refine RW.k XK 239 1 rfl ?_
    (conv=>whnf);refine ⟨rfl,?_⟩
    refine RW.v rfl (V.indexZ (m := 1) (v := ((drawPlaces code).getD 1 0)) rfl rfl rfl rfl rfl rfl rfl cI.len (getD_some (by rw [draw_len]; decide))) ?_
    refine RW.k XK 239 2 rfl ?_
    (conv=>whnf);refine ⟨rfl,?_⟩
    refine RW.v rfl (V.indexWZ (m := (gI code)) rfl rfl rfl rfl rfl rfl rfl (by rw [gI]; exact (gI_eq code).symm) (gI_lt code)) ?_
    refine RW.v rfl (V.loadF (m := (gI code)) (off := 0) rfl rfl (.inl rfl) rfl rfl cS.len (gP_at code) (by decide) rfl) ?_
    refine RW.k XK 239 1 rfl ?_
    (conv=>whnf);refine ⟨rfl,?_⟩
    refine RW.nil ?_
    refine CW.keep 239 [3,6,7] rfl ?_;(conv=>whnf);refine ⟨?_⟩
    refine CW.seq ?_
    refine CW.region ?_
    refine RW.k XK 239 8 rfl ?_
    (conv=>whnf);refine ⟨rfl,?_⟩
    refine RW.call rfl (perfA code hK.okTo) rfl (.cons (.agg (.cons (.r .r) (.cons (.r .r) (.nil)))) (.cons (.one (.r .r)) (.cons (.agg (.cons (.r .r) (.cons (.r .r) (.cons (.r .r) (.cons (.r .r) (.cons (.r .r) (.cons (.r .r) (.nil)))))))) (.nil)))) fun g11 => ?_
    refine RW.k XK 239 6 rfl ?_
    (conv=>whnf);intro b12;(conv=>whnf);refine ⟨rfl,?_⟩
    refine RW.freezeB (ts := (Keep.c ((qA code).1))) 8 rfl (DRd.r (DRd.r DRd.e)) ?_
    refine RW.k XK 239 2 rfl ?_
    (conv=>whnf);refine ⟨rfl,?_⟩
    refine RW.nil ?_
    refine CW.keep 239 [3,6,7,8,9,10] rfl ?_;(conv=>whnf);refine ⟨?_⟩
    refine CW.seq ?_
    refine CW.k XK 239 1 [3,6,7,8,9,80] rfl ?_
    (conv=>whnf);refine ⟨rfl,?_⟩
    refine CW.cond rfl (fun h13 => ?_) (fun h13 => ?_)
    ·skip
     refine CW.k XK 239 1 [2] rfl ?_
     (conv=>whnf);refine ⟨rfl,?_⟩
     refine CW.ret ?_
     exact Post.one (RV.b rfl (by exfalso; have h9 := hL.ok; simp [h9] at h13)) (AOs.r AOs.e)
    ·skip
     refine CW.skip ?_
     refine CW.keep 239 [3,6,7,8,9] rfl ?_;(conv=>whnf);refine ⟨?_⟩
     refine CW.seq ?_
     refine CW.k XK 239 1 [3,6,7,8,9,82] rfl ?_
     (conv=>whnf);refine ⟨rfl,?_⟩
     refine CW.cond rfl (fun h14 => ?_) (fun h14 => ?_)
     ·skip
      refine CW.seq ?_
      refine CW.region ?_
      refine RW.k XK 239 2 rfl ?_
      (conv=>whnf);refine ⟨rfl,?_⟩
      refine RW.call rfl (impl_ItemOf_fn ((talkK code).1) (gP code) hK.okTo) rfl (.cons (.agg (.cons (.r .r) (.cons (.r .r) (.nil)))) (.cons (.one (.r .r)) (.nil))) fun g15 => ?_
      refine RW.k XK 239 5 rfl ?_
      (conv=>whnf);intro b16;(conv=>whnf);refine ⟨rfl,?_⟩
      refine RW.freezeB (ts := (Item.c ((itemOf ((talkK code).1) (gP code)).1))) 11 rfl (DRd.r (DRd.r (DRd.r DRd.e))) ?_
      refine RW.k XK 239 1 rfl ?_
      (conv=>whnf);refine ⟨rfl,?_⟩
      refine RW.nil ?_
      refine CW.keep 239 [3,12] rfl ?_;(conv=>whnf);refine ⟨?_⟩
      refine CW.seqJ 239 (fun (v17 : Bool) => [(2, Bo v17)]) (fun v17 => v17 = ((((((talkK code).1).items).length : Int) == 8) && (!((itemOf ((talkK code).1) (gP code)).2)))) ?_ ?_
      ·refine CW.region ?_
       refine RW.k XK 239 5 rfl ?_
       (conv=>whnf);refine ⟨rfl,?_⟩
       refine RW.gv rfl rfl rfl rfl (fun h18 => V.mv (d := Bo ((itemOf ((talkK code).1) (gP code)).2)) rfl rfl) (fun h18 => ?_) (fun h18 => ?_)
       ·skip
        refine RW.k XK 239 3 rfl ?_
        (conv=>whnf);refine ⟨rfl,?_⟩
        refine RW.nil ?_
        exact ⟨_, by first | rfl | (simp_all; done) | (simp_all; omega) | grind, rfl, Le.of rfl⟩
       ·skip
        refine RW.k XK 239 3 rfl ?_
        (conv=>whnf);refine ⟨rfl,?_⟩
        refine RW.nil ?_
        exact ⟨_, by first | rfl | (simp_all; done) | (simp_all; omega) | grind, rfl, Le.of rfl⟩
      ·intro v17 hv19
       refine CW.ret ?_
       exact Post.one (RV.b rfl (by have h9 := hL.full (ba_ext (eq_of_beq h14)); rw [hv19, h9.2, h9.1]; rfl)) (AOs.r AOs.e)
     ·skip
      have hne : (qA code).2.1 ≠ tFull := by intro h9; rw [h9] at h14; exact absurd (beq_self_eq_true (tFull.toList)) (by rw [show (tFull.toList == tFull.toList) = false from h14]; simp)
      refine CW.skip ?_
      refine CW.keep 239 [3,6,7,8,9] rfl ?_;(conv=>whnf);refine ⟨?_⟩
      refine CW.seq ?_
      refine CW.region ?_
      refine RW.k XK 239 8 rfl ?_
      (conv=>whnf);refine ⟨rfl,?_⟩
      refine RW.call rfl (perfB code hL.oA.okTo) rfl (.cons (.agg (.cons (.r .r) (.cons (.r .r) (.nil)))) (.cons (.one (.r .r)) (.cons (.agg (.cons (.r .r) (.cons (.r .r) (.cons (.r .r) (.cons (.r .r) (.cons (.r .r) (.cons (.r .r) (.nil)))))))) (.nil)))) fun g20 => ?_
      refine RW.k XK 239 6 rfl ?_
      (conv=>whnf);intro b21;(conv=>whnf);refine ⟨rfl,?_⟩
      refine RW.freezeB (ts := (Keep.c ((qB code).1))) 13 rfl (DRd.r (DRd.r DRd.e)) ?_
      refine RW.k XK 239 2 rfl ?_
      (conv=>whnf);refine ⟨rfl,?_⟩
      refine RW.nil ?_
      refine CW.keep 239 [3,6,7,9,13,14] rfl ?_;(conv=>whnf);refine ⟨?_⟩
      refine CW.seq ?_
      refine CW.region ?_
      refine RW.k XK 239 8 rfl ?_
      (conv=>whnf);refine ⟨rfl,?_⟩
      refine RW.call rfl (perfC code hL.oB.okTo) rfl (.cons (.agg (.cons (.r .r) (.cons (.r .r) (.nil)))) (.cons (.one (.r .r)) (.cons (.agg (.cons (.r .r) (.cons (.r .r) (.cons (.r .r) (.cons (.r .r) (.cons (.r .r) (.cons (.r .r) (.nil)))))))) (.nil)))) fun g22 => ?_
      refine RW.k XK 239 6 rfl ?_
      (conv=>whnf);intro b23;(conv=>whnf);refine ⟨rfl,?_⟩
      refine RW.freezeB (ts := (Keep.c ((qC code).1))) 16 rfl (DRd.r (DRd.r DRd.e)) ?_
      refine RW.k XK 239 2 rfl ?_
      (conv=>whnf);refine ⟨rfl,?_⟩
      refine RW.nil ?_
      refine CW.keep 239 [3,6,7,9,14,16,17] rfl ?_;(conv=>whnf);refine ⟨?_⟩
      refine CW.seq ?_
      refine CW.region ?_
      refine RW.k XK 239 8 rfl ?_
      (conv=>whnf);refine ⟨rfl,?_⟩
      refine RW.call rfl (perfD code hL.oC.okTo) rfl (.cons (.agg (.cons (.r .r) (.cons (.r .r) (.nil)))) (.cons (.one (.r .r)) (.cons (.agg (.cons (.r .r) (.cons (.r .r) (.cons (.r .r) (.cons (.r .r) (.cons (.r .r) (.cons (.r .r) (.nil)))))))) (.nil)))) fun g24 => ?_
      refine RW.k XK 239 6 rfl ?_
      (conv=>whnf);intro b25;(conv=>whnf);refine ⟨rfl,?_⟩
      refine RW.freezeB (ts := (Keep.c ((qD code).1))) 19 rfl (DRd.r (DRd.r DRd.e)) ?_
      refine RW.k XK 239 2 rfl ?_
      (conv=>whnf);refine ⟨rfl,?_⟩
      refine RW.nil ?_
      refine CW.keep 239 [3,6,7,9,14,17,19,20] rfl ?_;(conv=>whnf);refine ⟨?_⟩
      refine CW.seq ?_
      refine CW.region ?_
      refine RW.k XK 239 8 rfl ?_
      (conv=>whnf);refine ⟨rfl,?_⟩
      refine RW.call rfl (perfE code hL.oD.okTo) rfl (.cons (.agg (.cons (.r .r) (.cons (.r .r) (.nil)))) (.cons (.one (.r .r)) (.cons (.agg (.cons (.r .r) (.cons (.r .r) (.cons (.r .r) (.cons (.r .r) (.cons (.r .r) (.cons (.r .r) (.nil)))))))) (.nil)))) fun g26 => ?_
      refine RW.k XK 239 6 rfl ?_
      (conv=>whnf);intro b27;(conv=>whnf);refine ⟨rfl,?_⟩
      refine RW.freezeB (ts := (Keep.c ((qE code).1))) 22 rfl (DRd.r (DRd.r DRd.e)) ?_
      refine RW.k XK 239 2 rfl ?_
      (conv=>whnf);refine ⟨rfl,?_⟩
      refine RW.nil ?_
      refine CW.keep 239 [3,7,9,14,17,19,20,22,23] rfl ?_;(conv=>whnf);refine ⟨?_⟩
      refine CW.seq ?_
      refine CW.k XK 239 1 [3,7,9,14,17,19,20,22,23,25] rfl ?_
      (conv=>whnf);refine ⟨rfl,?_⟩
      refine CW.block ?_
      refine CW.loopI 239 (fun (i : Nat) => [(3, .rp (Keep.c ((talkK code).1))), (7, S (gP code)), (9, S ((qA code).2.1)), (14, S ((qB code).2.1)), (17, S ((qC code).2.1)), (19, .rp (Keep.c ((qD code).1))), (20, S ((qD code).2.1)), (22, .rp (Keep.c ((qE code).1))), (23, S ((qE code).2.1)), (25, I (i : Int))]) (fun (i : Nat) => i ≤ (talkK code).1.items.length) (fun (i : Nat) => (talkK code).1.items.length - i) 0 rfl (Le.c rfl <| Le.c rfl <| Le.c rfl <| Le.c rfl <| Le.c rfl <| Le.c rfl <| Le.c rfl <| Le.c rfl <| Le.c rfl <| Le.c rfl <| Le.e) (by omega) ?_
      rintro i hb
      refine CW.seq ?_
      refine CW.k XK 239 1 [3,7,9,14,17,19,20,22,23,25,153] rfl ?_
      (conv=>whnf);refine ⟨rfl,?_⟩
      refine CW.cond rfl (fun h28 => ?_) (fun h28 => ?_)
      ·skip
       have hii : i < (talkK code).1.items.length := by simpa using h28
       obtain ⟨ei, hei⟩ : ∃ e, (talkK code).1.items[i]? = some e := ⟨_, List.getElem?_eq_getElem hii⟩
       refine CW.skip ?_
       refine CW.keep 239 [3,7,9,14,17,19,20,22,23,25] rfl ?_;(conv=>whnf);refine ⟨?_⟩
       refine CW.seq ?_
       refine CW.block ?_
       refine CW.anyJ2 (fc := []) (L0 := [(3, .rp (Keep.c ((talkK code).1))), (7, S (gP code)), (9, S ((qA code).2.1)), (14, S ((qB code).2.1)), (17, S ((qC code).2.1)), (19, .rp (Keep.c ((qD code).1))), (20, S ((qD code).2.1)), (22, .rp (Keep.c ((qE code).1))), (23, S ((qE code).2.1)), (25, I (i : Int))]) 239 (fun (zz : Nat × (Nat → Nat → Value)) => match zz with | (bo29_11_1, go29_7_1) => [(26, .obj bo29_11_1 ((Item.c ((itemOf ((qE code).1) ei.key).1)).map .r)), (27, Bo ((itemOf ((qE code).1) ei.key).2))]) (fun all hall f hf b0 hb K hK => ?_) ?_
       ·skip
        have ro29_13 : ∀ B, ∀ (bo29_11_1 : Nat), ∀ (go29_7_1 : Nat → Nat → Value), RA f E B all 0 (bt 14 16383) ⟨239, [(26, .obj bo29_11_1 ((Item.c ((itemOf ((qE code).1) ei.key).1)).map .r)), (27, Bo ((itemOf ((qE code).1) ei.key).2))] ++ b0⟩ K := by
         intro B bo29_11_1 go29_7_1
         exact RA.of2 hall hf hb (RA.finH (Tell.of rfl) (by kernel_rfl) (hK (bo29_11_1, go29_7_1) _ rfl (Le.of rfl)))
        have ro29_12 : ∀ B, ∀ (bo29_11_1 : Nat), ∀ (go29_7_1 : Nat → Nat → Value), RA f E B all 2 (bt 14 7167) ⟨239, [(26, .obj bo29_11_1 ((Item.c ((itemOf ((qE code).1) ei.key).1)).map .r)), (156, .tup [.u, Bo ((itemOf ((qE code).1) ei.key).2)])] ++ b0⟩ K := by
         intro B bo29_11_1 go29_7_1
         refine RA.of2 hall hf hb (RA.stepH (L := [10]) (Tell.of rfl) (by kernel_rfl) (by simp) (RA.each ?_ (RA.each0)))
         ·skip
          refine RO.extract (d := Bo ((itemOf ((qE code).1) ei.key).2)) rfl rfl rfl rfl rfl (by decide) (Nat.le_of_ble_eq_true rfl) rfl rfl ?_
          refine RA.fr XK 239 0 [13] (bt 14 16383) rfl rfl (by kernel_rfl) (Tell.of rfl) ?_
          (conv=>whnf);refine ⟨rfl,fun B=>?_⟩
          exact RA.to2 hall hf hb (ro29_13 B bo29_11_1 go29_7_1) rfl rfl (by kernel_rfl)
        have ro29_11 : ∀ B, ∀ (bo29_11_1 : Nat), ∀ (go29_7_1 : Nat → Nat → Value), RA f E B all 2 (bt 14 4095) ⟨239, [(26, .obj bo29_11_1 [S (⟨#[]⟩), S (⟨#[]⟩), I 0]), (165, .agg ((Item.c ((itemOf ((qE code).1) ei.key).1)).map .r)), (166, Bo ((itemOf ((qE code).1) ei.key).2))] ++ b0⟩ K := by
         intro B bo29_11_1 go29_7_1
         refine RA.of2 hall hf hb (RA.stepH (L := [12]) (Tell.of rfl) (by kernel_rfl) (by simp) (RA.each ?_ (RA.each0)))
         ·skip
          refine RO.storeAgg (es := ((Item.c ((itemOf ((qE code).1) ei.key).1)).map .r)) rfl rfl rfl rfl rfl rfl rfl rfl rfl rfl (Nat.le_of_ble_eq_true rfl) rfl ?_
          refine RA.fr XK 239 0 [13] (bt 14 16383) rfl rfl (by kernel_rfl) (Tell.of rfl) ?_
          (conv=>whnf);refine ⟨rfl,fun B=>?_⟩
          exact RA.to2 hall hf hb (ro29_13 B bo29_11_1 go29_7_1) rfl rfl (by kernel_rfl)
        have ro29_10 : ∀ B, ∀ (bo29_11_1 : Nat), ∀ (go29_7_1 : Nat → Nat → Value), RA f E B all 3 (bt 14 3583) ⟨239, [(26, .obj bo29_11_1 [S (⟨#[]⟩), S (⟨#[]⟩), I 0]), (156, .tup [.agg ((Item.c ((itemOf ((qE code).1) ei.key).1)).map .r), .u]), (166, Bo ((itemOf ((qE code).1) ei.key).2))] ++ b0⟩ K := by
         intro B bo29_11_1 go29_7_1
         refine RA.of2 hall hf hb (RA.stepH (L := [9]) (Tell.of rfl) (by kernel_rfl) (by simp) (RA.each ?_ (RA.each0)))
         ·skip
          refine RO.extract (d := .agg ((Item.c ((itemOf ((qE code).1) ei.key).1)).map .r)) rfl rfl rfl rfl rfl (by decide) (Nat.le_of_ble_eq_true rfl) rfl rfl ?_
          exact RA.to2 hall hf hb (ro29_11 B bo29_11_1 go29_7_1) rfl rfl (by kernel_rfl)
        have ro29_9 : ∀ B, ∀ (bo29_11_1 : Nat), ∀ (go29_7_1 : Nat → Nat → Value), RA f E B all 3 (bt 14 3071) ⟨239, [(26, .obj bo29_11_1 [S (⟨#[]⟩), S (⟨#[]⟩), I 0]), (156, .tup [.u, Bo ((itemOf ((qE code).1) ei.key).2)]), (165, .agg ((Item.c ((itemOf ((qE code).1) ei.key).1)).map .r))] ++ b0⟩ K := by
         intro B bo29_11_1 go29_7_1
         refine RA.of2 hall hf hb (RA.stepH (L := [10, 12]) (Tell.of rfl) (by kernel_rfl) (by simp) (RA.each ?_ (RA.each ?_ (RA.each0))))
         ·skip
          refine RO.extract (d := Bo ((itemOf ((qE code).1) ei.key).2)) rfl rfl rfl rfl rfl (by decide) (Nat.le_of_ble_eq_true rfl) rfl rfl ?_
          exact RA.to2 hall hf hb (ro29_11 B bo29_11_1 go29_7_1) rfl rfl (by kernel_rfl)
         ·skip
          refine RO.storeAgg (es := ((Item.c ((itemOf ((qE code).1) ei.key).1)).map .r)) rfl rfl rfl rfl rfl rfl rfl rfl rfl rfl (Nat.le_of_ble_eq_true rfl) rfl ?_
          exact RA.to2 hall hf hb (ro29_12 B bo29_11_1 go29_7_1) rfl rfl (by kernel_rfl)
        have ro29_8 : ∀ B, ∀ (go29_7_1 : Nat → Nat → Value), RA f E B all 3 (bt 14 2047) ⟨239, [(165, .agg ((Item.c ((itemOf ((qE code).1) ei.key).1)).map .r)), (166, Bo ((itemOf ((qE code).1) ei.key).2))] ++ b0⟩ K := by
         intro B go29_7_1
         refine RA.of2 hall hf hb (RA.stepH (L := [11]) (Tell.of rfl) (by kernel_rfl) (by simp) (RA.each ?_ (RA.each0)))
         ·skip
          refine RO.alloc (ds := [S (⟨#[]⟩), S (⟨#[]⟩), I 0]) rfl rfl rfl rfl rfl rfl fun bo29_11_1 => ?_
          exact RA.to2 hall hf hb (ro29_11 B bo29_11_1 go29_7_1) rfl rfl (by kernel_rfl)
        have ro29_7 : ∀ B, ∀ (bo29_11_1 : Nat), ∀ (go29_7_1 : Nat → Nat → Value), RA f E B all 4 (bt 14 2559) ⟨239, [(26, .obj bo29_11_1 [S (⟨#[]⟩), S (⟨#[]⟩), I 0]), (156, .tup [.agg ((Item.c ((itemOf ((qE code).1) ei.key).1)).map .r), Bo ((itemOf ((qE code).1) ei.key).2)])] ++ b0⟩ K := by
         intro B bo29_11_1 go29_7_1
         refine RA.of2 hall hf hb (RA.stepH (L := [9, 10]) (Tell.of rfl) (by kernel_rfl) (by simp) (RA.each ?_ (RA.each ?_ (RA.each0))))
         ·skip
          refine RO.extract (d := .agg ((Item.c ((itemOf ((qE code).1) ei.key).1)).map .r)) rfl rfl rfl rfl rfl (by decide) (Nat.le_of_ble_eq_true rfl) rfl rfl ?_
          exact RA.to2 hall hf hb (ro29_9 B bo29_11_1 go29_7_1) rfl rfl (by kernel_rfl)
         ·skip
          refine RO.extract (d := Bo ((itemOf ((qE code).1) ei.key).2)) rfl rfl rfl rfl rfl (by decide) (Nat.le_of_ble_eq_true rfl) rfl rfl ?_
          exact RA.to2 hall hf hb (ro29_10 B bo29_11_1 go29_7_1) rfl rfl (by kernel_rfl)
        have ro29_6 : ∀ B, ∀ (go29_7_1 : Nat → Nat → Value), RA f E B all 4 (bt 14 1535) ⟨239, [(156, .tup [.agg ((Item.c ((itemOf ((qE code).1) ei.key).1)).map .r), .u]), (166, Bo ((itemOf ((qE code).1) ei.key).2))] ++ b0⟩ K := by
         intro B go29_7_1
         refine RA.of2 hall hf hb (RA.stepH (L := [9, 11]) (Tell.of rfl) (by kernel_rfl) (by simp) (RA.each ?_ (RA.each ?_ (RA.each0))))
         ·skip
          refine RO.extract (d := .agg ((Item.c ((itemOf ((qE code).1) ei.key).1)).map .r)) rfl rfl rfl rfl rfl (by decide) (Nat.le_of_ble_eq_true rfl) rfl rfl ?_
          exact RA.to2 hall hf hb (ro29_8 B go29_7_1) rfl rfl (by kernel_rfl)
         ·skip
          refine RO.alloc (ds := [S (⟨#[]⟩), S (⟨#[]⟩), I 0]) rfl rfl rfl rfl rfl rfl fun bo29_11_1 => ?_
          exact RA.to2 hall hf hb (ro29_10 B bo29_11_1 go29_7_1) rfl rfl (by kernel_rfl)
        have ro29_5 : ∀ B, ∀ (go29_7_1 : Nat → Nat → Value), RA f E B all 4 (bt 14 1023) ⟨239, [(156, .tup [.u, Bo ((itemOf ((qE code).1) ei.key).2)]), (165, .agg ((Item.c ((itemOf ((qE code).1) ei.key).1)).map .r))] ++ b0⟩ K := by
         intro B go29_7_1
         refine RA.of2 hall hf hb (RA.stepH (L := [10, 11]) (Tell.of rfl) (by kernel_rfl) (by simp) (RA.each ?_ (RA.each ?_ (RA.each0))))
         ·skip
          refine RO.extract (d := Bo ((itemOf ((qE code).1) ei.key).2)) rfl rfl rfl rfl rfl (by decide) (Nat.le_of_ble_eq_true rfl) rfl rfl ?_
          exact RA.to2 hall hf hb (ro29_8 B go29_7_1) rfl rfl (by kernel_rfl)
         ·skip
          refine RO.alloc (ds := [S (⟨#[]⟩), S (⟨#[]⟩), I 0]) rfl rfl rfl rfl rfl rfl fun bo29_11_1 => ?_
          exact RA.to2 hall hf hb (ro29_9 B bo29_11_1 go29_7_1) rfl rfl (by kernel_rfl)
        have ro29_4 : ∀ B, ∀ (bo29_11_1 : Nat), ∀ (go29_7_1 : Nat → Nat → Value), RA f E B all 5 (bt 14 2303) ⟨239, [(26, .obj bo29_11_1 [S (⟨#[]⟩), S (⟨#[]⟩), I 0]), (164, .tup [.agg ((Item.c ((itemOf ((qE code).1) ei.key).1)).map .r), Bo ((itemOf ((qE code).1) ei.key).2)])] ++ b0⟩ K := by
         intro B bo29_11_1 go29_7_1
         refine RA.of2 hall hf hb (RA.stepH (L := [8]) (Tell.of rfl) (by kernel_rfl) (by simp) (RA.each ?_ (RA.each0)))
         ·skip
          refine RO.moveMove rfl rfl rfl rfl rfl (by decide) (Nat.le_of_ble_eq_true rfl) (Nat.le_of_ble_eq_true rfl) ?_
          exact RA.to2 hall hf hb (ro29_7 B bo29_11_1 go29_7_1) rfl rfl (by kernel_rfl)
        have ro29_3 : ∀ B, ∀ (go29_7_1 : Nat → Nat → Value), RA f E B all 5 (bt 14 511) ⟨239, [(156, .tup [.agg ((Item.c ((itemOf ((qE code).1) ei.key).1)).map .r), Bo ((itemOf ((qE code).1) ei.key).2)])] ++ b0⟩ K := by
         intro B go29_7_1
         refine RA.of2 hall hf hb (RA.stepH (L := [9, 10, 11]) (Tell.of rfl) (by kernel_rfl) (by simp) (RA.each ?_ (RA.each ?_ (RA.each ?_ (RA.each0)))))
         ·skip
          refine RO.extract (d := .agg ((Item.c ((itemOf ((qE code).1) ei.key).1)).map .r)) rfl rfl rfl rfl rfl (by decide) (Nat.le_of_ble_eq_true rfl) rfl rfl ?_
          exact RA.to2 hall hf hb (ro29_5 B go29_7_1) rfl rfl (by kernel_rfl)
         ·skip
          refine RO.extract (d := Bo ((itemOf ((qE code).1) ei.key).2)) rfl rfl rfl rfl rfl (by decide) (Nat.le_of_ble_eq_true rfl) rfl rfl ?_
          exact RA.to2 hall hf hb (ro29_6 B go29_7_1) rfl rfl (by kernel_rfl)
         ·skip
          refine RO.alloc (ds := [S (⟨#[]⟩), S (⟨#[]⟩), I 0]) rfl rfl rfl rfl rfl rfl fun bo29_11_1 => ?_
          exact RA.to2 hall hf hb (ro29_7 B bo29_11_1 go29_7_1) rfl rfl (by kernel_rfl)
        have ro29_2 : ∀ B, ∀ (bo29_11_1 : Nat), RA f E B all 6 (bt 14 2175) ⟨239, [(26, .obj bo29_11_1 [S (⟨#[]⟩), S (⟨#[]⟩), I 0]), (157, .agg ((Keep.c ((qE code).1)).map .r)), (163, S ei.key)] ++ b0⟩ K := by
         intro B bo29_11_1
         refine RA.of2 hall hf hb (RA.stepH (L := [7]) (Tell.of rfl) (by kernel_rfl) (by simp) (RA.each ?_ (RA.each0)))
         ·skip
          refine RO.call rfl rfl (impl_ItemOf_fn ((qE code).1) ei.key hL.oE.okTo) rfl (.cons (.agg (.cons (.r .r) (.cons (.r .r) (.nil)))) (.cons (.one (.r .r)) (.nil))) rfl fun go29_7_1 => ?_
          exact RA.to2 hall hf hb (ro29_4 B bo29_11_1 go29_7_1) rfl rfl (by kernel_rfl)
        have ro29_1 : ∀ B, ∀ (go29_7_1 : Nat → Nat → Value), RA f E B all 6 (bt 14 255) ⟨239, [(164, .tup [.agg ((Item.c ((itemOf ((qE code).1) ei.key).1)).map .r), Bo ((itemOf ((qE code).1) ei.key).2)])] ++ b0⟩ K := by
         intro B go29_7_1
         refine RA.of2 hall hf hb (RA.stepH (L := [8, 11]) (Tell.of rfl) (by kernel_rfl) (by simp) (RA.each ?_ (RA.each ?_ (RA.each0))))
         ·skip
          refine RO.moveMove rfl rfl rfl rfl rfl (by decide) (Nat.le_of_ble_eq_true rfl) (Nat.le_of_ble_eq_true rfl) ?_
          exact RA.to2 hall hf hb (ro29_3 B go29_7_1) rfl rfl (by kernel_rfl)
         ·skip
          refine RO.alloc (ds := [S (⟨#[]⟩), S (⟨#[]⟩), I 0]) rfl rfl rfl rfl rfl rfl fun bo29_11_1 => ?_
          exact RA.to2 hall hf hb (ro29_4 B bo29_11_1 go29_7_1) rfl rfl (by kernel_rfl)
        have ro29_0 : ∀ B, RA f E B all 7 (bt 14 127) ⟨239, [(157, .agg ((Keep.c ((qE code).1)).map .r)), (163, S ei.key)] ++ b0⟩ K := by
         intro B
         refine RA.of2 hall hf hb (RA.stepH (L := [7, 11]) (Tell.of rfl) (by kernel_rfl) (by simp) (RA.each ?_ (RA.each ?_ (RA.each0))))
         ·skip
          refine RO.call rfl rfl (impl_ItemOf_fn ((qE code).1) ei.key hL.oE.okTo) rfl (.cons (.agg (.cons (.r .r) (.cons (.r .r) (.nil)))) (.cons (.one (.r .r)) (.nil))) rfl fun go29_7_1 => ?_
          exact RA.to2 hall hf hb (ro29_1 B go29_7_1) rfl rfl (by kernel_rfl)
         ·skip
          refine RO.alloc (ds := [S (⟨#[]⟩), S (⟨#[]⟩), I 0]) rfl rfl rfl rfl rfl rfl fun bo29_11_1 => ?_
          exact RA.to2 hall hf hb (ro29_2 B bo29_11_1) rfl rfl (by kernel_rfl)
        refine RA.start (by kernel_rfl) (by kernel_rfl) (m := 14) (ls' := (bt 14 0)) ?_
        refine RA.fr XK 239 10 [0,1,2,3] (bt 14 15) rfl rfl (by kernel_rfl) (Tell.of rfl) ?_
        (conv=>whnf);refine ⟨rfl,fun B=>?_⟩
        refine RA.first (i := 4) (ls' := (bt 14 31)) (Tell.of rfl) (by kernel_rfl) rfl rfl rfl (VF.p (V.indexS rfl rfl rfl rfl rfl rfl Item.len hei)) ?_
        refine RA.fr XK 239 7 [5,6] (bt 14 127) rfl rfl (by kernel_rfl) (Tell.of rfl) ?_
        (conv=>whnf);refine ⟨rfl,fun B=>?_⟩
        exact RA.to2 hall hf hb (ro29_0 B) rfl rfl (by kernel_rfl)
       ·rintro ⟨bo29_11_1, go29_7_1⟩
        refine CW.seqJ 239 (fun (v30 : Bool) => [(3, .rp (Keep.c ((talkK code).1))), (7, S (gP code)), (9, S ((qA code).2.1)), (14, S ((qB code).2.1)), (17, S ((qC code).2.1)), (19, .rp (Keep.c ((qD code).1))), (20, S ((qD code).2.1)), (22, .rp (Keep.c ((qE code).1))), (23, S ((qE code).2.1)), (25, I (i : Int)), (187, Bo v30)]) (fun v30 => v30 = ((!(ei.key.toList == (gP code).toList)) && ((!((itemOf ((qE code).1) ei.key).2)) || (!eqItem ((itemOf ((qE code).1) ei.key).1) ei)))) ?_ ?_
        ·refine CW.drawn (by kernel_rfl) ?_
         refine RQ.k XK 239 3 rfl ?_
         (conv=>whnf);refine ⟨rfl,?_⟩
         refine RQ.v rfl (V.indexS rfl rfl rfl rfl rfl rfl Item.len hei) ?_
         refine RQ.k XK 239 5 rfl ?_
         (conv=>whnf);refine ⟨rfl,?_⟩
         refine RQ.gv rfl rfl rfl rfl (fun h31 => V.mv (d := Bo ((itemOf ((qE code).1) ei.key).2)) rfl rfl) (fun h31 => ?_) (fun h31 => ?_)
         ·skip
          refine RQ.k XK 239 2 rfl ?_
          (conv=>whnf);refine ⟨rfl,?_⟩
          refine RQ.gv rfl rfl rfl rfl (fun h32 => V.loadAgg rfl rfl rfl rfl rfl (Nat.le_of_ble_eq_true rfl)) (fun h32 => ?_) (fun h32 => ?_)
          ·skip
           refine RQ.k XK 239 3 rfl ?_
           (conv=>whnf);refine ⟨rfl,?_⟩
           refine RQ.gt rfl rfl rfl rfl (V.indexS rfl rfl rfl rfl rfl rfl Item.len hei) ?_
           refine RQ.k XK 239 1 rfl ?_
           (conv=>whnf);refine ⟨rfl,?_⟩
           refine RQ.gt rfl rfl rfl rfl (V.eqAgg (xs := Item.vs ((itemOf ((qE code).1) ei.key).1)) (ys := Item.vs ei) rfl rfl rfl (by kernel_rfl) (eq42 ((itemOf ((qE code).1) ei.key).1) ei) (.inr ⟨rfl, rfl⟩)) ?_
           refine RQ.k XK 239 2 rfl ?_
           (conv=>whnf);refine ⟨rfl,?_⟩
           refine RQ.nil ?_
           exact ⟨_, by first | rfl | (simp_all; done) | (simp_all; omega) | grind, rfl, Le.of rfl⟩
          ·skip
           refine RQ.k XK 239 8 rfl ?_
           (conv=>whnf);refine ⟨rfl,?_⟩
           refine RQ.nil ?_
           exact ⟨_, by first | rfl | (simp_all; done) | (simp_all; omega) | grind, rfl, Le.of rfl⟩
         ·skip
          refine RQ.k XK 239 11 rfl ?_
          (conv=>whnf);refine ⟨rfl,?_⟩
          refine RQ.nil ?_
          exact ⟨_, by first | rfl | (simp_all; done) | (simp_all; omega) | grind, rfl, Le.of rfl⟩
        ·intro v30 hv33
         refine CW.cond rfl (fun h34 => ?_) (fun h34 => ?_)
         ·skip
          refine CW.k XK 239 1 [2] rfl ?_
          (conv=>whnf);refine ⟨rfl,?_⟩
          refine CW.ret ?_
          exact Post.one (RV.b rfl (by exact (pg_stay (hL.stay hne i ei hei) (hv33.symm.trans h34)).elim)) (AOs.r AOs.e)
         ·skip
          refine CW.skip ?_
          refine CW.keep 239 [3,7,9,14,17,19,20,22,23,25] rfl ?_;(conv=>whnf);refine ⟨?_⟩
          refine CW.region ?_
          refine RW.k XK 239 1 rfl ?_
          (conv=>whnf);refine ⟨rfl,?_⟩
          refine RW.v rfl (V.inc rfl rfl rfl hii (by have h9 := hK.il; simp only [maxLen]; omega)) ?_
          refine RW.k XK 239 1 rfl ?_
          (conv=>whnf);refine ⟨rfl,?_⟩
          refine RW.nil ?_
          exact ⟨i + 1, by omega, (by omega), rfl, Le.c rfl <| Le.c rfl <| Le.c rfl <| Le.c rfl <| Le.c rfl <| Le.c rfl <| Le.c rfl <| Le.c rfl <| Le.c rfl <| Le.c rfl <| Le.e⟩
      ·skip
       refine CW.exit ?_
       refine CW.keep 239 [7,9,14,17,19,20,22,23] rfl ?_;(conv=>whnf);refine ⟨?_⟩
       refine CW.seq ?_
       refine CW.region ?_
       refine RW.k XK 239 2 rfl ?_
       (conv=>whnf);refine ⟨rfl,?_⟩
       refine RW.call rfl (impl_ItemOf_fn ((qD code).1) (gP code) hL.oD.okTo) rfl (.cons (.agg (.cons (.r .r) (.cons (.r .r) (.nil)))) (.cons (.one (.r .r)) (.nil))) fun g35 => ?_
       refine RW.k XK 239 5 rfl ?_
       (conv=>whnf);intro b36;(conv=>whnf);refine ⟨rfl,?_⟩
       refine RW.freezeB (ts := (Item.c ((itemOf ((qD code).1) (gP code)).1))) 28 rfl (DRd.r (DRd.r (DRd.r DRd.e))) ?_
       refine RW.k XK 239 1 rfl ?_
       (conv=>whnf);refine ⟨rfl,?_⟩
       refine RW.nil ?_
       refine CW.keep 239 [7,9,14,17,20,22,23,28] rfl ?_;(conv=>whnf);refine ⟨?_⟩
       refine CW.seq ?_
       refine CW.region ?_
       refine RW.k XK 239 2 rfl ?_
       (conv=>whnf);refine ⟨rfl,?_⟩
       refine RW.call rfl (impl_ItemOf_fn ((qE code).1) (gP code) hL.oE.okTo) rfl (.cons (.agg (.cons (.r .r) (.cons (.r .r) (.nil)))) (.cons (.one (.r .r)) (.nil))) fun g37 => ?_
       refine RW.k XK 239 5 rfl ?_
       (conv=>whnf);intro b38;(conv=>whnf);refine ⟨rfl,?_⟩
       refine RW.freezeB (ts := (Item.c ((itemOf ((qE code).1) (gP code)).1))) 30 rfl (DRd.r (DRd.r (DRd.r DRd.e))) ?_
       refine RW.k XK 239 1 rfl ?_
       (conv=>whnf);refine ⟨rfl,?_⟩
       refine RW.nil ?_
       refine CW.keep 239 [9,14,17,20,23,28,31] rfl ?_;(conv=>whnf);refine ⟨?_⟩
       refine CW.seq ?_
       refine CW.region ?_
       refine RW.call rfl (impl_KeepNew_fn ) rfl (.nil) fun g39 => ?_
       refine RW.k XK 239 2 rfl ?_
       (conv=>whnf);intro b40;(conv=>whnf);refine ⟨rfl,?_⟩
       refine RW.keep 239 [9,14,17,20,23,28,31,32,200] rfl ?_;(conv=>whnf);refine ⟨?_⟩
       refine RW.pullA (k := 32) (l := 200) (j := 0) 32 200 0 rfl rfl rfl (by decide) rfl rfl rfl rfl ?_
       refine RW.keep 239 [9,14,17,20,23,28,31,32,200] rfl ?_;(conv=>whnf);refine ⟨?_⟩
       refine RW.pullA (k := 32) (l := 200) (j := 1) 32 200 1 rfl rfl rfl (by decide) rfl rfl rfl rfl ?_
       refine RW.keep 239 [9,14,17,20,23,28,31,32] rfl ?_;(conv=>whnf);refine ⟨?_⟩
       refine RW.nil ?_
       refine CW.keep 239 [9,14,17,20,23,28,31,32] rfl ?_;(conv=>whnf);refine ⟨?_⟩
       refine CW.seqJ 239 (fun (v41 : Bool) => [(2, Bo v41)]) (fun v41 => v41 = (((((((((((qA code).2.1).toList == (⟨#[112, 117, 116, 32, 55, 48]⟩ : ByteArray).toList) && (((qB code).2.1).toList == (⟨#[105, 115, 32, 55, 48, 32, 118, 97, 108]⟩ : ByteArray).toList)) && (((qC code).2.1).toList == (⟨#[110, 111, 116, 32, 55, 48]⟩ : ByteArray).toList)) && (((qD code).2.1).toList == (⟨#[112, 117, 116, 32, 55, 51]⟩ : ByteArray).toList)) && ((((itemOf ((qD code).1) (gP code)).1).val).toList == (⟨#[121]⟩ : ByteArray).toList)) && (((itemOf ((qD code).1) (gP code)).1).ver == 73)) && (((qE code).2.1).toList == (⟨#[100, 114, 111, 112]⟩ : ByteArray).toList)) && (!((itemOf ((qE code).1) (gP code)).2))) && ((keepNew.items.length : Int) == 1))) ?_ ?_
       ·refine CW.region ?_
        refine RW.k XK 239 3 rfl ?_
        (conv=>whnf);refine ⟨rfl,?_⟩
        refine RW.gv rfl rfl rfl rfl (fun h42 => V.mv (d := S ((qB code).2.1)) rfl rfl) (fun h42 => ?_) (fun h42 => ?_)
        ·skip
         refine RW.k XK 239 3 rfl ?_
         (conv=>whnf);refine ⟨rfl,?_⟩
         refine RW.gv rfl rfl rfl rfl (fun h43 => V.mv (d := S ((qC code).2.1)) rfl rfl) (fun h43 => ?_) (fun h43 => ?_)
         ·skip
          refine RW.k XK 239 3 rfl ?_
          (conv=>whnf);refine ⟨rfl,?_⟩
          refine RW.gv rfl rfl rfl rfl (fun h44 => V.mv (d := S ((qD code).2.1)) rfl rfl) (fun h44 => ?_) (fun h44 => ?_)
          ·skip
           refine RW.k XK 239 3 rfl ?_
           (conv=>whnf);refine ⟨rfl,?_⟩
           refine RW.gv rfl rfl rfl rfl (fun h45 => V.fieldR rfl rfl rfl rfl (by decide) rfl (Nat.le_of_ble_eq_true rfl)) (fun h45 => ?_) (fun h45 => ?_)
           ·skip
            refine RW.k XK 239 4 rfl ?_
            (conv=>whnf);refine ⟨rfl,?_⟩
            refine RW.gv rfl rfl rfl rfl (fun h46 => V.fieldR rfl rfl rfl rfl (by decide) rfl (Nat.le_of_ble_eq_true rfl)) (fun h46 => ?_) (fun h46 => ?_)
            ·skip
             refine RW.k XK 239 4 rfl ?_
             (conv=>whnf);refine ⟨rfl,?_⟩
             refine RW.gv rfl rfl rfl rfl (fun h47 => V.mv (d := S ((qE code).2.1)) rfl rfl) (fun h47 => ?_) (fun h47 => ?_)
             ·skip
              refine RW.k XK 239 3 rfl ?_
              (conv=>whnf);refine ⟨rfl,?_⟩
              refine RW.gv rfl rfl rfl rfl (fun h48 => V.mv (d := Bo ((itemOf ((qE code).1) (gP code)).2)) rfl rfl) (fun h48 => ?_) (fun h48 => ?_)
              ·skip
               refine RW.k XK 239 3 rfl ?_
               (conv=>whnf);refine ⟨rfl,?_⟩
               refine RW.gv rfl rfl rfl rfl (fun h49 => V.field rfl rfl rfl rfl (by decide) rfl) (fun h49 => ?_) (fun h49 => ?_)
               ·skip
                refine RW.k XK 239 5 rfl ?_
                (conv=>whnf);refine ⟨rfl,?_⟩
                refine RW.nil ?_
                exact ⟨_, by first | rfl | (simp_all; done) | (simp_all; omega) | grind, rfl, Le.of rfl⟩
               ·skip
                refine RW.k XK 239 5 rfl ?_
                (conv=>whnf);refine ⟨rfl,?_⟩
                refine RW.nil ?_
                exact ⟨_, by first | rfl | (simp_all; done) | (simp_all; omega) | grind, rfl, Le.of rfl⟩
              ·skip
               refine RW.k XK 239 9 rfl ?_
               (conv=>whnf);refine ⟨rfl,?_⟩
               refine RW.nil ?_
               exact ⟨_, by first | rfl | (simp_all; done) | (simp_all; omega) | grind, rfl, Le.of rfl⟩
             ·skip
              refine RW.k XK 239 13 rfl ?_
              (conv=>whnf);refine ⟨rfl,?_⟩
              refine RW.nil ?_
              exact ⟨_, by first | rfl | (simp_all; done) | (simp_all; omega) | grind, rfl, Le.of rfl⟩
            ·skip
             refine RW.k XK 239 18 rfl ?_
             (conv=>whnf);refine ⟨rfl,?_⟩
             refine RW.nil ?_
             exact ⟨_, by first | rfl | (simp_all; done) | (simp_all; omega) | grind, rfl, Le.of rfl⟩
           ·skip
            refine RW.k XK 239 23 rfl ?_
            (conv=>whnf);refine ⟨rfl,?_⟩
            refine RW.nil ?_
            exact ⟨_, by first | rfl | (simp_all; done) | (simp_all; omega) | grind, rfl, Le.of rfl⟩
          ·skip
           refine RW.k XK 239 27 rfl ?_
           (conv=>whnf);refine ⟨rfl,?_⟩
           refine RW.nil ?_
           exact ⟨_, by first | rfl | (simp_all; done) | (simp_all; omega) | grind, rfl, Le.of rfl⟩
         ·skip
          refine RW.k XK 239 31 rfl ?_
          (conv=>whnf);refine ⟨rfl,?_⟩
          refine RW.nil ?_
          exact ⟨_, by first | rfl | (simp_all; done) | (simp_all; omega) | grind, rfl, Le.of rfl⟩
        ·skip
         refine RW.k XK 239 35 rfl ?_
         (conv=>whnf);refine ⟨rfl,?_⟩
         refine RW.nil ?_
         exact ⟨_, by first | rfl | (simp_all; done) | (simp_all; omega) | grind, rfl, Le.of rfl⟩
       ·intro v41 hv50
        refine CW.ret ?_
        exact Post.one (RV.b rfl (by rw [hv50]; exact pg_end hM hne)) (AOs.r AOs.e)
end Go.Proofs.YtaeagpakloggfaaDoor.Y
