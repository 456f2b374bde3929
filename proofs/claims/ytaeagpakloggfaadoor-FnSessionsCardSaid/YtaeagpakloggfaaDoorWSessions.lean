import Derived.Test.YtaeagpakloggfaaDoorWSessionsD
namespace Go.Proofs.YtaeagpakloggfaaDoor.Y
open Go Go.RowKit Go.Eng Go.Proofs
set_option maxRecDepth 10000
set_option maxHeartbeats 4000000 in
theorem spec_l15Keep_fn (c : l01Cur) (size : Int) (hc : curOk c) (hs : size ≤ 40) : Eng.Fn E.P 44 [.ob ((l01Cur.c c).map .r), .one (.r (.v (.int .i64 size)))] (.one (.agg ((Keep.c ((keepN c size).1)).map .r))) [.ob ((l01Cur.c ((keepN c size).2)).map .r), .one (.r (.v (.int .i64 size)))] := by
 refine Eng.Fn.intro (E := E) (rvs := [.cell 4 31]) Tryd.func44 rfl rfl rfl (by simp [outSlots, moved, rvSlot, sl]) ?_
 intro B g bo
 refine CW.keep 40 [0,1] rfl ?_;(conv=>whnf);refine ⟨?_⟩
 refine CW.k XK 40 1 [0,1,4] rfl ?_
 (conv=>whnf);intro b1;(conv=>whnf);refine ⟨rfl,?_⟩
 refine CW.seq ?_
 refine CW.region ?_
 refine RW.call rfl (spec_KeepNew_fn ) rfl (.nil) fun g2 => ?_
 refine RW.k XK 40 1 rfl ?_
 (conv=>whnf);refine ⟨rfl,?_⟩
 refine RW.freeze 13 (d' := .agg ((Keep.c keepNew).map .r)) rfl rfl ?_
 refine RW.call rfl (spec_Perform_fn keepNew 1 (⟨1, 0, 0, ⟨#[]⟩, ⟨#[]⟩, 0⟩ : Command) keepNew_ok.okTo) rfl (.cons (.agg (.cons (.r .r) (.cons (.r .r) (.nil)))) (.cons (.one (.r .r)) (.cons (.agg (.cons (.r .r) (.cons (.r .r) (.cons (.r .r) (.cons (.r .r) (.cons (.r .r) (.cons (.r .r) (.nil)))))))) (.nil)))) fun g3 => ?_
 refine RW.k XK 40 8 rfl ?_
 (conv=>whnf);intro b4;(conv=>whnf);refine ⟨rfl,?_⟩
 refine RW.nil ?_
 refine CW.keep 40 [0,1,4,5] rfl ?_;(conv=>whnf);refine ⟨?_⟩
 refine CW.seq ?_
 refine CW.k XK 40 1 [0,1,4,5,8] rfl ?_
 (conv=>whnf);refine ⟨rfl,?_⟩
 refine CW.block ?_
 refine CW.loopI 40 (fun (zz : Nat × l01Cur × Keep) => match zz with | (i, d, k) => [(0, .obj (bo 0) ((l01Cur.c d).map .r)), (1, I size), (4, .obj b1 [.r (.v (.slice none 0 0)), .r (.v (.slice none 0 0))]), (5, .obj b4 ((Keep.c k).map .r)), (8, I (i : Int))]) (fun (zz : Nat × l01Cur × Keep) => match zz with | (i, d, k) => KeP c size i d k) (fun (zz : Nat × l01Cur × Keep) => match zz with | (i, d, k) => size.toNat - i) (0, _, _) rfl (Le.c rfl <| Le.c rfl <| Le.c rfl <| Le.c rfl <| Le.c rfl <| Le.e) (KeP.init hc) ?_
 rintro ⟨i, d, k⟩ hP
 refine CW.seq ?_
 refine CW.seq ?_
 refine CW.region ?_
 refine RW.k XK 40 3 rfl ?_
 (conv=>whnf);refine ⟨rfl,?_⟩
 refine RW.callP (k := 0) (spec_l01Below_fn d size hP.hc) rfl rfl (Nat.le_of_ble_eq_true rfl) (by decide) rfl (DT.r (DT.r (DT.r DT.e))) (AsPs.here rfl (.cons (.one (.r .r)) (.nil))) fun g5 q6 => ?_
 refine RW.k XK 40 1 rfl ?_
 (conv=>whnf);refine ⟨rfl,?_⟩
 refine RW.nil ?_
 refine CW.keep 40 [0,1,4,5,8,23] rfl ?_;(conv=>whnf);refine ⟨?_⟩
 refine CW.cond rfl (fun h7 => ?_) (fun h7 => ?_)
 ·skip
  have hlt := of_decide_eq_true h7
  refine CW.skip ?_
  refine CW.keep 40 [0,1,4,5,8] rfl ?_;(conv=>whnf);refine ⟨?_⟩
  refine CW.seq ?_
  refine CW.block ?_
  refine CW.anyJ2 (fc := [(4, b1, [.slice none 0 0, .slice none 0 0])]) (L0 := [(1, I size), (4, .obj b1 [.r (.v (.slice none 0 0)), .r (.v (.slice none 0 0))]), (5, .obj b4 ((Keep.c k).map .r)), (8, I (i : Int))]) 40 (fun (zz : Nat × (Nat → Nat → Value) × (Nat → Nat → Value) × (Nat → Value)) => match zz with | (bo8_11_1, go8_5_1, go8_6_1, qo8_5_2) => [(0, .obj (bo 0) ((l01Cur.c ((commandN ((belowN d size).2) k).2)).map .r)), (9, .obj bo8_11_1 ((Keep.c ((perfK k (IntKind.i64.wrap ((i : Int) + 2)) ((commandN ((belowN d size).2) k).1)).1)).map .r)), (11, Bo ((perfK k (IntKind.i64.wrap ((i : Int) + 2)) ((commandN ((belowN d size).2) k).1)).2.2))]) (fun all hall f hf b0 hb K hK => ?_) ?_
  ·skip
   have ro8_33 : ∀ B, ∀ (bo8_11_1 : Nat), ∀ (go8_5_1 : Nat → Nat → Value), ∀ (go8_6_1 : Nat → Nat → Value), ∀ (qo8_5_2 : Nat → Value), RA f E B all 0 (bt 15 32767) ⟨40, [(0, .obj (bo 0) ((l01Cur.c ((commandN ((belowN d size).2) k).2)).map .r)), (9, .obj bo8_11_1 ((Keep.c ((perfK k (IntKind.i64.wrap ((i : Int) + 2)) ((commandN ((belowN d size).2) k).1)).1)).map .r)), (11, Bo ((perfK k (IntKind.i64.wrap ((i : Int) + 2)) ((commandN ((belowN d size).2) k).1)).2.2))] ++ b0⟩ K := by
    intro B bo8_11_1 go8_5_1 go8_6_1 qo8_5_2
    exact RA.of2 hall hf hb (RA.finH (Tell.of rfl) (by kernel_rfl) (hK (bo8_11_1, go8_5_1, go8_6_1, qo8_5_2) _ rfl (Le.of rfl)))
   have ro8_32 : ∀ B, ∀ (bo8_11_1 : Nat), ∀ (go8_5_1 : Nat → Nat → Value), ∀ (go8_6_1 : Nat → Nat → Value), ∀ (qo8_5_2 : Nat → Value), RA f E B all 2 (bt 15 15359) ⟨40, [(0, .obj (bo 0) ((l01Cur.c ((commandN ((belowN d size).2) k).2)).map .r)), (9, .obj bo8_11_1 ((Keep.c ((perfK k (IntKind.i64.wrap ((i : Int) + 2)) ((commandN ((belowN d size).2) k).1)).1)).map .r)), (26, .tup [.u, .u, Bo ((perfK k (IntKind.i64.wrap ((i : Int) + 2)) ((commandN ((belowN d size).2) k).1)).2.2)])] ++ b0⟩ K := by
    intro B bo8_11_1 go8_5_1 go8_6_1 qo8_5_2
    refine RA.of2 hall hf hb (RA.stepH (L := [10]) (Tell.of rfl) (by kernel_rfl) (by simp) (RA.each ?_ (RA.each0)))
    ·skip
     refine RO.extract (d := Bo ((perfK k (IntKind.i64.wrap ((i : Int) + 2)) ((commandN ((belowN d size).2) k).1)).2.2)) rfl rfl rfl rfl rfl (by decide) (Nat.le_of_ble_eq_true rfl) rfl rfl ?_
     refine RA.fr XK 40 0 [14] (bt 15 32767) rfl rfl (by kernel_rfl) (Tell.of rfl) ?_
     (conv=>whnf);refine ⟨rfl,fun B=>?_⟩
     exact RA.to2 hall hf hb (ro8_33 B bo8_11_1 go8_5_1 go8_6_1 qo8_5_2) rfl rfl (by kernel_rfl)
   have ro8_31 : ∀ B, ∀ (bo8_11_1 : Nat), ∀ (go8_5_1 : Nat → Nat → Value), ∀ (go8_6_1 : Nat → Nat → Value), ∀ (qo8_5_2 : Nat → Value), RA f E B all 3 (bt 15 7679) ⟨40, [(0, .obj (bo 0) ((l01Cur.c ((commandN ((belowN d size).2) k).2)).map .r)), (9, .obj bo8_11_1 ((Keep.c ((perfK k (IntKind.i64.wrap ((i : Int) + 2)) ((commandN ((belowN d size).2) k).1)).1)).map .r)), (26, .tup [.u, S ((perfK k (IntKind.i64.wrap ((i : Int) + 2)) ((commandN ((belowN d size).2) k).1)).2.1), .u]), (36, Bo ((perfK k (IntKind.i64.wrap ((i : Int) + 2)) ((commandN ((belowN d size).2) k).1)).2.2))] ++ b0⟩ K := by
    intro B bo8_11_1 go8_5_1 go8_6_1 qo8_5_2
    refine RA.of2 hall hf hb (RA.stepH (L := [9]) (Tell.of rfl) (by kernel_rfl) (by simp) (RA.each ?_ (RA.each0)))
    ·skip
     refine RO.extract (d := S ((perfK k (IntKind.i64.wrap ((i : Int) + 2)) ((commandN ((belowN d size).2) k).1)).2.1)) rfl rfl rfl rfl rfl (by decide) (Nat.le_of_ble_eq_true rfl) rfl rfl ?_
     refine RA.fr XK 40 0 [13,14] (bt 15 32767) rfl rfl (by kernel_rfl) (Tell.of rfl) ?_
     (conv=>whnf);refine ⟨rfl,fun B=>?_⟩
     exact RA.to2 hall hf hb (ro8_33 B bo8_11_1 go8_5_1 go8_6_1 qo8_5_2) rfl rfl (by kernel_rfl)
   have ro8_30 : ∀ B, ∀ (bo8_11_1 : Nat), ∀ (go8_5_1 : Nat → Nat → Value), ∀ (go8_6_1 : Nat → Nat → Value), ∀ (qo8_5_2 : Nat → Value), RA f E B all 3 (bt 15 4095) ⟨40, [(0, .obj (bo 0) ((l01Cur.c ((commandN ((belowN d size).2) k).2)).map .r)), (9, .obj bo8_11_1 [.r (.v (.slice none 0 0)), .r (.v (.slice none 0 0))]), (34, .agg ((Keep.c ((perfK k (IntKind.i64.wrap ((i : Int) + 2)) ((commandN ((belowN d size).2) k).1)).1)).map .r)), (35, S ((perfK k (IntKind.i64.wrap ((i : Int) + 2)) ((commandN ((belowN d size).2) k).1)).2.1)), (36, Bo ((perfK k (IntKind.i64.wrap ((i : Int) + 2)) ((commandN ((belowN d size).2) k).1)).2.2))] ++ b0⟩ K := by
    intro B bo8_11_1 go8_5_1 go8_6_1 qo8_5_2
    refine RA.of2 hall hf hb (RA.stepH (L := [12]) (Tell.of rfl) (by kernel_rfl) (by simp) (RA.each ?_ (RA.each0)))
    ·skip
     refine RO.storeAgg (es := ((Keep.c ((perfK k (IntKind.i64.wrap ((i : Int) + 2)) ((commandN ((belowN d size).2) k).1)).1)).map .r)) rfl rfl rfl rfl rfl rfl rfl rfl rfl rfl (Nat.le_of_ble_eq_true rfl) rfl ?_
     refine RA.fr XK 40 0 [13,14] (bt 15 32767) rfl rfl (by kernel_rfl) (Tell.of rfl) ?_
     (conv=>whnf);refine ⟨rfl,fun B=>?_⟩
     exact RA.to2 hall hf hb (ro8_33 B bo8_11_1 go8_5_1 go8_6_1 qo8_5_2) rfl rfl (by kernel_rfl)
   have ro8_29 : ∀ B, ∀ (bo8_11_1 : Nat), ∀ (go8_5_1 : Nat → Nat → Value), ∀ (go8_6_1 : Nat → Nat → Value), ∀ (qo8_5_2 : Nat → Value), RA f E B all 4 (bt 15 3839) ⟨40, [(0, .obj (bo 0) ((l01Cur.c ((commandN ((belowN d size).2) k).2)).map .r)), (9, .obj bo8_11_1 [.r (.v (.slice none 0 0)), .r (.v (.slice none 0 0))]), (26, .tup [.agg ((Keep.c ((perfK k (IntKind.i64.wrap ((i : Int) + 2)) ((commandN ((belowN d size).2) k).1)).1)).map .r), .u, .u]), (35, S ((perfK k (IntKind.i64.wrap ((i : Int) + 2)) ((commandN ((belowN d size).2) k).1)).2.1)), (36, Bo ((perfK k (IntKind.i64.wrap ((i : Int) + 2)) ((commandN ((belowN d size).2) k).1)).2.2))] ++ b0⟩ K := by
    intro B bo8_11_1 go8_5_1 go8_6_1 qo8_5_2
    refine RA.of2 hall hf hb (RA.stepH (L := [8]) (Tell.of rfl) (by kernel_rfl) (by simp) (RA.each ?_ (RA.each0)))
    ·skip
     refine RO.extract (d := .agg ((Keep.c ((perfK k (IntKind.i64.wrap ((i : Int) + 2)) ((commandN ((belowN d size).2) k).1)).1)).map .r)) rfl rfl rfl rfl rfl (by decide) (Nat.le_of_ble_eq_true rfl) rfl rfl ?_
     exact RA.to2 hall hf hb (ro8_30 B bo8_11_1 go8_5_1 go8_6_1 qo8_5_2) rfl rfl (by kernel_rfl)
   have ro8_28 : ∀ B, ∀ (bo8_11_1 : Nat), ∀ (go8_5_1 : Nat → Nat → Value), ∀ (go8_6_1 : Nat → Nat → Value), ∀ (qo8_5_2 : Nat → Value), RA f E B all 4 (bt 15 6655) ⟨40, [(0, .obj (bo 0) ((l01Cur.c ((commandN ((belowN d size).2) k).2)).map .r)), (9, .obj bo8_11_1 ((Keep.c ((perfK k (IntKind.i64.wrap ((i : Int) + 2)) ((commandN ((belowN d size).2) k).1)).1)).map .r)), (26, .tup [.u, S ((perfK k (IntKind.i64.wrap ((i : Int) + 2)) ((commandN ((belowN d size).2) k).1)).2.1), Bo ((perfK k (IntKind.i64.wrap ((i : Int) + 2)) ((commandN ((belowN d size).2) k).1)).2.2)])] ++ b0⟩ K := by
    intro B bo8_11_1 go8_5_1 go8_6_1 qo8_5_2
    refine RA.of2 hall hf hb (RA.stepH (L := [9, 10]) (Tell.of rfl) (by kernel_rfl) (by simp) (RA.each ?_ (RA.each ?_ (RA.each0))))
    ·skip
     refine RO.extract (d := S ((perfK k (IntKind.i64.wrap ((i : Int) + 2)) ((commandN ((belowN d size).2) k).1)).2.1)) rfl rfl rfl rfl rfl (by decide) (Nat.le_of_ble_eq_true rfl) rfl rfl ?_
     refine RA.fr XK 40 2 [13] (bt 15 15359) rfl rfl (by kernel_rfl) (Tell.of rfl) ?_
     (conv=>whnf);refine ⟨rfl,fun B=>?_⟩
     exact RA.to2 hall hf hb (ro8_32 B bo8_11_1 go8_5_1 go8_6_1 qo8_5_2) rfl rfl (by kernel_rfl)
    ·skip
     refine RO.extract (d := Bo ((perfK k (IntKind.i64.wrap ((i : Int) + 2)) ((commandN ((belowN d size).2) k).1)).2.2)) rfl rfl rfl rfl rfl (by decide) (Nat.le_of_ble_eq_true rfl) rfl rfl ?_
     exact RA.to2 hall hf hb (ro8_31 B bo8_11_1 go8_5_1 go8_6_1 qo8_5_2) rfl rfl (by kernel_rfl)
   have ro8_27 : ∀ B, ∀ (bo8_11_1 : Nat), ∀ (go8_5_1 : Nat → Nat → Value), ∀ (go8_6_1 : Nat → Nat → Value), ∀ (qo8_5_2 : Nat → Value), RA f E B all 4 (bt 15 3583) ⟨40, [(0, .obj (bo 0) ((l01Cur.c ((commandN ((belowN d size).2) k).2)).map .r)), (9, .obj bo8_11_1 [.r (.v (.slice none 0 0)), .r (.v (.slice none 0 0))]), (26, .tup [.u, S ((perfK k (IntKind.i64.wrap ((i : Int) + 2)) ((commandN ((belowN d size).2) k).1)).2.1), .u]), (34, .agg ((Keep.c ((perfK k (IntKind.i64.wrap ((i : Int) + 2)) ((commandN ((belowN d size).2) k).1)).1)).map .r)), (36, Bo ((perfK k (IntKind.i64.wrap ((i : Int) + 2)) ((commandN ((belowN d size).2) k).1)).2.2))] ++ b0⟩ K := by
    intro B bo8_11_1 go8_5_1 go8_6_1 qo8_5_2
    refine RA.of2 hall hf hb (RA.stepH (L := [9, 12]) (Tell.of rfl) (by kernel_rfl) (by simp) (RA.each ?_ (RA.each ?_ (RA.each0))))
    ·skip
     refine RO.extract (d := S ((perfK k (IntKind.i64.wrap ((i : Int) + 2)) ((commandN ((belowN d size).2) k).1)).2.1)) rfl rfl rfl rfl rfl (by decide) (Nat.le_of_ble_eq_true rfl) rfl rfl ?_
     exact RA.to2 hall hf hb (ro8_30 B bo8_11_1 go8_5_1 go8_6_1 qo8_5_2) rfl rfl (by kernel_rfl)
    ·skip
     refine RO.storeAgg (es := ((Keep.c ((perfK k (IntKind.i64.wrap ((i : Int) + 2)) ((commandN ((belowN d size).2) k).1)).1)).map .r)) rfl rfl rfl rfl rfl rfl rfl rfl rfl rfl (Nat.le_of_ble_eq_true rfl) rfl ?_
     exact RA.to2 hall hf hb (ro8_31 B bo8_11_1 go8_5_1 go8_6_1 qo8_5_2) rfl rfl (by kernel_rfl)
   have ro8_26 : ∀ B, ∀ (bo8_11_1 : Nat), ∀ (go8_5_1 : Nat → Nat → Value), ∀ (go8_6_1 : Nat → Nat → Value), ∀ (qo8_5_2 : Nat → Value), RA f E B all 4 (bt 15 3071) ⟨40, [(0, .obj (bo 0) ((l01Cur.c ((commandN ((belowN d size).2) k).2)).map .r)), (9, .obj bo8_11_1 [.r (.v (.slice none 0 0)), .r (.v (.slice none 0 0))]), (26, .tup [.u, .u, Bo ((perfK k (IntKind.i64.wrap ((i : Int) + 2)) ((commandN ((belowN d size).2) k).1)).2.2)]), (34, .agg ((Keep.c ((perfK k (IntKind.i64.wrap ((i : Int) + 2)) ((commandN ((belowN d size).2) k).1)).1)).map .r)), (35, S ((perfK k (IntKind.i64.wrap ((i : Int) + 2)) ((commandN ((belowN d size).2) k).1)).2.1))] ++ b0⟩ K := by
    intro B bo8_11_1 go8_5_1 go8_6_1 qo8_5_2
    refine RA.of2 hall hf hb (RA.stepH (L := [10, 12]) (Tell.of rfl) (by kernel_rfl) (by simp) (RA.each ?_ (RA.each ?_ (RA.each0))))
    ·skip
     refine RO.extract (d := Bo ((perfK k (IntKind.i64.wrap ((i : Int) + 2)) ((commandN ((belowN d size).2) k).1)).2.2)) rfl rfl rfl rfl rfl (by decide) (Nat.le_of_ble_eq_true rfl) rfl rfl ?_
     exact RA.to2 hall hf hb (ro8_30 B bo8_11_1 go8_5_1 go8_6_1 qo8_5_2) rfl rfl (by kernel_rfl)
    ·skip
     refine RO.storeAgg (es := ((Keep.c ((perfK k (IntKind.i64.wrap ((i : Int) + 2)) ((commandN ((belowN d size).2) k).1)).1)).map .r)) rfl rfl rfl rfl rfl rfl rfl rfl rfl rfl (Nat.le_of_ble_eq_true rfl) rfl ?_
     refine RA.fr XK 40 2 [13] (bt 15 15359) rfl rfl (by kernel_rfl) (Tell.of rfl) ?_
     (conv=>whnf);refine ⟨rfl,fun B=>?_⟩
     exact RA.to2 hall hf hb (ro8_32 B bo8_11_1 go8_5_1 go8_6_1 qo8_5_2) rfl rfl (by kernel_rfl)
   have ro8_25 : ∀ B, ∀ (go8_5_1 : Nat → Nat → Value), ∀ (go8_6_1 : Nat → Nat → Value), ∀ (qo8_5_2 : Nat → Value), RA f E B all 4 (bt 15 2047) ⟨40, [(0, .obj (bo 0) ((l01Cur.c ((commandN ((belowN d size).2) k).2)).map .r)), (34, .agg ((Keep.c ((perfK k (IntKind.i64.wrap ((i : Int) + 2)) ((commandN ((belowN d size).2) k).1)).1)).map .r)), (35, S ((perfK k (IntKind.i64.wrap ((i : Int) + 2)) ((commandN ((belowN d size).2) k).1)).2.1)), (36, Bo ((perfK k (IntKind.i64.wrap ((i : Int) + 2)) ((commandN ((belowN d size).2) k).1)).2.2))] ++ b0⟩ K := by
    intro B go8_5_1 go8_6_1 qo8_5_2
    refine RA.of2 hall hf hb (RA.stepH (L := [11]) (Tell.of rfl) (by kernel_rfl) (by simp) (RA.each ?_ (RA.each0)))
    ·skip
     refine RO.alloc (ds := [.r (.v (.slice none 0 0)), .r (.v (.slice none 0 0))]) rfl rfl rfl rfl rfl rfl fun bo8_11_1 => ?_
     exact RA.to2 hall hf hb (ro8_30 B bo8_11_1 go8_5_1 go8_6_1 qo8_5_2) rfl rfl (by kernel_rfl)
   have ro8_24 : ∀ B, ∀ (bo8_11_1 : Nat), ∀ (go8_5_1 : Nat → Nat → Value), ∀ (go8_6_1 : Nat → Nat → Value), ∀ (qo8_5_2 : Nat → Value), RA f E B all 5 (bt 15 3327) ⟨40, [(0, .obj (bo 0) ((l01Cur.c ((commandN ((belowN d size).2) k).2)).map .r)), (9, .obj bo8_11_1 [.r (.v (.slice none 0 0)), .r (.v (.slice none 0 0))]), (26, .tup [.agg ((Keep.c ((perfK k (IntKind.i64.wrap ((i : Int) + 2)) ((commandN ((belowN d size).2) k).1)).1)).map .r), S ((perfK k (IntKind.i64.wrap ((i : Int) + 2)) ((commandN ((belowN d size).2) k).1)).2.1), .u]), (36, Bo ((perfK k (IntKind.i64.wrap ((i : Int) + 2)) ((commandN ((belowN d size).2) k).1)).2.2))] ++ b0⟩ K := by
    intro B bo8_11_1 go8_5_1 go8_6_1 qo8_5_2
    refine RA.of2 hall hf hb (RA.stepH (L := [8, 9]) (Tell.of rfl) (by kernel_rfl) (by simp) (RA.each ?_ (RA.each ?_ (RA.each0))))
    ·skip
     refine RO.extract (d := .agg ((Keep.c ((perfK k (IntKind.i64.wrap ((i : Int) + 2)) ((commandN ((belowN d size).2) k).1)).1)).map .r)) rfl rfl rfl rfl rfl (by decide) (Nat.le_of_ble_eq_true rfl) rfl rfl ?_
     exact RA.to2 hall hf hb (ro8_27 B bo8_11_1 go8_5_1 go8_6_1 qo8_5_2) rfl rfl (by kernel_rfl)
    ·skip
     refine RO.extract (d := S ((perfK k (IntKind.i64.wrap ((i : Int) + 2)) ((commandN ((belowN d size).2) k).1)).2.1)) rfl rfl rfl rfl rfl (by decide) (Nat.le_of_ble_eq_true rfl) rfl rfl ?_
     exact RA.to2 hall hf hb (ro8_29 B bo8_11_1 go8_5_1 go8_6_1 qo8_5_2) rfl rfl (by kernel_rfl)
   have ro8_23 : ∀ B, ∀ (bo8_11_1 : Nat), ∀ (go8_5_1 : Nat → Nat → Value), ∀ (go8_6_1 : Nat → Nat → Value), ∀ (qo8_5_2 : Nat → Value), RA f E B all 5 (bt 15 2815) ⟨40, [(0, .obj (bo 0) ((l01Cur.c ((commandN ((belowN d size).2) k).2)).map .r)), (9, .obj bo8_11_1 [.r (.v (.slice none 0 0)), .r (.v (.slice none 0 0))]), (26, .tup [.agg ((Keep.c ((perfK k (IntKind.i64.wrap ((i : Int) + 2)) ((commandN ((belowN d size).2) k).1)).1)).map .r), .u, Bo ((perfK k (IntKind.i64.wrap ((i : Int) + 2)) ((commandN ((belowN d size).2) k).1)).2.2)]), (35, S ((perfK k (IntKind.i64.wrap ((i : Int) + 2)) ((commandN ((belowN d size).2) k).1)).2.1))] ++ b0⟩ K := by
    intro B bo8_11_1 go8_5_1 go8_6_1 qo8_5_2
    refine RA.of2 hall hf hb (RA.stepH (L := [8, 10]) (Tell.of rfl) (by kernel_rfl) (by simp) (RA.each ?_ (RA.each ?_ (RA.each0))))
    ·skip
     refine RO.extract (d := .agg ((Keep.c ((perfK k (IntKind.i64.wrap ((i : Int) + 2)) ((commandN ((belowN d size).2) k).1)).1)).map .r)) rfl rfl rfl rfl rfl (by decide) (Nat.le_of_ble_eq_true rfl) rfl rfl ?_
     exact RA.to2 hall hf hb (ro8_26 B bo8_11_1 go8_5_1 go8_6_1 qo8_5_2) rfl rfl (by kernel_rfl)
    ·skip
     refine RO.extract (d := Bo ((perfK k (IntKind.i64.wrap ((i : Int) + 2)) ((commandN ((belowN d size).2) k).1)).2.2)) rfl rfl rfl rfl rfl (by decide) (Nat.le_of_ble_eq_true rfl) rfl rfl ?_
     exact RA.to2 hall hf hb (ro8_29 B bo8_11_1 go8_5_1 go8_6_1 qo8_5_2) rfl rfl (by kernel_rfl)
   have ro8_22 : ∀ B, ∀ (go8_5_1 : Nat → Nat → Value), ∀ (go8_6_1 : Nat → Nat → Value), ∀ (qo8_5_2 : Nat → Value), RA f E B all 5 (bt 15 1791) ⟨40, [(0, .obj (bo 0) ((l01Cur.c ((commandN ((belowN d size).2) k).2)).map .r)), (26, .tup [.agg ((Keep.c ((perfK k (IntKind.i64.wrap ((i : Int) + 2)) ((commandN ((belowN d size).2) k).1)).1)).map .r), .u, .u]), (35, S ((perfK k (IntKind.i64.wrap ((i : Int) + 2)) ((commandN ((belowN d size).2) k).1)).2.1)), (36, Bo ((perfK k (IntKind.i64.wrap ((i : Int) + 2)) ((commandN ((belowN d size).2) k).1)).2.2))] ++ b0⟩ K := by
    intro B go8_5_1 go8_6_1 qo8_5_2
    refine RA.of2 hall hf hb (RA.stepH (L := [8, 11]) (Tell.of rfl) (by kernel_rfl) (by simp) (RA.each ?_ (RA.each ?_ (RA.each0))))
    ·skip
     refine RO.extract (d := .agg ((Keep.c ((perfK k (IntKind.i64.wrap ((i : Int) + 2)) ((commandN ((belowN d size).2) k).1)).1)).map .r)) rfl rfl rfl rfl rfl (by decide) (Nat.le_of_ble_eq_true rfl) rfl rfl ?_
     exact RA.to2 hall hf hb (ro8_25 B go8_5_1 go8_6_1 qo8_5_2) rfl rfl (by kernel_rfl)
    ·skip
     refine RO.alloc (ds := [.r (.v (.slice none 0 0)), .r (.v (.slice none 0 0))]) rfl rfl rfl rfl rfl rfl fun bo8_11_1 => ?_
     exact RA.to2 hall hf hb (ro8_29 B bo8_11_1 go8_5_1 go8_6_1 qo8_5_2) rfl rfl (by kernel_rfl)
   have ro8_21 : ∀ B, ∀ (bo8_11_1 : Nat), ∀ (go8_5_1 : Nat → Nat → Value), ∀ (go8_6_1 : Nat → Nat → Value), ∀ (qo8_5_2 : Nat → Value), RA f E B all 5 (bt 15 2559) ⟨40, [(0, .obj (bo 0) ((l01Cur.c ((commandN ((belowN d size).2) k).2)).map .r)), (9, .obj bo8_11_1 [.r (.v (.slice none 0 0)), .r (.v (.slice none 0 0))]), (26, .tup [.u, S ((perfK k (IntKind.i64.wrap ((i : Int) + 2)) ((commandN ((belowN d size).2) k).1)).2.1), Bo ((perfK k (IntKind.i64.wrap ((i : Int) + 2)) ((commandN ((belowN d size).2) k).1)).2.2)]), (34, .agg ((Keep.c ((perfK k (IntKind.i64.wrap ((i : Int) + 2)) ((commandN ((belowN d size).2) k).1)).1)).map .r))] ++ b0⟩ K := by
    intro B bo8_11_1 go8_5_1 go8_6_1 qo8_5_2
    refine RA.of2 hall hf hb (RA.stepH (L := [9, 10, 12]) (Tell.of rfl) (by kernel_rfl) (by simp) (RA.each ?_ (RA.each ?_ (RA.each ?_ (RA.each0)))))
    ·skip
     refine RO.extract (d := S ((perfK k (IntKind.i64.wrap ((i : Int) + 2)) ((commandN ((belowN d size).2) k).1)).2.1)) rfl rfl rfl rfl rfl (by decide) (Nat.le_of_ble_eq_true rfl) rfl rfl ?_
     exact RA.to2 hall hf hb (ro8_26 B bo8_11_1 go8_5_1 go8_6_1 qo8_5_2) rfl rfl (by kernel_rfl)
    ·skip
     refine RO.extract (d := Bo ((perfK k (IntKind.i64.wrap ((i : Int) + 2)) ((commandN ((belowN d size).2) k).1)).2.2)) rfl rfl rfl rfl rfl (by decide) (Nat.le_of_ble_eq_true rfl) rfl rfl ?_
     exact RA.to2 hall hf hb (ro8_27 B bo8_11_1 go8_5_1 go8_6_1 qo8_5_2) rfl rfl (by kernel_rfl)
    ·skip
     refine RO.storeAgg (es := ((Keep.c ((perfK k (IntKind.i64.wrap ((i : Int) + 2)) ((commandN ((belowN d size).2) k).1)).1)).map .r)) rfl rfl rfl rfl rfl rfl rfl rfl rfl rfl (Nat.le_of_ble_eq_true rfl) rfl ?_
     exact RA.to2 hall hf hb (ro8_28 B bo8_11_1 go8_5_1 go8_6_1 qo8_5_2) rfl rfl (by kernel_rfl)
   have ro8_20 : ∀ B, ∀ (go8_5_1 : Nat → Nat → Value), ∀ (go8_6_1 : Nat → Nat → Value), ∀ (qo8_5_2 : Nat → Value), RA f E B all 5 (bt 15 1535) ⟨40, [(0, .obj (bo 0) ((l01Cur.c ((commandN ((belowN d size).2) k).2)).map .r)), (26, .tup [.u, S ((perfK k (IntKind.i64.wrap ((i : Int) + 2)) ((commandN ((belowN d size).2) k).1)).2.1), .u]), (34, .agg ((Keep.c ((perfK k (IntKind.i64.wrap ((i : Int) + 2)) ((commandN ((belowN d size).2) k).1)).1)).map .r)), (36, Bo ((perfK k (IntKind.i64.wrap ((i : Int) + 2)) ((commandN ((belowN d size).2) k).1)).2.2))] ++ b0⟩ K := by
    intro B go8_5_1 go8_6_1 qo8_5_2
    refine RA.of2 hall hf hb (RA.stepH (L := [9, 11]) (Tell.of rfl) (by kernel_rfl) (by simp) (RA.each ?_ (RA.each ?_ (RA.each0))))
    ·skip
     refine RO.extract (d := S ((perfK k (IntKind.i64.wrap ((i : Int) + 2)) ((commandN ((belowN d size).2) k).1)).2.1)) rfl rfl rfl rfl rfl (by decide) (Nat.le_of_ble_eq_true rfl) rfl rfl ?_
     exact RA.to2 hall hf hb (ro8_25 B go8_5_1 go8_6_1 qo8_5_2) rfl rfl (by kernel_rfl)
    ·skip
     refine RO.alloc (ds := [.r (.v (.slice none 0 0)), .r (.v (.slice none 0 0))]) rfl rfl rfl rfl rfl rfl fun bo8_11_1 => ?_
     exact RA.to2 hall hf hb (ro8_27 B bo8_11_1 go8_5_1 go8_6_1 qo8_5_2) rfl rfl (by kernel_rfl)
   have ro8_19 : ∀ B, ∀ (go8_5_1 : Nat → Nat → Value), ∀ (go8_6_1 : Nat → Nat → Value), ∀ (qo8_5_2 : Nat → Value), RA f E B all 5 (bt 15 1023) ⟨40, [(0, .obj (bo 0) ((l01Cur.c ((commandN ((belowN d size).2) k).2)).map .r)), (26, .tup [.u, .u, Bo ((perfK k (IntKind.i64.wrap ((i : Int) + 2)) ((commandN ((belowN d size).2) k).1)).2.2)]), (34, .agg ((Keep.c ((perfK k (IntKind.i64.wrap ((i : Int) + 2)) ((commandN ((belowN d size).2) k).1)).1)).map .r)), (35, S ((perfK k (IntKind.i64.wrap ((i : Int) + 2)) ((commandN ((belowN d size).2) k).1)).2.1))] ++ b0⟩ K := by
    intro B go8_5_1 go8_6_1 qo8_5_2
    refine RA.of2 hall hf hb (RA.stepH (L := [10, 11]) (Tell.of rfl) (by kernel_rfl) (by simp) (RA.each ?_ (RA.each ?_ (RA.each0))))
    ·skip
     refine RO.extract (d := Bo ((perfK k (IntKind.i64.wrap ((i : Int) + 2)) ((commandN ((belowN d size).2) k).1)).2.2)) rfl rfl rfl rfl rfl (by decide) (Nat.le_of_ble_eq_true rfl) rfl rfl ?_
     exact RA.to2 hall hf hb (ro8_25 B go8_5_1 go8_6_1 qo8_5_2) rfl rfl (by kernel_rfl)
    ·skip
     refine RO.alloc (ds := [.r (.v (.slice none 0 0)), .r (.v (.slice none 0 0))]) rfl rfl rfl rfl rfl rfl fun bo8_11_1 => ?_
     exact RA.to2 hall hf hb (ro8_26 B bo8_11_1 go8_5_1 go8_6_1 qo8_5_2) rfl rfl (by kernel_rfl)
   have ro8_18 : ∀ B, ∀ (bo8_11_1 : Nat), ∀ (go8_5_1 : Nat → Nat → Value), ∀ (go8_6_1 : Nat → Nat → Value), ∀ (qo8_5_2 : Nat → Value), RA f E B all 6 (bt 15 2303) ⟨40, [(0, .obj (bo 0) ((l01Cur.c ((commandN ((belowN d size).2) k).2)).map .r)), (9, .obj bo8_11_1 [.r (.v (.slice none 0 0)), .r (.v (.slice none 0 0))]), (26, .tup [.agg ((Keep.c ((perfK k (IntKind.i64.wrap ((i : Int) + 2)) ((commandN ((belowN d size).2) k).1)).1)).map .r), S ((perfK k (IntKind.i64.wrap ((i : Int) + 2)) ((commandN ((belowN d size).2) k).1)).2.1), Bo ((perfK k (IntKind.i64.wrap ((i : Int) + 2)) ((commandN ((belowN d size).2) k).1)).2.2)])] ++ b0⟩ K := by
    intro B bo8_11_1 go8_5_1 go8_6_1 qo8_5_2
    refine RA.of2 hall hf hb (RA.stepH (L := [8, 9, 10]) (Tell.of rfl) (by kernel_rfl) (by simp) (RA.each ?_ (RA.each ?_ (RA.each ?_ (RA.each0)))))
    ·skip
     refine RO.extract (d := .agg ((Keep.c ((perfK k (IntKind.i64.wrap ((i : Int) + 2)) ((commandN ((belowN d size).2) k).1)).1)).map .r)) rfl rfl rfl rfl rfl (by decide) (Nat.le_of_ble_eq_true rfl) rfl rfl ?_
     exact RA.to2 hall hf hb (ro8_21 B bo8_11_1 go8_5_1 go8_6_1 qo8_5_2) rfl rfl (by kernel_rfl)
    ·skip
     refine RO.extract (d := S ((perfK k (IntKind.i64.wrap ((i : Int) + 2)) ((commandN ((belowN d size).2) k).1)).2.1)) rfl rfl rfl rfl rfl (by decide) (Nat.le_of_ble_eq_true rfl) rfl rfl ?_
     exact RA.to2 hall hf hb (ro8_23 B bo8_11_1 go8_5_1 go8_6_1 qo8_5_2) rfl rfl (by kernel_rfl)
    ·skip
     refine RO.extract (d := Bo ((perfK k (IntKind.i64.wrap ((i : Int) + 2)) ((commandN ((belowN d size).2) k).1)).2.2)) rfl rfl rfl rfl rfl (by decide) (Nat.le_of_ble_eq_true rfl) rfl rfl ?_
     exact RA.to2 hall hf hb (ro8_24 B bo8_11_1 go8_5_1 go8_6_1 qo8_5_2) rfl rfl (by kernel_rfl)
   have ro8_17 : ∀ B, ∀ (go8_5_1 : Nat → Nat → Value), ∀ (go8_6_1 : Nat → Nat → Value), ∀ (qo8_5_2 : Nat → Value), RA f E B all 6 (bt 15 1279) ⟨40, [(0, .obj (bo 0) ((l01Cur.c ((commandN ((belowN d size).2) k).2)).map .r)), (26, .tup [.agg ((Keep.c ((perfK k (IntKind.i64.wrap ((i : Int) + 2)) ((commandN ((belowN d size).2) k).1)).1)).map .r), S ((perfK k (IntKind.i64.wrap ((i : Int) + 2)) ((commandN ((belowN d size).2) k).1)).2.1), .u]), (36, Bo ((perfK k (IntKind.i64.wrap ((i : Int) + 2)) ((commandN ((belowN d size).2) k).1)).2.2))] ++ b0⟩ K := by
    intro B go8_5_1 go8_6_1 qo8_5_2
    refine RA.of2 hall hf hb (RA.stepH (L := [8, 9, 11]) (Tell.of rfl) (by kernel_rfl) (by simp) (RA.each ?_ (RA.each ?_ (RA.each ?_ (RA.each0)))))
    ·skip
     refine RO.extract (d := .agg ((Keep.c ((perfK k (IntKind.i64.wrap ((i : Int) + 2)) ((commandN ((belowN d size).2) k).1)).1)).map .r)) rfl rfl rfl rfl rfl (by decide) (Nat.le_of_ble_eq_true rfl) rfl rfl ?_
     exact RA.to2 hall hf hb (ro8_20 B go8_5_1 go8_6_1 qo8_5_2) rfl rfl (by kernel_rfl)
    ·skip
     refine RO.extract (d := S ((perfK k (IntKind.i64.wrap ((i : Int) + 2)) ((commandN ((belowN d size).2) k).1)).2.1)) rfl rfl rfl rfl rfl (by decide) (Nat.le_of_ble_eq_true rfl) rfl rfl ?_
     exact RA.to2 hall hf hb (ro8_22 B go8_5_1 go8_6_1 qo8_5_2) rfl rfl (by kernel_rfl)
    ·skip
     refine RO.alloc (ds := [.r (.v (.slice none 0 0)), .r (.v (.slice none 0 0))]) rfl rfl rfl rfl rfl rfl fun bo8_11_1 => ?_
     exact RA.to2 hall hf hb (ro8_24 B bo8_11_1 go8_5_1 go8_6_1 qo8_5_2) rfl rfl (by kernel_rfl)
   have ro8_16 : ∀ B, ∀ (go8_5_1 : Nat → Nat → Value), ∀ (go8_6_1 : Nat → Nat → Value), ∀ (qo8_5_2 : Nat → Value), RA f E B all 6 (bt 15 767) ⟨40, [(0, .obj (bo 0) ((l01Cur.c ((commandN ((belowN d size).2) k).2)).map .r)), (26, .tup [.agg ((Keep.c ((perfK k (IntKind.i64.wrap ((i : Int) + 2)) ((commandN ((belowN d size).2) k).1)).1)).map .r), .u, Bo ((perfK k (IntKind.i64.wrap ((i : Int) + 2)) ((commandN ((belowN d size).2) k).1)).2.2)]), (35, S ((perfK k (IntKind.i64.wrap ((i : Int) + 2)) ((commandN ((belowN d size).2) k).1)).2.1))] ++ b0⟩ K := by
    intro B go8_5_1 go8_6_1 qo8_5_2
    refine RA.of2 hall hf hb (RA.stepH (L := [8, 10, 11]) (Tell.of rfl) (by kernel_rfl) (by simp) (RA.each ?_ (RA.each ?_ (RA.each ?_ (RA.each0)))))
    ·skip
     refine RO.extract (d := .agg ((Keep.c ((perfK k (IntKind.i64.wrap ((i : Int) + 2)) ((commandN ((belowN d size).2) k).1)).1)).map .r)) rfl rfl rfl rfl rfl (by decide) (Nat.le_of_ble_eq_true rfl) rfl rfl ?_
     exact RA.to2 hall hf hb (ro8_19 B go8_5_1 go8_6_1 qo8_5_2) rfl rfl (by kernel_rfl)
    ·skip
     refine RO.extract (d := Bo ((perfK k (IntKind.i64.wrap ((i : Int) + 2)) ((commandN ((belowN d size).2) k).1)).2.2)) rfl rfl rfl rfl rfl (by decide) (Nat.le_of_ble_eq_true rfl) rfl rfl ?_
     exact RA.to2 hall hf hb (ro8_22 B go8_5_1 go8_6_1 qo8_5_2) rfl rfl (by kernel_rfl)
    ·skip
     refine RO.alloc (ds := [.r (.v (.slice none 0 0)), .r (.v (.slice none 0 0))]) rfl rfl rfl rfl rfl rfl fun bo8_11_1 => ?_
     exact RA.to2 hall hf hb (ro8_23 B bo8_11_1 go8_5_1 go8_6_1 qo8_5_2) rfl rfl (by kernel_rfl)
   have ro8_15 : ∀ B, ∀ (go8_5_1 : Nat → Nat → Value), ∀ (go8_6_1 : Nat → Nat → Value), ∀ (qo8_5_2 : Nat → Value), RA f E B all 6 (bt 15 511) ⟨40, [(0, .obj (bo 0) ((l01Cur.c ((commandN ((belowN d size).2) k).2)).map .r)), (26, .tup [.u, S ((perfK k (IntKind.i64.wrap ((i : Int) + 2)) ((commandN ((belowN d size).2) k).1)).2.1), Bo ((perfK k (IntKind.i64.wrap ((i : Int) + 2)) ((commandN ((belowN d size).2) k).1)).2.2)]), (34, .agg ((Keep.c ((perfK k (IntKind.i64.wrap ((i : Int) + 2)) ((commandN ((belowN d size).2) k).1)).1)).map .r))] ++ b0⟩ K := by
    intro B go8_5_1 go8_6_1 qo8_5_2
    refine RA.of2 hall hf hb (RA.stepH (L := [9, 10, 11]) (Tell.of rfl) (by kernel_rfl) (by simp) (RA.each ?_ (RA.each ?_ (RA.each ?_ (RA.each0)))))
    ·skip
     refine RO.extract (d := S ((perfK k (IntKind.i64.wrap ((i : Int) + 2)) ((commandN ((belowN d size).2) k).1)).2.1)) rfl rfl rfl rfl rfl (by decide) (Nat.le_of_ble_eq_true rfl) rfl rfl ?_
     exact RA.to2 hall hf hb (ro8_19 B go8_5_1 go8_6_1 qo8_5_2) rfl rfl (by kernel_rfl)
    ·skip
     refine RO.extract (d := Bo ((perfK k (IntKind.i64.wrap ((i : Int) + 2)) ((commandN ((belowN d size).2) k).1)).2.2)) rfl rfl rfl rfl rfl (by decide) (Nat.le_of_ble_eq_true rfl) rfl rfl ?_
     exact RA.to2 hall hf hb (ro8_20 B go8_5_1 go8_6_1 qo8_5_2) rfl rfl (by kernel_rfl)
    ·skip
     refine RO.alloc (ds := [.r (.v (.slice none 0 0)), .r (.v (.slice none 0 0))]) rfl rfl rfl rfl rfl rfl fun bo8_11_1 => ?_
     exact RA.to2 hall hf hb (ro8_21 B bo8_11_1 go8_5_1 go8_6_1 qo8_5_2) rfl rfl (by kernel_rfl)
   have ro8_14 : ∀ B, ∀ (bo8_11_1 : Nat), ∀ (go8_5_1 : Nat → Nat → Value), ∀ (go8_6_1 : Nat → Nat → Value), ∀ (qo8_5_2 : Nat → Value), RA f E B all 7 (bt 15 2175) ⟨40, [(0, .obj (bo 0) ((l01Cur.c ((commandN ((belowN d size).2) k).2)).map .r)), (9, .obj bo8_11_1 [.r (.v (.slice none 0 0)), .r (.v (.slice none 0 0))]), (33, .tup [.agg ((Keep.c ((perfK k (IntKind.i64.wrap ((i : Int) + 2)) ((commandN ((belowN d size).2) k).1)).1)).map .r), S ((perfK k (IntKind.i64.wrap ((i : Int) + 2)) ((commandN ((belowN d size).2) k).1)).2.1), Bo ((perfK k (IntKind.i64.wrap ((i : Int) + 2)) ((commandN ((belowN d size).2) k).1)).2.2)])] ++ b0⟩ K := by
    intro B bo8_11_1 go8_5_1 go8_6_1 qo8_5_2
    refine RA.of2 hall hf hb (RA.stepH (L := [7]) (Tell.of rfl) (by kernel_rfl) (by simp) (RA.each ?_ (RA.each0)))
    ·skip
     refine RO.moveMove rfl rfl rfl rfl rfl (by decide) (Nat.le_of_ble_eq_true rfl) (Nat.le_of_ble_eq_true rfl) ?_
     exact RA.to2 hall hf hb (ro8_18 B bo8_11_1 go8_5_1 go8_6_1 qo8_5_2) rfl rfl (by kernel_rfl)
   have ro8_13 : ∀ B, ∀ (go8_5_1 : Nat → Nat → Value), ∀ (go8_6_1 : Nat → Nat → Value), ∀ (qo8_5_2 : Nat → Value), RA f E B all 7 (bt 15 255) ⟨40, [(0, .obj (bo 0) ((l01Cur.c ((commandN ((belowN d size).2) k).2)).map .r)), (26, .tup [.agg ((Keep.c ((perfK k (IntKind.i64.wrap ((i : Int) + 2)) ((commandN ((belowN d size).2) k).1)).1)).map .r), S ((perfK k (IntKind.i64.wrap ((i : Int) + 2)) ((commandN ((belowN d size).2) k).1)).2.1), Bo ((perfK k (IntKind.i64.wrap ((i : Int) + 2)) ((commandN ((belowN d size).2) k).1)).2.2)])] ++ b0⟩ K := by
    intro B go8_5_1 go8_6_1 qo8_5_2
    refine RA.of2 hall hf hb (RA.stepH (L := [8, 9, 10, 11]) (Tell.of rfl) (by kernel_rfl) (by simp) (RA.each ?_ (RA.each ?_ (RA.each ?_ (RA.each ?_ (RA.each0))))))
    ·skip
     refine RO.extract (d := .agg ((Keep.c ((perfK k (IntKind.i64.wrap ((i : Int) + 2)) ((commandN ((belowN d size).2) k).1)).1)).map .r)) rfl rfl rfl rfl rfl (by decide) (Nat.le_of_ble_eq_true rfl) rfl rfl ?_
     exact RA.to2 hall hf hb (ro8_15 B go8_5_1 go8_6_1 qo8_5_2) rfl rfl (by kernel_rfl)
    ·skip
     refine RO.extract (d := S ((perfK k (IntKind.i64.wrap ((i : Int) + 2)) ((commandN ((belowN d size).2) k).1)).2.1)) rfl rfl rfl rfl rfl (by decide) (Nat.le_of_ble_eq_true rfl) rfl rfl ?_
     exact RA.to2 hall hf hb (ro8_16 B go8_5_1 go8_6_1 qo8_5_2) rfl rfl (by kernel_rfl)
    ·skip
     refine RO.extract (d := Bo ((perfK k (IntKind.i64.wrap ((i : Int) + 2)) ((commandN ((belowN d size).2) k).1)).2.2)) rfl rfl rfl rfl rfl (by decide) (Nat.le_of_ble_eq_true rfl) rfl rfl ?_
     exact RA.to2 hall hf hb (ro8_17 B go8_5_1 go8_6_1 qo8_5_2) rfl rfl (by kernel_rfl)
    ·skip
     refine RO.alloc (ds := [.r (.v (.slice none 0 0)), .r (.v (.slice none 0 0))]) rfl rfl rfl rfl rfl rfl fun bo8_11_1 => ?_
     exact RA.to2 hall hf hb (ro8_18 B bo8_11_1 go8_5_1 go8_6_1 qo8_5_2) rfl rfl (by kernel_rfl)
   have ro8_12 : ∀ B, ∀ (bo8_11_1 : Nat), ∀ (go8_5_1 : Nat → Nat → Value), ∀ (qo8_5_2 : Nat → Value), RA f E B all 8 (bt 15 2111) ⟨40, [(0, .obj (bo 0) ((l01Cur.c ((commandN ((belowN d size).2) k).2)).map .r)), (9, .obj bo8_11_1 [.r (.v (.slice none 0 0)), .r (.v (.slice none 0 0))]), (27, .agg ((Keep.c k).map .r)), (29, I (IntKind.i64.wrap ((i : Int) + 2))), (32, .agg ((Command.c ((commandN ((belowN d size).2) k).1)).map .r))] ++ b0⟩ K := by
    intro B bo8_11_1 go8_5_1 qo8_5_2
    refine RA.of2 hall hf hb (RA.stepH (L := [6]) (Tell.of rfl) (by kernel_rfl) (by simp) (RA.each ?_ (RA.each0)))
    ·skip
     refine RO.call rfl rfl (spec_Perform_fn k (IntKind.i64.wrap ((i : Int) + 2)) ((commandN ((belowN d size).2) k).1) hP.hk.ok.okTo) rfl (.cons (.agg (.cons (.r .r) (.cons (.r .r) (.nil)))) (.cons (.one (.r .r)) (.cons (.agg (.cons (.r .r) (.cons (.r .r) (.cons (.r .r) (.cons (.r .r) (.cons (.r .r) (.cons (.r .r) (.nil)))))))) (.nil)))) rfl fun go8_6_1 => ?_
     exact RA.to2 hall hf hb (ro8_14 B bo8_11_1 go8_5_1 go8_6_1 qo8_5_2) rfl rfl (by kernel_rfl)
   have ro8_11 : ∀ B, ∀ (go8_5_1 : Nat → Nat → Value), ∀ (go8_6_1 : Nat → Nat → Value), ∀ (qo8_5_2 : Nat → Value), RA f E B all 8 (bt 15 127) ⟨40, [(0, .obj (bo 0) ((l01Cur.c ((commandN ((belowN d size).2) k).2)).map .r)), (33, .tup [.agg ((Keep.c ((perfK k (IntKind.i64.wrap ((i : Int) + 2)) ((commandN ((belowN d size).2) k).1)).1)).map .r), S ((perfK k (IntKind.i64.wrap ((i : Int) + 2)) ((commandN ((belowN d size).2) k).1)).2.1), Bo ((perfK k (IntKind.i64.wrap ((i : Int) + 2)) ((commandN ((belowN d size).2) k).1)).2.2)])] ++ b0⟩ K := by
    intro B go8_5_1 go8_6_1 qo8_5_2
    refine RA.of2 hall hf hb (RA.stepH (L := [7, 11]) (Tell.of rfl) (by kernel_rfl) (by simp) (RA.each ?_ (RA.each ?_ (RA.each0))))
    ·skip
     refine RO.moveMove rfl rfl rfl rfl rfl (by decide) (Nat.le_of_ble_eq_true rfl) (Nat.le_of_ble_eq_true rfl) ?_
     exact RA.to2 hall hf hb (ro8_13 B go8_5_1 go8_6_1 qo8_5_2) rfl rfl (by kernel_rfl)
    ·skip
     refine RO.alloc (ds := [.r (.v (.slice none 0 0)), .r (.v (.slice none 0 0))]) rfl rfl rfl rfl rfl rfl fun bo8_11_1 => ?_
     exact RA.to2 hall hf hb (ro8_14 B bo8_11_1 go8_5_1 go8_6_1 qo8_5_2) rfl rfl (by kernel_rfl)
   have ro8_10 : ∀ B, ∀ (bo8_11_1 : Nat), ∀ (go8_5_1 : Nat → Nat → Value), ∀ (qo8_5_2 : Nat → Value), RA f E B all 9 (bt 15 2110) ⟨40, [(0, .obj (bo 0) ((l01Cur.c ((commandN ((belowN d size).2) k).2)).map .r)), (9, .obj bo8_11_1 [.r (.v (.slice none 0 0)), .r (.v (.slice none 0 0))]), (29, I (IntKind.i64.wrap ((i : Int) + 2))), (32, .agg ((Command.c ((commandN ((belowN d size).2) k).1)).map .r))] ++ b0⟩ K := by
    intro B bo8_11_1 go8_5_1 qo8_5_2
    refine RA.of2 hall hf hb (RA.stepH (L := [0]) (Tell.of rfl) (by kernel_rfl) (by simp) (RA.each ?_ (RA.each0)))
    ·skip
     refine RO.v rfl rfl (V.loadAgg rfl rfl rfl rfl rfl (Nat.le_of_ble_eq_true rfl)) rfl ?_
     exact RA.to2 hall hf hb (ro8_12 B bo8_11_1 go8_5_1 qo8_5_2) rfl rfl (by kernel_rfl)
   have ro8_9 : ∀ B, ∀ (bo8_11_1 : Nat), RA f E B all 9 (bt 15 2079) ⟨40, [(0, .obj (bo 0) ((l01Cur.c ((belowN d size).2)).map .r)), (9, .obj bo8_11_1 [.r (.v (.slice none 0 0)), .r (.v (.slice none 0 0))]), (27, .agg ((Keep.c k).map .r)), (29, I (IntKind.i64.wrap ((i : Int) + 2))), (30, .pt 0 (bo 0) 0), (31, .agg ((Keep.c k).map .r))] ++ b0⟩ K := by
    intro B bo8_11_1
    refine RA.of2 hall hf hb (RA.stepH (L := [5]) (Tell.of rfl) (by kernel_rfl) (by simp) (RA.each ?_ (RA.each0)))
    ·skip
     refine RO.callP (k := 0) (spec_l15Command_fn ((belowN d size).2) k (belowN_ok hP.hc _) hP.hk.ok.okTo) rfl rfl rfl rfl (Nat.le_of_ble_eq_true rfl) (by decide) rfl (DT.r (DT.r (DT.r DT.e))) (AsPs.here rfl (.cons (.agg (.cons (.r .r) (.cons (.r .r) (.nil)))) (.nil))) fun go8_5_1 qo8_5_2 => ?_
     exact RA.to2 hall hf hb (ro8_12 B bo8_11_1 go8_5_1 qo8_5_2) rfl rfl (by kernel_rfl)
   have ro8_8 : ∀ B, ∀ (go8_5_1 : Nat → Nat → Value), ∀ (qo8_5_2 : Nat → Value), RA f E B all 9 (bt 15 63) ⟨40, [(0, .obj (bo 0) ((l01Cur.c ((commandN ((belowN d size).2) k).2)).map .r)), (27, .agg ((Keep.c k).map .r)), (29, I (IntKind.i64.wrap ((i : Int) + 2))), (32, .agg ((Command.c ((commandN ((belowN d size).2) k).1)).map .r))] ++ b0⟩ K := by
    intro B go8_5_1 qo8_5_2
    refine RA.of2 hall hf hb (RA.stepH (L := [6, 11]) (Tell.of rfl) (by kernel_rfl) (by simp) (RA.each ?_ (RA.each ?_ (RA.each0))))
    ·skip
     refine RO.call rfl rfl (spec_Perform_fn k (IntKind.i64.wrap ((i : Int) + 2)) ((commandN ((belowN d size).2) k).1) hP.hk.ok.okTo) rfl (.cons (.agg (.cons (.r .r) (.cons (.r .r) (.nil)))) (.cons (.one (.r .r)) (.cons (.agg (.cons (.r .r) (.cons (.r .r) (.cons (.r .r) (.cons (.r .r) (.cons (.r .r) (.cons (.r .r) (.nil)))))))) (.nil)))) rfl fun go8_6_1 => ?_
     exact RA.to2 hall hf hb (ro8_11 B go8_5_1 go8_6_1 qo8_5_2) rfl rfl (by kernel_rfl)
    ·skip
     refine RO.alloc (ds := [.r (.v (.slice none 0 0)), .r (.v (.slice none 0 0))]) rfl rfl rfl rfl rfl rfl fun bo8_11_1 => ?_
     exact RA.to2 hall hf hb (ro8_12 B bo8_11_1 go8_5_1 qo8_5_2) rfl rfl (by kernel_rfl)
   have ro8_7 : ∀ B, ∀ (bo8_11_1 : Nat), RA f E B all 10 (bt 15 2078) ⟨40, [(0, .obj (bo 0) ((l01Cur.c ((belowN d size).2)).map .r)), (9, .obj bo8_11_1 [.r (.v (.slice none 0 0)), .r (.v (.slice none 0 0))]), (29, I (IntKind.i64.wrap ((i : Int) + 2))), (30, .pt 0 (bo 0) 0), (31, .agg ((Keep.c k).map .r))] ++ b0⟩ K := by
    intro B bo8_11_1
    refine RA.of2 hall hf hb (RA.stepH (L := [0, 5]) (Tell.of rfl) (by kernel_rfl) (by simp) (RA.each ?_ (RA.each ?_ (RA.each0))))
    ·skip
     refine RO.v rfl rfl (V.loadAgg rfl rfl rfl rfl rfl (Nat.le_of_ble_eq_true rfl)) rfl ?_
     exact RA.to2 hall hf hb (ro8_9 B bo8_11_1) rfl rfl (by kernel_rfl)
    ·skip
     refine RO.callP (k := 0) (spec_l15Command_fn ((belowN d size).2) k (belowN_ok hP.hc _) hP.hk.ok.okTo) rfl rfl rfl rfl (Nat.le_of_ble_eq_true rfl) (by decide) rfl (DT.r (DT.r (DT.r DT.e))) (AsPs.here rfl (.cons (.agg (.cons (.r .r) (.cons (.r .r) (.nil)))) (.nil))) fun go8_5_1 qo8_5_2 => ?_
     exact RA.to2 hall hf hb (ro8_10 B bo8_11_1 go8_5_1 qo8_5_2) rfl rfl (by kernel_rfl)
   have ro8_6 : ∀ B, ∀ (go8_5_1 : Nat → Nat → Value), ∀ (qo8_5_2 : Nat → Value), RA f E B all 10 (bt 15 62) ⟨40, [(0, .obj (bo 0) ((l01Cur.c ((commandN ((belowN d size).2) k).2)).map .r)), (29, I (IntKind.i64.wrap ((i : Int) + 2))), (32, .agg ((Command.c ((commandN ((belowN d size).2) k).1)).map .r))] ++ b0⟩ K := by
    intro B go8_5_1 qo8_5_2
    refine RA.of2 hall hf hb (RA.stepH (L := [0, 11]) (Tell.of rfl) (by kernel_rfl) (by simp) (RA.each ?_ (RA.each ?_ (RA.each0))))
    ·skip
     refine RO.v rfl rfl (V.loadAgg rfl rfl rfl rfl rfl (Nat.le_of_ble_eq_true rfl)) rfl ?_
     exact RA.to2 hall hf hb (ro8_8 B go8_5_1 qo8_5_2) rfl rfl (by kernel_rfl)
    ·skip
     refine RO.alloc (ds := [.r (.v (.slice none 0 0)), .r (.v (.slice none 0 0))]) rfl rfl rfl rfl rfl rfl fun bo8_11_1 => ?_
     exact RA.to2 hall hf hb (ro8_10 B bo8_11_1 go8_5_1 qo8_5_2) rfl rfl (by kernel_rfl)
   have ro8_5 : ∀ B, ∀ (bo8_11_1 : Nat), RA f E B all 10 (bt 15 2063) ⟨40, [(0, .obj (bo 0) ((l01Cur.c ((belowN d size).2)).map .r)), (9, .obj bo8_11_1 [.r (.v (.slice none 0 0)), .r (.v (.slice none 0 0))]), (27, .agg ((Keep.c k).map .r)), (29, I (IntKind.i64.wrap ((i : Int) + 2))), (30, .pt 0 (bo 0) 0)] ++ b0⟩ K := by
    intro B bo8_11_1
    refine RA.of2 hall hf hb (RA.stepH (L := [4]) (Tell.of rfl) (by kernel_rfl) (by simp) (RA.each ?_ (RA.each0)))
    ·skip
     refine RO.v rfl rfl (V.loadAgg rfl rfl rfl rfl rfl (Nat.le_of_ble_eq_true rfl)) rfl ?_
     exact RA.to2 hall hf hb (ro8_9 B bo8_11_1) rfl rfl (by kernel_rfl)
   have ro8_4 : ∀ B, RA f E B all 10 (bt 15 31) ⟨40, [(0, .obj (bo 0) ((l01Cur.c ((belowN d size).2)).map .r)), (27, .agg ((Keep.c k).map .r)), (29, I (IntKind.i64.wrap ((i : Int) + 2))), (30, .pt 0 (bo 0) 0), (31, .agg ((Keep.c k).map .r))] ++ b0⟩ K := by
    intro B
    refine RA.of2 hall hf hb (RA.stepH (L := [5, 11]) (Tell.of rfl) (by kernel_rfl) (by simp) (RA.each ?_ (RA.each ?_ (RA.each0))))
    ·skip
     refine RO.callP (k := 0) (spec_l15Command_fn ((belowN d size).2) k (belowN_ok hP.hc _) hP.hk.ok.okTo) rfl rfl rfl rfl (Nat.le_of_ble_eq_true rfl) (by decide) rfl (DT.r (DT.r (DT.r DT.e))) (AsPs.here rfl (.cons (.agg (.cons (.r .r) (.cons (.r .r) (.nil)))) (.nil))) fun go8_5_1 qo8_5_2 => ?_
     exact RA.to2 hall hf hb (ro8_8 B go8_5_1 qo8_5_2) rfl rfl (by kernel_rfl)
    ·skip
     refine RO.alloc (ds := [.r (.v (.slice none 0 0)), .r (.v (.slice none 0 0))]) rfl rfl rfl rfl rfl rfl fun bo8_11_1 => ?_
     exact RA.to2 hall hf hb (ro8_9 B bo8_11_1) rfl rfl (by kernel_rfl)
   have ro8_3 : ∀ B, ∀ (bo8_11_1 : Nat), RA f E B all 11 (bt 15 2062) ⟨40, [(0, .obj (bo 0) ((l01Cur.c ((belowN d size).2)).map .r)), (9, .obj bo8_11_1 [.r (.v (.slice none 0 0)), .r (.v (.slice none 0 0))]), (29, I (IntKind.i64.wrap ((i : Int) + 2))), (30, .pt 0 (bo 0) 0)] ++ b0⟩ K := by
    intro B bo8_11_1
    refine RA.of2 hall hf hb (RA.stepH (L := [0, 4]) (Tell.of rfl) (by kernel_rfl) (by simp) (RA.each ?_ (RA.each ?_ (RA.each0))))
    ·skip
     refine RO.v rfl rfl (V.loadAgg rfl rfl rfl rfl rfl (Nat.le_of_ble_eq_true rfl)) rfl ?_
     exact RA.to2 hall hf hb (ro8_5 B bo8_11_1) rfl rfl (by kernel_rfl)
    ·skip
     refine RO.v rfl rfl (V.loadAgg rfl rfl rfl rfl rfl (Nat.le_of_ble_eq_true rfl)) rfl ?_
     exact RA.to2 hall hf hb (ro8_7 B bo8_11_1) rfl rfl (by kernel_rfl)
   have ro8_2 : ∀ B, RA f E B all 11 (bt 15 30) ⟨40, [(0, .obj (bo 0) ((l01Cur.c ((belowN d size).2)).map .r)), (29, I (IntKind.i64.wrap ((i : Int) + 2))), (30, .pt 0 (bo 0) 0), (31, .agg ((Keep.c k).map .r))] ++ b0⟩ K := by
    intro B
    refine RA.of2 hall hf hb (RA.stepH (L := [0, 5, 11]) (Tell.of rfl) (by kernel_rfl) (by simp) (RA.each ?_ (RA.each ?_ (RA.each ?_ (RA.each0)))))
    ·skip
     refine RO.v rfl rfl (V.loadAgg rfl rfl rfl rfl rfl (Nat.le_of_ble_eq_true rfl)) rfl ?_
     exact RA.to2 hall hf hb (ro8_4 B) rfl rfl (by kernel_rfl)
    ·skip
     refine RO.callP (k := 0) (spec_l15Command_fn ((belowN d size).2) k (belowN_ok hP.hc _) hP.hk.ok.okTo) rfl rfl rfl rfl (Nat.le_of_ble_eq_true rfl) (by decide) rfl (DT.r (DT.r (DT.r DT.e))) (AsPs.here rfl (.cons (.agg (.cons (.r .r) (.cons (.r .r) (.nil)))) (.nil))) fun go8_5_1 qo8_5_2 => ?_
     exact RA.to2 hall hf hb (ro8_6 B go8_5_1 qo8_5_2) rfl rfl (by kernel_rfl)
    ·skip
     refine RO.alloc (ds := [.r (.v (.slice none 0 0)), .r (.v (.slice none 0 0))]) rfl rfl rfl rfl rfl rfl fun bo8_11_1 => ?_
     exact RA.to2 hall hf hb (ro8_7 B bo8_11_1) rfl rfl (by kernel_rfl)
   have ro8_1 : ∀ B, RA f E B all 11 (bt 15 15) ⟨40, [(0, .obj (bo 0) ((l01Cur.c ((belowN d size).2)).map .r)), (27, .agg ((Keep.c k).map .r)), (29, I (IntKind.i64.wrap ((i : Int) + 2))), (30, .pt 0 (bo 0) 0)] ++ b0⟩ K := by
    intro B
    refine RA.of2 hall hf hb (RA.stepH (L := [4, 11]) (Tell.of rfl) (by kernel_rfl) (by simp) (RA.each ?_ (RA.each ?_ (RA.each0))))
    ·skip
     refine RO.v rfl rfl (V.loadAgg rfl rfl rfl rfl rfl (Nat.le_of_ble_eq_true rfl)) rfl ?_
     exact RA.to2 hall hf hb (ro8_4 B) rfl rfl (by kernel_rfl)
    ·skip
     refine RO.alloc (ds := [.r (.v (.slice none 0 0)), .r (.v (.slice none 0 0))]) rfl rfl rfl rfl rfl rfl fun bo8_11_1 => ?_
     exact RA.to2 hall hf hb (ro8_5 B bo8_11_1) rfl rfl (by kernel_rfl)
   have ro8_0 : ∀ B, RA f E B all 12 (bt 15 14) ⟨40, [(0, .obj (bo 0) ((l01Cur.c ((belowN d size).2)).map .r)), (29, I (IntKind.i64.wrap ((i : Int) + 2))), (30, .pt 0 (bo 0) 0)] ++ b0⟩ K := by
    intro B
    refine RA.of2 hall hf hb (RA.stepH (L := [0, 4, 11]) (Tell.of rfl) (by kernel_rfl) (by simp) (RA.each ?_ (RA.each ?_ (RA.each ?_ (RA.each0)))))
    ·skip
     refine RO.v rfl rfl (V.loadAgg rfl rfl rfl rfl rfl (Nat.le_of_ble_eq_true rfl)) rfl ?_
     exact RA.to2 hall hf hb (ro8_1 B) rfl rfl (by kernel_rfl)
    ·skip
     refine RO.v rfl rfl (V.loadAgg rfl rfl rfl rfl rfl (Nat.le_of_ble_eq_true rfl)) rfl ?_
     exact RA.to2 hall hf hb (ro8_2 B) rfl rfl (by kernel_rfl)
    ·skip
     refine RO.alloc (ds := [.r (.v (.slice none 0 0)), .r (.v (.slice none 0 0))]) rfl rfl rfl rfl rfl rfl fun bo8_11_1 => ?_
     exact RA.to2 hall hf hb (ro8_3 B bo8_11_1) rfl rfl (by kernel_rfl)
   refine RA.start (by kernel_rfl) (by kernel_rfl) (m := 15) (ls' := (bt 15 0)) ?_
   refine RA.fr XK 40 12 [1,2,3] (bt 15 14) rfl rfl (by kernel_rfl) (Tell.of rfl) ?_
   (conv=>whnf);refine ⟨rfl,fun B=>?_⟩
   exact RA.to2 hall hf hb (ro8_0 B) rfl rfl (by kernel_rfl)
  ·rintro ⟨bo8_11_1, go8_5_1, go8_6_1, qo8_5_2⟩
   refine CW.k XK 40 1 [0,1,4,5,8,9,37] rfl ?_
   (conv=>whnf);refine ⟨rfl,?_⟩
   refine CW.cond rfl (fun h9 => ?_) (fun h9 => ?_)
   ·skip
    refine CW.region ?_
    refine RW.k XK 40 2 rfl ?_
    (conv=>whnf);refine ⟨rfl,?_⟩
    refine RW.nil ?_
    refine CW.keep 40 [0,1,4,5,8] rfl ?_;(conv=>whnf);refine ⟨?_⟩
    refine CW.region ?_
    refine RW.k XK 40 1 rfl ?_
    (conv=>whnf);refine ⟨rfl,?_⟩
    refine RW.v rfl (V.inc rfl rfl rfl (by have h9 := hP.lt hlt; omega) (by have h9 := hP.lt hlt; have h8 : size.toNat ≤ 40 := (by omega); simp only [maxLen]; omega)) ?_
    refine RW.k XK 40 1 rfl ?_
    (conv=>whnf);refine ⟨rfl,?_⟩
    refine RW.nil ?_
    exact ⟨(i + 1, _, _), by have h9 := hP.lt hlt; simp only []; omega, (hP.stepW hs hlt (by assumption) (by first | rfl | simp)), rfl, Le.c rfl <| Le.c rfl <| Le.c rfl <| Le.c rfl <| Le.c rfl <| Le.e⟩
   ·skip
    refine CW.skip ?_
    refine CW.keep 40 [0,1,4,5,8] rfl ?_;(conv=>whnf);refine ⟨?_⟩
    refine CW.region ?_
    refine RW.k XK 40 1 rfl ?_
    (conv=>whnf);refine ⟨rfl,?_⟩
    refine RW.v rfl (V.inc rfl rfl rfl (by have h9 := hP.lt hlt; omega) (by have h9 := hP.lt hlt; have h8 : size.toNat ≤ 40 := (by omega); simp only [maxLen]; omega)) ?_
    refine RW.k XK 40 1 rfl ?_
    (conv=>whnf);refine ⟨rfl,?_⟩
    refine RW.nil ?_
    exact ⟨(i + 1, _, _), by have h9 := hP.lt hlt; simp only []; omega, (hP.stepW hs hlt (by assumption) (by first | rfl | simp)), rfl, Le.c rfl <| Le.c rfl <| Le.c rfl <| Le.c rfl <| Le.c rfl <| Le.e⟩
 ·skip
  have hfin := hP.fin (of_decide_eq_false h7)
  refine CW.exit ?_
  refine CW.keep 40 [0,4,5] rfl ?_;(conv=>whnf);refine ⟨?_⟩
  refine CW.k XK 40 1 [0,4] rfl ?_
  (conv=>whnf);refine ⟨rfl,?_⟩
  refine CW.ret ?_
  exact Post.one (RV.c (f := fun e => (Keep.c e).map .r) (e' := k) rfl rfl rfl rfl (DT.r (DT.r DT.e)) (by rw [hfin])) (AOs.obE (f := fun e => (l01Cur.c e).map .r) (e' := ((belowN d size).2)) rfl (DT.r (DT.r (DT.r DT.e))) (by rw [hfin]) (AOs.r AOs.e))
set_option maxHeartbeats 4000000 in
theorem spec_DrawTalk_fn (code : List Int) : Eng.Fn E.P 15 [.one (.r (sl 1 cU code))] (.tup [.agg ((Keep.c ((talkK code).1)).map .r), .agg ((Command.c (talkX code)).map .w)]) [.one (.r (sl 1 cU code))] := by
 refine Eng.Fn.intro (E := E) (rvs := [.cell 2 31, .cell 3 38]) Tryd.func15 rfl rfl rfl (by simp [outSlots, moved, rvSlot, sl]) ?_
 intro B g bo
 refine CW.bound (x := .tmp 0) (n := code.length) (AsT.r) (fun hl0 => ?_)
 refine CW.keep 16 [0] rfl ?_;(conv=>whnf);refine ⟨?_⟩
 refine CW.k XK 16 1 [0,2,3] rfl ?_
 (conv=>whnf);intro b1;(conv=>whnf);intro b2;(conv=>whnf);refine ⟨rfl,?_⟩
 refine CW.seq ?_
 refine CW.region ?_
 refine RW.k XK 16 1 rfl ?_
 (conv=>whnf);refine ⟨rfl,?_⟩
 refine RW.call rfl (spec_l01New_fn code) rfl (.cons (.one (.r .r)) (.nil)) fun g3 => ?_
 refine RW.k XK 16 1 rfl ?_
 (conv=>whnf);refine ⟨rfl,?_⟩
 refine RW.nil ?_
 refine CW.keep 16 [0,2,3,4,7] rfl ?_;(conv=>whnf);refine ⟨?_⟩
 refine CW.seq ?_
 refine CW.region ?_
 refine RW.k XK 16 2 rfl ?_
 (conv=>whnf);refine ⟨rfl,?_⟩
 refine RW.call rfl (spec_l15Size_fn code) rfl (.cons (.one (.r .r)) (.nil)) fun g4 => ?_
 refine RW.callP (k := 7) (spec_l15Keep_fn (cur0 code) (talkSize code) (cur0_ok hl0).2 (by have h9 := talkSize_le code; omega)) rfl rfl (Nat.le_of_ble_eq_true rfl) (by decide) rfl (DT.r (DT.r (DT.r DT.e))) (AsPs.here rfl (.cons (.one (.r .r)) (.nil))) fun g5 q6 => ?_
 refine RW.k XK 16 2 rfl ?_
 (conv=>whnf);intro b7;(conv=>whnf);refine ⟨rfl,?_⟩
 refine RW.freezeB (ts := (Keep.c ((keepN (cur0 code) (talkSize code)).1))) 5 rfl (DRd.r (DRd.r DRd.e)) ?_
 refine RW.nil ?_
 refine CW.keep 16 [2,3,4,5,7] rfl ?_;(conv=>whnf);refine ⟨?_⟩
 refine CW.anyJ2 (fc := []) (L0 := []) 16 (fun (zz : (Nat → Nat → Value) × (Nat → Value)) => match zz with | (go8_3_1, qo8_3_2) => [(2, .obj b1 ((Keep.c ((keepN (cur0 code) (talkSize code)).1)).map .r)), (3, .obj b2 ((Command.c ((commandN ((keepN (cur0 code) (talkSize code)).2) ((keepN (cur0 code) (talkSize code)).1)).1)).map .r))]) (fun all hall f hf b0 hb K hK => ?_) ?_
 ·skip
  have ro8_3 : ∀ B, ∀ (go8_3_1 : Nat → Nat → Value), ∀ (qo8_3_2 : Nat → Value), RA f E B all 0 (bt 6 63) ⟨16, [(2, .obj b1 ((Keep.c ((keepN (cur0 code) (talkSize code)).1)).map .r)), (3, .obj b2 ((Command.c ((commandN ((keepN (cur0 code) (talkSize code)).2) ((keepN (cur0 code) (talkSize code)).1)).1)).map .r))] ++ b0⟩ K := by
   intro B go8_3_1 qo8_3_2
   exact RA.of2 hall hf hb (RA.finH (Tell.of rfl) (by kernel_rfl) (hK (go8_3_1, qo8_3_2) _ rfl (Le.of rfl)))
  have ro8_2 : ∀ B, ∀ (go8_3_1 : Nat → Nat → Value), ∀ (qo8_3_2 : Nat → Value), RA f E B all 1 (bt 6 31) ⟨16, [(2, .obj b1 ((Keep.c ((keepN (cur0 code) (talkSize code)).1)).map .r)), (3, .obj b2 [I 0, I 0, I 0, S (⟨#[]⟩), S (⟨#[]⟩), I 0]), (15, .agg ((Command.c ((commandN ((keepN (cur0 code) (talkSize code)).2) ((keepN (cur0 code) (talkSize code)).1)).1)).map .r))] ++ b0⟩ K := by
   intro B go8_3_1 qo8_3_2
   refine RA.of2 hall hf hb (RA.stepH (L := [5]) (Tell.of rfl) (by kernel_rfl) (by simp) (RA.each ?_ (RA.each0)))
   ·skip
    refine RO.storeAgg (es := ((Command.c ((commandN ((keepN (cur0 code) (talkSize code)).2) ((keepN (cur0 code) (talkSize code)).1)).1)).map .r)) rfl rfl rfl rfl rfl rfl rfl rfl rfl rfl (Nat.le_of_ble_eq_true rfl) rfl ?_
    exact RA.to2 hall hf hb (ro8_3 B go8_3_1 qo8_3_2) rfl rfl (by kernel_rfl)
  have ro8_1 : ∀ B, ∀ (go8_3_1 : Nat → Nat → Value), ∀ (qo8_3_2 : Nat → Value), RA f E B all 2 (bt 6 15) ⟨16, [(2, .obj b1 [.r (.v (.slice none 0 0)), .r (.v (.slice none 0 0))]), (3, .obj b2 [I 0, I 0, I 0, S (⟨#[]⟩), S (⟨#[]⟩), I 0]), (12, .agg ((Keep.c ((keepN (cur0 code) (talkSize code)).1)).map .r)), (15, .agg ((Command.c ((commandN ((keepN (cur0 code) (talkSize code)).2) ((keepN (cur0 code) (talkSize code)).1)).1)).map .r))] ++ b0⟩ K := by
   intro B go8_3_1 qo8_3_2
   refine RA.of2 hall hf hb (RA.stepH (L := [4]) (Tell.of rfl) (by kernel_rfl) (by simp) (RA.each ?_ (RA.each0)))
   ·skip
    refine RO.storeAgg (es := ((Keep.c ((keepN (cur0 code) (talkSize code)).1)).map .r)) rfl rfl rfl rfl rfl rfl rfl rfl rfl rfl (Nat.le_of_ble_eq_true rfl) rfl ?_
    exact RA.to2 hall hf hb (ro8_2 B go8_3_1 qo8_3_2) rfl rfl (by kernel_rfl)
  have ro8_0 : ∀ B, RA f E B all 3 (bt 6 7) ⟨16, [(2, .obj b1 [.r (.v (.slice none 0 0)), .r (.v (.slice none 0 0))]), (3, .obj b2 [I 0, I 0, I 0, S (⟨#[]⟩), S (⟨#[]⟩), I 0]), (7, .obj (blk (g3 0 3)) ((l01Cur.c ((keepN (cur0 code) (talkSize code)).2)).map .r)), (12, .agg ((Keep.c ((keepN (cur0 code) (talkSize code)).1)).map .r)), (13, .pt 7 (blk (g3 0 3)) 0), (14, .agg ((Keep.c ((keepN (cur0 code) (talkSize code)).1)).map .r))] ++ b0⟩ K := by
   intro B
   refine RA.of2 hall hf hb (RA.stepH (L := [3]) (Tell.of rfl) (by kernel_rfl) (by simp) (RA.each ?_ (RA.each0)))
   ·skip
    refine RO.callP (k := 7) (spec_l15Command_fn ((keepN (cur0 code) (talkSize code)).2) ((keepN (cur0 code) (talkSize code)).1) (talk_good hl0).2 (talk_good hl0).1.ok.okTo) rfl rfl rfl rfl (Nat.le_of_ble_eq_true rfl) (by decide) rfl (DT.r (DT.r (DT.r DT.e))) (AsPs.here rfl (.cons (.agg (.cons (.r .r) (.cons (.r .r) (.nil)))) (.nil))) fun go8_3_1 qo8_3_2 => ?_
    exact RA.to2 hall hf hb (ro8_1 B go8_3_1 qo8_3_2) rfl rfl (by kernel_rfl)
  refine RA.start (by kernel_rfl) (by kernel_rfl) (m := 6) (ls' := (bt 6 0)) ?_
  refine RA.fr XK 16 3 [0,1,2] (bt 6 7) rfl rfl (by kernel_rfl) (Tell.of rfl) ?_
  (conv=>whnf);refine ⟨rfl,fun B=>?_⟩
  exact RA.to2 hall hf hb (ro8_0 B) rfl rfl (by kernel_rfl)
 ·rintro ⟨go8_3_1, qo8_3_2⟩
  refine CW.ret ?_
  exact Post.tup (by decide) (RVs.c (RV.c (f := fun e => (Keep.c e).map .r) (e' := ((keepN (cur0 code) (talkSize code)).1)) rfl rfl rfl rfl (DT.r (DT.r DT.e)) (by rfl)) (RVs.c (RV.c (f := fun e => (Command.c e).map .w) (e' := ((commandN ((keepN (cur0 code) (talkSize code)).2) ((keepN (cur0 code) (talkSize code)).1)).1)) rfl rfl rfl rfl (DT.v (DT.v (DT.v (DT.v (DT.v (DT.v DT.e)))))) (by rfl)) RVs.e)) (AOs.r AOs.e)
set_option maxHeartbeats 4000000 in
theorem spec_SameKeep_fn (a : Keep) (b : Keep) (hok : okToKeep a) : Eng.Fn E.P 22 [.agg ((Keep.c a).map .r), .agg ((Keep.c b).map .r)] (.one (.one (.w (.v (.bool (eqKeep a b)))))) [.agg ((Keep.c a).map .r), .agg ((Keep.c b).map .r)] := by
 refine Eng.Fn.intro (E := E) (rvs := [.tmp 4]) Tryd.func22 rfl rfl rfl (by simp [outSlots, moved, rvSlot, sl]) ?_
 intro B g bo
 refine CW.keep 59 [0,1] rfl ?_;(conv=>whnf);refine ⟨?_⟩
 have hl1 : a.sessions.length ≤ maxLen := by have := hok.1.1; simp only [maxLen]; omega
 have hl2 : a.items.length ≤ maxLen := by have := hok.2.1; simp only [maxLen]; omega
 refine CW.seq ?_
 refine CW.region ?_
 refine RW.k XK 59 1 rfl ?_
 (conv=>whnf);intro b1;(conv=>whnf);refine ⟨rfl,?_⟩
 refine RW.freezeB (ts := (Keep.c a)) 2 rfl (DRd.r (DRd.r DRd.e)) ?_
 refine RW.k XK 59 1 rfl ?_
 (conv=>whnf);intro b2;(conv=>whnf);refine ⟨rfl,?_⟩
 refine RW.freezeB (ts := (Keep.c b)) 3 rfl (DRd.r (DRd.r DRd.e)) ?_
 refine RW.k XK 59 1 rfl ?_
 (conv=>whnf);refine ⟨rfl,?_⟩
 refine RW.nil ?_
 refine CW.keep 59 [2,3] rfl ?_;(conv=>whnf);refine ⟨?_⟩
 refine CW.seq ?_
 refine CW.seqJ 59 (fun (v3 : Bool) => [(2, .rp (Keep.c a)), (3, .rp (Keep.c b)), (22, Bo v3)]) (fun v3 => v3 = (((a.sessions.length : Int) != (b.sessions.length : Int)) || ((a.items.length : Int) != (b.items.length : Int)))) ?_ ?_
 ·refine CW.region ?_
  refine RW.k XK 59 8 rfl ?_
  (conv=>whnf);refine ⟨rfl,?_⟩
  refine RW.gv rfl rfl rfl rfl (fun h4 => V.fieldR rfl rfl rfl rfl (by decide) rfl (Nat.le_of_ble_eq_true rfl)) (fun h4 => ?_) (fun h4 => ?_)
  ·skip
   refine RW.k XK 59 7 rfl ?_
   (conv=>whnf);refine ⟨rfl,?_⟩
   refine RW.nil ?_
   exact ⟨_, by first | rfl | (simp_all; done) | (simp_all; omega) | grind, rfl, Le.of rfl⟩
  ·skip
   refine RW.k XK 59 7 rfl ?_
   (conv=>whnf);refine ⟨rfl,?_⟩
   refine RW.nil ?_
   exact ⟨_, by first | rfl | (simp_all; done) | (simp_all; omega) | grind, rfl, Le.of rfl⟩
 ·intro v3 hv5
  refine CW.cond rfl (fun h6 => ?_) (fun h6 => ?_)
  ·skip
   have hne := hv5.symm.trans h6
   refine CW.k XK 59 1 [4] rfl ?_
   (conv=>whnf);refine ⟨rfl,?_⟩
   refine CW.ret ?_
   exact Post.one (RV.b rfl (by exact (eqK_len hne).symm)) (AOs.a rfl (AOs.a rfl AOs.e))
  ·skip
   obtain ⟨he1, he2⟩ : a.sessions.length = b.sessions.length ∧ a.items.length = b.items.length := by have hne := hv5.symm.trans h6; simp at hne; omega
   refine CW.skip ?_
   refine CW.keep 59 [2,3] rfl ?_;(conv=>whnf);refine ⟨?_⟩
   refine CW.seq ?_
   refine CW.k XK 59 1 [2,3,5] rfl ?_
   (conv=>whnf);refine ⟨rfl,?_⟩
   refine CW.block ?_
   refine CW.loopI 59 (fun (i : Nat) => [(2, .rp (Keep.c a)), (3, .rp (Keep.c b)), (5, I (i : Int))]) (fun (i : Nat) => i ≤ a.sessions.length ∧ eqS eqSession (a.sessions.drop i) (b.sessions.drop i) = eqS eqSession a.sessions b.sessions) (fun (i : Nat) => a.sessions.length - i) 0 rfl (Le.c rfl <| Le.c rfl <| Le.c rfl <| Le.e) ⟨by omega, rfl⟩ ?_
   rintro i ⟨hbi, hri⟩
   refine CW.seq ?_
   refine CW.k XK 59 1 [2,3,5,27] rfl ?_
   (conv=>whnf);refine ⟨rfl,?_⟩
   refine CW.cond rfl (fun h7 => ?_) (fun h7 => ?_)
   ·skip
    have hii : i < a.sessions.length := by have := h7; simp at this; first | exact this | omega | (simp; done) | (simp; omega)
    obtain ⟨ei, hei⟩ : ∃ e, a.sessions[i]? = some e := ⟨_, List.getElem?_eq_getElem hii⟩
    have hdi := drop_get hei
    obtain ⟨fi, hfi⟩ : ∃ e, b.sessions[i]? = some e := ⟨_, List.getElem?_eq_getElem (by omega)⟩
    refine CW.skip ?_
    refine CW.keep 59 [2,3,5] rfl ?_;(conv=>whnf);refine ⟨?_⟩
    refine CW.seq ?_
    refine CW.block ?_
    refine CW.seq ?_
    refine CW.drawn (by kernel_rfl) ?_
    refine RQ.k XK 59 3 rfl ?_
    (conv=>whnf);refine ⟨rfl,?_⟩
    refine RQ.v rfl (V.indexS rfl rfl rfl rfl rfl rfl Session.len hei) ?_
    refine RQ.k XK 59 4 rfl ?_
    (conv=>whnf);refine ⟨rfl,?_⟩
    refine RQ.v rfl (V.indexS rfl rfl rfl rfl rfl rfl Session.len hfi) ?_
    refine RQ.k XK 59 1 rfl ?_
    (conv=>whnf);refine ⟨rfl,?_⟩
    refine RQ.v rfl (V.eqAgg (xs := Session.vs ei) (ys := Session.vs fi) rfl rfl rfl (by kernel_rfl) (eq48 ei fi) (.inr ⟨rfl, rfl⟩)) ?_
    refine RQ.nil ?_
    refine CW.keep 59 [2,3,5,40] rfl ?_;(conv=>whnf);refine ⟨?_⟩
    refine CW.cond rfl (fun h8 => ?_) (fun h8 => ?_)
    ·skip
     have he9 := h8
     refine CW.k XK 59 1 [4] rfl ?_
     (conv=>whnf);refine ⟨rfl,?_⟩
     refine CW.ret ?_
     exact Post.one (RV.b rfl (by rw [eqKeep, ← hri, eqS_step hei hfi, if_neg (by simpa using he9)]; rfl)) (AOs.a rfl (AOs.a rfl AOs.e))
    ·skip
     have he9 := h8
     refine CW.skip ?_
     refine CW.keep 59 [2,3,5] rfl ?_;(conv=>whnf);refine ⟨?_⟩
     refine CW.region ?_
     refine RW.k XK 59 1 rfl ?_
     (conv=>whnf);refine ⟨rfl,?_⟩
     refine RW.v rfl (V.inc rfl rfl rfl hii hl1) ?_
     refine RW.k XK 59 1 rfl ?_
     (conv=>whnf);refine ⟨rfl,?_⟩
     refine RW.nil ?_
     exact ⟨i + 1, by omega, ⟨by omega, by rw [← hri, eqS_step hei hfi, if_pos (by simpa using he9)]⟩, rfl, Le.c rfl <| Le.c rfl <| Le.c rfl <| Le.e⟩
   ·skip
    have hii : a.sessions.length ≤ i := by have := h7; simp at this; first | exact this | omega | (simp; done) | (simp; omega)
    have hdi : a.sessions.drop i = [] := List.drop_eq_nil_of_le hii
    have hqi : eqS eqSession a.sessions b.sessions = true := by rw [← hri]; exact eqS_end hii he1
    refine CW.exit ?_
    refine CW.keep 59 [2,3] rfl ?_;(conv=>whnf);refine ⟨?_⟩
    refine CW.seq ?_
    refine CW.k XK 59 1 [2,3,6] rfl ?_
    (conv=>whnf);refine ⟨rfl,?_⟩
    refine CW.block ?_
    refine CW.loopI 59 (fun (j : Nat) => [(2, .rp (Keep.c a)), (3, .rp (Keep.c b)), (6, I (j : Int))]) (fun (j : Nat) => j ≤ a.items.length ∧ eqS eqItem (a.items.drop j) (b.items.drop j) = eqS eqItem a.items b.items) (fun (j : Nat) => a.items.length - j) 0 rfl (Le.c rfl <| Le.c rfl <| Le.c rfl <| Le.e) ⟨by omega, rfl⟩ ?_
    rintro j ⟨hbj, hrj⟩
    refine CW.seq ?_
    refine CW.k XK 59 1 [2,3,6,45] rfl ?_
    (conv=>whnf);refine ⟨rfl,?_⟩
    refine CW.cond rfl (fun h9 => ?_) (fun h9 => ?_)
    ·skip
     have hij : j < a.items.length := by have := h9; simp at this; first | exact this | omega | (simp; done) | (simp; omega)
     obtain ⟨ej, hej⟩ : ∃ e, a.items[j]? = some e := ⟨_, List.getElem?_eq_getElem hij⟩
     have hdj := drop_get hej
     obtain ⟨fj, hfj⟩ : ∃ e, b.items[j]? = some e := ⟨_, List.getElem?_eq_getElem (by omega)⟩
     refine CW.skip ?_
     refine CW.keep 59 [2,3,6] rfl ?_;(conv=>whnf);refine ⟨?_⟩
     refine CW.seq ?_
     refine CW.block ?_
     refine CW.seq ?_
     refine CW.drawn (by kernel_rfl) ?_
     refine RQ.k XK 59 3 rfl ?_
     (conv=>whnf);refine ⟨rfl,?_⟩
     refine RQ.v rfl (V.indexS rfl rfl rfl rfl rfl rfl Item.len hej) ?_
     refine RQ.k XK 59 4 rfl ?_
     (conv=>whnf);refine ⟨rfl,?_⟩
     refine RQ.v rfl (V.indexS rfl rfl rfl rfl rfl rfl Item.len hfj) ?_
     refine RQ.k XK 59 1 rfl ?_
     (conv=>whnf);refine ⟨rfl,?_⟩
     refine RQ.v rfl (V.eqAgg (xs := Item.vs ej) (ys := Item.vs fj) rfl rfl rfl (by kernel_rfl) (eq42 ej fj) (.inr ⟨rfl, rfl⟩)) ?_
     refine RQ.nil ?_
     refine CW.keep 59 [2,3,6,58] rfl ?_;(conv=>whnf);refine ⟨?_⟩
     refine CW.cond rfl (fun h10 => ?_) (fun h10 => ?_)
     ·skip
      have he9 := h10
      refine CW.k XK 59 1 [4] rfl ?_
      (conv=>whnf);refine ⟨rfl,?_⟩
      refine CW.ret ?_
      exact Post.one (RV.b rfl (by rw [eqKeep, ← hrj, eqS_step hej hfj, if_neg (by simpa using he9)]; simp)) (AOs.a rfl (AOs.a rfl AOs.e))
     ·skip
      have he9 := h10
      refine CW.skip ?_
      refine CW.keep 59 [2,3,6] rfl ?_;(conv=>whnf);refine ⟨?_⟩
      refine CW.region ?_
      refine RW.k XK 59 1 rfl ?_
      (conv=>whnf);refine ⟨rfl,?_⟩
      refine RW.v rfl (V.inc rfl rfl rfl hij hl2) ?_
      refine RW.k XK 59 1 rfl ?_
      (conv=>whnf);refine ⟨rfl,?_⟩
      refine RW.nil ?_
      exact ⟨j + 1, by omega, ⟨by omega, by rw [← hrj, eqS_step hej hfj, if_pos (by simpa using he9)]⟩, rfl, Le.c rfl <| Le.c rfl <| Le.c rfl <| Le.e⟩
    ·skip
     have hij : a.items.length ≤ j := by have := h9; simp at this; first | exact this | omega | (simp; done) | (simp; omega)
     have hdj : a.items.drop j = [] := List.drop_eq_nil_of_le hij
     have hqj : eqS eqItem a.items b.items = true := by rw [← hrj]; exact eqS_end hij he2
     refine CW.exit ?_
     refine CW.keep 59 [] rfl ?_;(conv=>whnf);refine ⟨?_⟩
     refine CW.k XK 59 1 [4] rfl ?_
     (conv=>whnf);refine ⟨rfl,?_⟩
     refine CW.ret ?_
     exact Post.one (RV.b rfl (by rw [eqKeep, hqi, hqj]; rfl)) (AOs.a rfl (AOs.a rfl AOs.e))
set_option maxHeartbeats 4000000 in
theorem laws_starts_fn (a : ByteArray) (b : ByteArray) : Eng.Fn E.P 25 [.one (.r (.v (.string a))), .one (.r (.v (.string b)))] (.one (.one (.w (.v (.bool (startsB a b)))))) [.one (.r (.v (.string a))), .one (.r (.v (.string b)))] := by
 refine Eng.Fn.intro (E := E) (rvs := [.tmp 4]) Tryd.func25 rfl rfl rfl (by simp [outSlots, moved, rvSlot, sl]) ?_
 intro B g bo
 refine CW.keep 18 [0,1] rfl ?_;(conv=>whnf);refine ⟨?_⟩
 refine CW.k XK 18 1 [0,1] rfl ?_
 (conv=>whnf);refine ⟨rfl,?_⟩
 refine CW.seqJ 18 (fun (v1 : Bool) => [(4, Bo v1)]) (fun v1 => v1 = (decide ((a.size : Int) ≤ (b.size : Int)) && ((b.extract (0 : Int).toNat (a.size : Int).toNat).toList == a.toList))) ?_ ?_
 ·refine CW.region ?_
  refine RW.k XK 18 6 rfl ?_
  (conv=>whnf);refine ⟨rfl,?_⟩
  refine RW.gv rfl rfl rfl rfl (fun h2 => V.mv (d := S b) rfl rfl) (fun h2 => ?_) (fun h2 => ?_)
  ·skip
   refine RW.k XK 18 2 rfl ?_
   (conv=>whnf);refine ⟨rfl,?_⟩
   refine RW.gt rfl rfl rfl rfl (V.strSlice (l := 0) (h := (a.size : Int)) rfl (by kernel_rfl) rfl (.inl ⟨rfl, rfl⟩) (.inr ⟨_, _, rfl, rfl⟩) (by simp at h2; omega)) ?_
   refine RW.k XK 18 4 rfl ?_
   (conv=>whnf);refine ⟨rfl,?_⟩
   refine RW.nil ?_
   exact ⟨_, by first | rfl | (simp_all; done) | (simp_all; omega) | grind, rfl, Le.of rfl⟩
  ·skip
   refine RW.k XK 18 7 rfl ?_
   (conv=>whnf);refine ⟨rfl,?_⟩
   refine RW.nil ?_
   exact ⟨_, by first | rfl | (simp_all; done) | (simp_all; omega) | grind, rfl, Le.of rfl⟩
 ·intro v1 hv3
  refine CW.ret ?_
  exact Post.one (RV.b rfl (by simp_all [startsB])) (AOs.r (AOs.r AOs.e))
set_option maxHeartbeats 4000000 in
theorem laws_FnSessions_fn (code : List Int) : Eng.Fn E.P 6 [.one (.r (sl 1 cU code))] (.one (.one (.w (.v (.bool true))))) [.one (.r (sl 1 cU code))] := by
 refine Eng.Fn.intro (E := E) (rvs := [.tmp 2]) Tryd.func6 rfl rfl rfl (by simp [outSlots, moved, rvSlot, sl]) ?_
 intro B g bo
 refine CW.bound (x := .tmp 0) (n := code.length) (AsT.r) (fun hl0 => ?_)
 refine CW.keep 174 [0] rfl ?_;(conv=>whnf);refine ⟨?_⟩
 have hG := talk_good hl0
 have hX := talkX_good hl0
 have hL := sesL hG.1 hX
 have hA := KOk.of hL.good
 refine CW.k XK 174 1 [0] rfl ?_
 (conv=>whnf);refine ⟨rfl,?_⟩
 refine CW.seq ?_
 refine CW.seq ?_
 refine CW.region ?_
 refine RW.k XK 174 1 rfl ?_
 (conv=>whnf);refine ⟨rfl,?_⟩
 refine RW.call rfl (laws_big_fn code) rfl (.cons (.one (.r .r)) (.nil)) fun g1 => ?_
 refine RW.nil ?_
 refine CW.keep 174 [0,24] rfl ?_;(conv=>whnf);refine ⟨?_⟩
 refine CW.cond rfl (fun h2 => ?_) (fun h2 => ?_)
 ·skip
  refine CW.k XK 174 1 [2] rfl ?_
  (conv=>whnf);refine ⟨rfl,?_⟩
  refine CW.ret ?_
  exact Post.one (RV.b rfl (by rfl)) (AOs.r AOs.e)
 ·skip
  refine CW.skip ?_
  refine CW.keep 174 [0] rfl ?_;(conv=>whnf);refine ⟨?_⟩
  refine CW.seq ?_
  refine CW.region ?_
  refine RW.k XK 174 1 rfl ?_
  (conv=>whnf);refine ⟨rfl,?_⟩
  refine RW.call rfl (spec_DrawTalk_fn code) rfl (.cons (.one (.r .r)) (.nil)) fun g3 => ?_
  refine RW.k XK 174 6 rfl ?_
  (conv=>whnf);intro b4;(conv=>whnf);intro b5;(conv=>whnf);refine ⟨rfl,?_⟩
  refine RW.freezeB (ts := (Keep.c ((talkK code).1))) 3 rfl (DRd.r (DRd.r DRd.e)) ?_
  refine RW.k XK 174 1 rfl ?_
  (conv=>whnf);refine ⟨rfl,?_⟩
  refine RW.freezeB (ts := (Command.c (talkX code))) 4 rfl (DRd.r (DRd.r (DRd.r (DRd.r (DRd.r (DRd.r DRd.e)))))) ?_
  refine RW.nil ?_
  refine CW.keep 174 [3,4] rfl ?_;(conv=>whnf);refine ⟨?_⟩
  refine CW.seq ?_
  refine CW.region ?_
  refine RW.k XK 174 2 rfl ?_
  (conv=>whnf);refine ⟨rfl,?_⟩
  refine RW.call rfl (impl_Perform_fn ((talkK code).1) 60 (talkX code) hG.1.ok.okTo) rfl (.cons (.agg (.cons (.r .r) (.cons (.r .r) (.nil)))) (.cons (.one (.r .r)) (.cons (.agg (.cons (.r .r) (.cons (.r .r) (.cons (.r .r) (.cons (.r .r) (.cons (.r .r) (.cons (.r .r) (.nil)))))))) (.nil)))) fun g6 => ?_
  refine RW.k XK 174 6 rfl ?_
  (conv=>whnf);intro b7;(conv=>whnf);refine ⟨rfl,?_⟩
  refine RW.freezeB (ts := (Keep.c ((perfK ((talkK code).1) 60 (talkX code)).1))) 5 rfl (DRd.r (DRd.r DRd.e)) ?_
  refine RW.k XK 174 2 rfl ?_
  (conv=>whnf);refine ⟨rfl,?_⟩
  refine RW.nil ?_
  refine CW.keep 174 [3,4,5,6,7] rfl ?_;(conv=>whnf);refine ⟨?_⟩
  refine CW.seq ?_
  refine CW.region ?_
  refine RW.k XK 174 2 rfl ?_
  (conv=>whnf);refine ⟨rfl,?_⟩
  refine RW.call rfl (spec_Perform_fn ((talkK code).1) 60 (talkX code) hG.1.ok.okTo) rfl (.cons (.agg (.cons (.r .r) (.cons (.r .r) (.nil)))) (.cons (.one (.r .r)) (.cons (.agg (.cons (.r .r) (.cons (.r .r) (.cons (.r .r) (.cons (.r .r) (.cons (.r .r) (.cons (.r .r) (.nil)))))))) (.nil)))) fun g8 => ?_
  refine RW.k XK 174 6 rfl ?_
  (conv=>whnf);intro b9;(conv=>whnf);refine ⟨rfl,?_⟩
  refine RW.freezeB (ts := (Keep.c ((perfK ((talkK code).1) 60 (talkX code)).1))) 8 rfl (DRd.r (DRd.r DRd.e)) ?_
  refine RW.k XK 174 2 rfl ?_
  (conv=>whnf);refine ⟨rfl,?_⟩
  refine RW.nil ?_
  refine CW.keep 174 [3,4,5,6,7,8,9,10] rfl ?_;(conv=>whnf);refine ⟨?_⟩
  refine CW.seq ?_
  refine CW.seqJ 174 (fun (v10 : Bool) => [(3, .rp (Keep.c ((talkK code).1))), (4, .rp (Command.c (talkX code))), (5, .rp (Keep.c ((perfK ((talkK code).1) 60 (talkX code)).1))), (6, S ((perfK ((talkK code).1) 60 (talkX code)).2.1)), (7, Bo ((perfK ((talkK code).1) 60 (talkX code)).2.2)), (57, Bo v10)]) (fun v10 => v10 = (((!(((perfK ((talkK code).1) 60 (talkX code)).2.2) == ((perfK ((talkK code).1) 60 (talkX code)).2.2))) || (!(((perfK ((talkK code).1) 60 (talkX code)).2.1).toList == ((perfK ((talkK code).1) 60 (talkX code)).2.1).toList))) || (!(eqKeep ((perfK ((talkK code).1) 60 (talkX code)).1) ((perfK ((talkK code).1) 60 (talkX code)).1))))) ?_ ?_
  ·refine CW.region ?_
   refine RW.k XK 174 2 rfl ?_
   (conv=>whnf);refine ⟨rfl,?_⟩
   refine RW.v rfl (V.eqBool rfl rfl rfl (by kernel_rfl) (.inr ⟨rfl, rfl⟩)) ?_
   refine RW.k XK 174 1 rfl ?_
   (conv=>whnf);refine ⟨rfl,?_⟩
   refine RW.gv rfl rfl rfl rfl (fun h11 => V.mv (d := S ((perfK ((talkK code).1) 60 (talkX code)).2.1)) rfl rfl) (fun h11 => ?_) (fun h11 => ?_)
   ·skip
    refine RW.k XK 174 4 rfl ?_
    (conv=>whnf);refine ⟨rfl,?_⟩
    refine RW.gv rfl rfl rfl rfl (fun h12 => V.loadAggR rfl rfl rfl rfl (Nat.le_of_ble_eq_true rfl)) (fun h12 => ?_) (fun h12 => ?_)
    ·skip
     refine RW.k XK 174 1 rfl ?_
     (conv=>whnf);refine ⟨rfl,?_⟩
     refine RW.gcall rfl rfl rfl rfl (spec_SameKeep_fn ((perfK ((talkK code).1) 60 (talkX code)).1) ((perfK ((talkK code).1) 60 (talkX code)).1) (by first | exact hA.okTo | exact perf_okTo hA)) rfl (.cons (.agg (.cons (.r .r) (.cons (.r .r) (.nil)))) (.cons (.agg (.cons (.r .r) (.cons (.r .r) (.nil)))) (.nil))) fun g13 => ?_
     refine RW.k XK 174 2 rfl ?_
     (conv=>whnf);refine ⟨rfl,?_⟩
     refine RW.nil ?_
     exact ⟨_, by first | rfl | (simp_all; done) | (simp_all; omega) | grind, rfl, Le.of rfl⟩
    ·skip
     refine RW.k XK 174 4 rfl ?_
     (conv=>whnf);refine ⟨rfl,?_⟩
     refine RW.nil ?_
     exact ⟨_, by first | rfl | (simp_all; done) | (simp_all; omega) | grind, rfl, Le.of rfl⟩
   ·skip
    refine RW.k XK 174 9 rfl ?_
    (conv=>whnf);refine ⟨rfl,?_⟩
    refine RW.nil ?_
    exact ⟨_, by first | rfl | (simp_all; done) | (simp_all; omega) | grind, rfl, Le.of rfl⟩
  ·intro v10 hv14
   refine CW.cond rfl (fun h15 => ?_) (fun h15 => ?_)
   ·skip
    refine CW.k XK 174 1 [2] rfl ?_
    (conv=>whnf);refine ⟨rfl,?_⟩
    refine CW.ret ?_
    exact Post.one (RV.b rfl (by exfalso; have h9 := hv14.symm.trans h15; simp [eqKeep_refl] at h9)) (AOs.r AOs.e)
   ·skip
    refine CW.skip ?_
    refine CW.keep 174 [3,4,5,6,7] rfl ?_;(conv=>whnf);refine ⟨?_⟩
    refine CW.seq ?_
    refine CW.k XK 174 1 [3,4,5,6,59] rfl ?_
    (conv=>whnf);refine ⟨rfl,?_⟩
    refine CW.cond rfl (fun h16 => ?_) (fun h16 => ?_)
    ·skip
     refine CW.seq ?_
     refine CW.region ?_
     refine RW.k XK 174 1 rfl ?_
     (conv=>whnf);refine ⟨rfl,?_⟩
     refine RW.call rfl (spec_CommandOk_fn (talkX code)) rfl (.cons (.agg (.cons (.r .r) (.cons (.r .r) (.cons (.r .r) (.cons (.r .r) (.cons (.r .r) (.cons (.r .r) (.nil)))))))) (.nil)) fun g17 => ?_
     refine RW.k XK 174 2 rfl ?_
     (conv=>whnf);refine ⟨rfl,?_⟩
     refine RW.nil ?_
     refine CW.keep 174 [2] rfl ?_;(conv=>whnf);refine ⟨?_⟩
     refine CW.ret ?_
     exact Post.one (RV.b rfl (by exfalso; simp [hL.ok] at h16)) (AOs.r AOs.e)
    ·skip
     refine CW.skip ?_
     refine CW.keep 174 [3,4,5,6] rfl ?_;(conv=>whnf);refine ⟨?_⟩
     refine CW.seq ?_
     refine CW.seqJ 174 (fun (v18 : Bool) => [(3, .rp (Keep.c ((talkK code).1))), (4, .rp (Command.c (talkX code))), (5, .rp (Keep.c ((perfK ((talkK code).1) 60 (talkX code)).1))), (6, S ((perfK ((talkK code).1) 60 (talkX code)).2.1)), (70, Bo v18)]) (fun v18 => v18 = ((!(keepOk ((perfK ((talkK code).1) 60 (talkX code)).1))) || (!(cmdOk (talkX code))))) ?_ ?_
     ·refine CW.region ?_
      refine RW.k XK 174 1 rfl ?_
      (conv=>whnf);refine ⟨rfl,?_⟩
      refine RW.call rfl (impl_KeepOk_fn ((perfK ((talkK code).1) 60 (talkX code)).1) hA.okTo) rfl (.cons (.agg (.cons (.r .r) (.cons (.r .r) (.nil)))) (.nil)) fun g19 => ?_
      refine RW.k XK 174 2 rfl ?_
      (conv=>whnf);refine ⟨rfl,?_⟩
      refine RW.gv rfl rfl rfl rfl (fun h20 => V.loadAggR rfl rfl rfl rfl (Nat.le_of_ble_eq_true rfl)) (fun h20 => ?_) (fun h20 => ?_)
      ·skip
       refine RW.gcall rfl rfl rfl rfl (impl_CommandOk_fn (talkX code)) rfl (.cons (.agg (.cons (.r .r) (.cons (.r .r) (.cons (.r .r) (.cons (.r .r) (.cons (.r .r) (.cons (.r .r) (.nil)))))))) (.nil)) fun g21 => ?_
       refine RW.k XK 174 2 rfl ?_
       (conv=>whnf);refine ⟨rfl,?_⟩
       refine RW.nil ?_
       exact ⟨_, by first | rfl | (simp_all; done) | (simp_all; omega) | grind, rfl, Le.of rfl⟩
      ·skip
       refine RW.k XK 174 3 rfl ?_
       (conv=>whnf);refine ⟨rfl,?_⟩
       refine RW.nil ?_
       exact ⟨_, by first | rfl | (simp_all; done) | (simp_all; omega) | grind, rfl, Le.of rfl⟩
     ·intro v18 hv22
      refine CW.cond rfl (fun h23 => ?_) (fun h23 => ?_)
      ·skip
       refine CW.k XK 174 1 [2] rfl ?_
       (conv=>whnf);refine ⟨rfl,?_⟩
       refine CW.ret ?_
       exact Post.one (RV.b rfl (by exfalso; have h9 := hv22.symm.trans h23; simp [hL.good, hX.ok] at h9)) (AOs.r AOs.e)
      ·skip
       refine CW.skip ?_
       refine CW.keep 174 [3,4,5,6] rfl ?_;(conv=>whnf);refine ⟨?_⟩
       refine CW.seq ?_
       refine CW.k XK 174 1 [3,4,5,6,73] rfl ?_
       (conv=>whnf);refine ⟨rfl,?_⟩
       refine CW.cond rfl (fun h24 => ?_) (fun h24 => ?_)
       ·skip
        refine CW.seq ?_
        refine CW.region ?_
        refine RW.k XK 174 1 rfl ?_
        (conv=>whnf);refine ⟨rfl,?_⟩
        refine RW.call rfl (laws_starts_fn (⟨#[111, 112, 101, 110, 32]⟩ : ByteArray) ((perfK ((talkK code).1) 60 (talkX code)).2.1)) rfl (.cons (.one (.r .r)) (.cons (.one (.r .r)) (.nil))) fun g25 => ?_
        refine RW.k XK 174 1 rfl ?_
        (conv=>whnf);refine ⟨rfl,?_⟩
        refine RW.nil ?_
        refine CW.keep 174 [2] rfl ?_;(conv=>whnf);refine ⟨?_⟩
        refine CW.ret ?_
        exact Post.one (RV.b rfl (by rw [hL.op (by simpa using h24)]; exact starts_open _)) (AOs.r AOs.e)
       ·skip
        have hop : (talkX code).op ≠ 1 := by simpa using h24
        have hg1 := hL.gone hop
        have hg2 := fun h => hL.gap h hop
        have hg3 := fun h => hL.again h hop
        simp only [c999] at hg1
        simp only [cSeq] at hg2
        refine CW.skip ?_
        refine CW.keep 174 [3,4,5,6] rfl ?_;(conv=>whnf);refine ⟨?_⟩
        refine CW.k XK 174 2 [3,4,5,6,11] rfl ?_
        (conv=>whnf);intro b26;(conv=>whnf);refine ⟨rfl,?_⟩
        refine CW.seq ?_
        refine CW.region ?_
        refine RW.k XK 174 2 rfl ?_
        (conv=>whnf);refine ⟨rfl,?_⟩
        refine RW.call rfl (impl_Perform_fn ((perfK ((talkK code).1) 60 (talkX code)).1) 61 (⟨(talkX code).op, 999, (talkX code).seq, (talkX code).key, (talkX code).val, (talkX code).ver⟩ : Command) hA.okTo) rfl (.cons (.agg (.cons (.r .r) (.cons (.r .r) (.nil)))) (.cons (.one (.r .r)) (.cons (.agg (.cons (.r .r) (.cons (.r .r) (.cons (.r .r) (.cons (.r .r) (.cons (.r .r) (.cons (.r .r) (.nil)))))))) (.nil)))) fun g27 => ?_
        refine RW.k XK 174 6 rfl ?_
        (conv=>whnf);intro b28;(conv=>whnf);refine ⟨rfl,?_⟩
        refine RW.freezeB (ts := (Keep.c ((perfK ((perfK ((talkK code).1) 60 (talkX code)).1) 61 (⟨(talkX code).op, 999, (talkX code).seq, (talkX code).key, (talkX code).val, (talkX code).ver⟩ : Command)).1))) 12 rfl (DRd.r (DRd.r DRd.e)) ?_
        refine RW.k XK 174 2 rfl ?_
        (conv=>whnf);refine ⟨rfl,?_⟩
        refine RW.nil ?_
        refine CW.keep 174 [3,4,5,6,11,12,13,14] rfl ?_;(conv=>whnf);refine ⟨?_⟩
        refine CW.k XK 174 2 [3,4,5,6,11,12,13,14] rfl ?_
        (conv=>whnf);refine ⟨rfl,?_⟩
        refine CW.seq ?_
        refine CW.region ?_
        refine RW.k XK 174 2 rfl ?_
        (conv=>whnf);refine ⟨rfl,?_⟩
        refine RW.call rfl (impl_Perform_fn ((perfK ((talkK code).1) 60 (talkX code)).1) 61 (⟨(talkX code).op, (talkX code).token, (IntKind.i64.wrap ((talkX code).seq + 9)), (talkX code).key, (talkX code).val, (talkX code).ver⟩ : Command) hA.okTo) rfl (.cons (.agg (.cons (.r .r) (.cons (.r .r) (.nil)))) (.cons (.one (.r .r)) (.cons (.agg (.cons (.r .r) (.cons (.r .r) (.cons (.r .r) (.cons (.r .r) (.cons (.r .r) (.cons (.r .r) (.nil)))))))) (.nil)))) fun g29 => ?_
        refine RW.k XK 174 6 rfl ?_
        (conv=>whnf);intro b30;(conv=>whnf);refine ⟨rfl,?_⟩
        refine RW.freezeB (ts := (Keep.c ((perfK ((perfK ((talkK code).1) 60 (talkX code)).1) 61 (⟨(talkX code).op, (talkX code).token, (IntKind.i64.wrap ((talkX code).seq + 9)), (talkX code).key, (talkX code).val, (talkX code).ver⟩ : Command)).1))) 15 rfl (DRd.r (DRd.r DRd.e)) ?_
        refine RW.k XK 174 2 rfl ?_
        (conv=>whnf);refine ⟨rfl,?_⟩
        refine RW.nil ?_
        refine CW.keep 174 [3,4,5,6,12,13,14,15,16,17] rfl ?_;(conv=>whnf);refine ⟨?_⟩
        refine CW.seq ?_
        refine CW.region ?_
        refine RW.k XK 174 2 rfl ?_
        (conv=>whnf);refine ⟨rfl,?_⟩
        refine RW.call rfl (impl_Perform_fn ((perfK ((talkK code).1) 60 (talkX code)).1) 61 (talkX code) hA.okTo) rfl (.cons (.agg (.cons (.r .r) (.cons (.r .r) (.nil)))) (.cons (.one (.r .r)) (.cons (.agg (.cons (.r .r) (.cons (.r .r) (.cons (.r .r) (.cons (.r .r) (.cons (.r .r) (.cons (.r .r) (.nil)))))))) (.nil)))) fun g31 => ?_
        refine RW.k XK 174 6 rfl ?_
        (conv=>whnf);intro b32;(conv=>whnf);refine ⟨rfl,?_⟩
        refine RW.freezeB (ts := (Keep.c ((perfK ((perfK ((talkK code).1) 60 (talkX code)).1) 61 (talkX code)).1))) 18 rfl (DRd.r (DRd.r DRd.e)) ?_
        refine RW.k XK 174 2 rfl ?_
        (conv=>whnf);refine ⟨rfl,?_⟩
        refine RW.nil ?_
        refine CW.keep 174 [3,5,6,12,13,14,15,16,17,18,19,20] rfl ?_;(conv=>whnf);refine ⟨?_⟩
        refine CW.k XK 174 1 [3,5,6,12,13,14,15,16,17,18,19,20,21] rfl ?_
        (conv=>whnf);refine ⟨rfl,?_⟩
        refine CW.seq ?_
        refine CW.k XK 174 1 [3,5,6,12,13,14,15,16,17,18,19,20,21,22] rfl ?_
        (conv=>whnf);refine ⟨rfl,?_⟩
        refine CW.block ?_
        refine CW.loopI 174 (fun (zz : Nat × Bool) => match zz with | (i, m) => [(3, .rp (Keep.c ((talkK code).1))), (5, .rp (Keep.c ((perfK ((talkK code).1) 60 (talkX code)).1))), (6, S ((perfK ((talkK code).1) 60 (talkX code)).2.1)), (12, .rp (Keep.c ((perfK ((perfK ((talkK code).1) 60 (talkX code)).1) 61 (⟨(talkX code).op, 999, (talkX code).seq, (talkX code).key, (talkX code).val, (talkX code).ver⟩ : Command)).1))), (13, S ((perfK ((perfK ((talkK code).1) 60 (talkX code)).1) 61 (⟨(talkX code).op, 999, (talkX code).seq, (talkX code).key, (talkX code).val, (talkX code).ver⟩ : Command)).2.1)), (14, Bo ((perfK ((perfK ((talkK code).1) 60 (talkX code)).1) 61 (⟨(talkX code).op, 999, (talkX code).seq, (talkX code).key, (talkX code).val, (talkX code).ver⟩ : Command)).2.2)), (15, .rp (Keep.c ((perfK ((perfK ((talkK code).1) 60 (talkX code)).1) 61 (⟨(talkX code).op, (talkX code).token, (IntKind.i64.wrap ((talkX code).seq + 9)), (talkX code).key, (talkX code).val, (talkX code).ver⟩ : Command)).1))), (16, S ((perfK ((perfK ((talkK code).1) 60 (talkX code)).1) 61 (⟨(talkX code).op, (talkX code).token, (IntKind.i64.wrap ((talkX code).seq + 9)), (talkX code).key, (talkX code).val, (talkX code).ver⟩ : Command)).2.1)), (17, Bo ((perfK ((perfK ((talkK code).1) 60 (talkX code)).1) 61 (⟨(talkX code).op, (talkX code).token, (IntKind.i64.wrap ((talkX code).seq + 9)), (talkX code).key, (talkX code).val, (talkX code).ver⟩ : Command)).2.2)), (18, .rp (Keep.c ((perfK ((perfK ((talkK code).1) 60 (talkX code)).1) 61 (talkX code)).1))), (19, S ((perfK ((perfK ((talkK code).1) 60 (talkX code)).1) 61 (talkX code)).2.1)), (20, Bo ((perfK ((perfK ((talkK code).1) 60 (talkX code)).1) 61 (talkX code)).2.2)), (21, Bo m), (22, I (i : Int))]) (fun (zz : Nat × Bool) => match zz with | (i, m) => MoP (perfK (talkK code).1 60 (talkX code)).1.sessions (talkK code).1.sessions i m) (fun (zz : Nat × Bool) => match zz with | (i, m) => (perfK (talkK code).1 60 (talkX code)).1.sessions.length - i) (0, false) rfl (Le.c rfl <| Le.c rfl <| Le.c rfl <| Le.c rfl <| Le.c rfl <| Le.c rfl <| Le.c rfl <| Le.c rfl <| Le.c rfl <| Le.c rfl <| Le.c rfl <| Le.c rfl <| Le.c rfl <| Le.c rfl <| Le.e) (MoP.init _ _) ?_
        rintro ⟨i, m⟩ hP
        refine CW.seq ?_
        refine CW.seqJ 174 (fun (v33 : Bool) => [(3, .rp (Keep.c ((talkK code).1))), (5, .rp (Keep.c ((perfK ((talkK code).1) 60 (talkX code)).1))), (6, S ((perfK ((talkK code).1) 60 (talkX code)).2.1)), (12, .rp (Keep.c ((perfK ((perfK ((talkK code).1) 60 (talkX code)).1) 61 (⟨(talkX code).op, 999, (talkX code).seq, (talkX code).key, (talkX code).val, (talkX code).ver⟩ : Command)).1))), (13, S ((perfK ((perfK ((talkK code).1) 60 (talkX code)).1) 61 (⟨(talkX code).op, 999, (talkX code).seq, (talkX code).key, (talkX code).val, (talkX code).ver⟩ : Command)).2.1)), (14, Bo ((perfK ((perfK ((talkK code).1) 60 (talkX code)).1) 61 (⟨(talkX code).op, 999, (talkX code).seq, (talkX code).key, (talkX code).val, (talkX code).ver⟩ : Command)).2.2)), (15, .rp (Keep.c ((perfK ((perfK ((talkK code).1) 60 (talkX code)).1) 61 (⟨(talkX code).op, (talkX code).token, (IntKind.i64.wrap ((talkX code).seq + 9)), (talkX code).key, (talkX code).val, (talkX code).ver⟩ : Command)).1))), (16, S ((perfK ((perfK ((talkK code).1) 60 (talkX code)).1) 61 (⟨(talkX code).op, (talkX code).token, (IntKind.i64.wrap ((talkX code).seq + 9)), (talkX code).key, (talkX code).val, (talkX code).ver⟩ : Command)).2.1)), (17, Bo ((perfK ((perfK ((talkK code).1) 60 (talkX code)).1) 61 (⟨(talkX code).op, (talkX code).token, (IntKind.i64.wrap ((talkX code).seq + 9)), (talkX code).key, (talkX code).val, (talkX code).ver⟩ : Command)).2.2)), (18, .rp (Keep.c ((perfK ((perfK ((talkK code).1) 60 (talkX code)).1) 61 (talkX code)).1))), (19, S ((perfK ((perfK ((talkK code).1) 60 (talkX code)).1) 61 (talkX code)).2.1)), (20, Bo ((perfK ((perfK ((talkK code).1) 60 (talkX code)).1) 61 (talkX code)).2.2)), (21, Bo m), (22, I (i : Int)), (115, Bo v33)]) (fun v33 => v33 = (decide ((i : Int) < ((((perfK ((talkK code).1) 60 (talkX code)).1).sessions).length : Int)) && decide ((i : Int) < ((((talkK code).1).sessions).length : Int)))) ?_ ?_
        ·refine CW.region ?_
         refine RW.k XK 174 6 rfl ?_
         (conv=>whnf);refine ⟨rfl,?_⟩
         refine RW.gv rfl rfl rfl rfl (fun h34 => V.mv (d := I (i : Int)) rfl rfl) (fun h34 => ?_) (fun h34 => ?_)
         ·skip
          refine RW.k XK 174 5 rfl ?_
          (conv=>whnf);refine ⟨rfl,?_⟩
          refine RW.nil ?_
          exact ⟨_, by first | rfl | (simp_all; done) | (simp_all; omega) | grind, rfl, Le.of rfl⟩
         ·skip
          refine RW.k XK 174 5 rfl ?_
          (conv=>whnf);refine ⟨rfl,?_⟩
          refine RW.nil ?_
          exact ⟨_, by first | rfl | (simp_all; done) | (simp_all; omega) | grind, rfl, Le.of rfl⟩
        ·intro v33 hv35
         refine CW.cond rfl (fun h36 => ?_) (fun h36 => ?_)
         ·skip
          have hvv := hv35.symm.trans h36
          simp only [Bool.and_eq_true, decide_eq_true_eq] at hvv
          have hlt : i < (perfK (talkK code).1 60 (talkX code)).1.sessions.length := by omega
          have hlt2 : i < (talkK code).1.sessions.length := by omega
          have hlm : (perfK (talkK code).1 60 (talkX code)).1.sessions.length ≤ maxLen := by have h9 := hA.sl; simp only [maxLen]; omega
          obtain ⟨ei, hei⟩ : ∃ e, (perfK (talkK code).1 60 (talkX code)).1.sessions[i]? = some e := ⟨_, List.getElem?_eq_getElem hlt⟩
          obtain ⟨fi, hfi⟩ : ∃ e, (talkK code).1.sessions[i]? = some e := ⟨_, List.getElem?_eq_getElem hlt2⟩
          refine CW.skip ?_
          refine CW.keep 174 [3,5,6,12,13,14,15,16,17,18,19,20,21,22] rfl ?_;(conv=>whnf);refine ⟨?_⟩
          refine CW.seq ?_
          refine CW.block ?_
          refine CW.oneP 174 (fun (v37 : Bool) => [(3, .rp (Keep.c ((talkK code).1))), (5, .rp (Keep.c ((perfK ((talkK code).1) 60 (talkX code)).1))), (6, S ((perfK ((talkK code).1) 60 (talkX code)).2.1)), (12, .rp (Keep.c ((perfK ((perfK ((talkK code).1) 60 (talkX code)).1) 61 (⟨(talkX code).op, 999, (talkX code).seq, (talkX code).key, (talkX code).val, (talkX code).ver⟩ : Command)).1))), (13, S ((perfK ((perfK ((talkK code).1) 60 (talkX code)).1) 61 (⟨(talkX code).op, 999, (talkX code).seq, (talkX code).key, (talkX code).val, (talkX code).ver⟩ : Command)).2.1)), (14, Bo ((perfK ((perfK ((talkK code).1) 60 (talkX code)).1) 61 (⟨(talkX code).op, 999, (talkX code).seq, (talkX code).key, (talkX code).val, (talkX code).ver⟩ : Command)).2.2)), (15, .rp (Keep.c ((perfK ((perfK ((talkK code).1) 60 (talkX code)).1) 61 (⟨(talkX code).op, (talkX code).token, (IntKind.i64.wrap ((talkX code).seq + 9)), (talkX code).key, (talkX code).val, (talkX code).ver⟩ : Command)).1))), (16, S ((perfK ((perfK ((talkK code).1) 60 (talkX code)).1) 61 (⟨(talkX code).op, (talkX code).token, (IntKind.i64.wrap ((talkX code).seq + 9)), (talkX code).key, (talkX code).val, (talkX code).ver⟩ : Command)).2.1)), (17, Bo ((perfK ((perfK ((talkK code).1) 60 (talkX code)).1) 61 (⟨(talkX code).op, (talkX code).token, (IntKind.i64.wrap ((talkX code).seq + 9)), (talkX code).key, (talkX code).val, (talkX code).ver⟩ : Command)).2.2)), (18, .rp (Keep.c ((perfK ((perfK ((talkK code).1) 60 (talkX code)).1) 61 (talkX code)).1))), (19, S ((perfK ((perfK ((talkK code).1) 60 (talkX code)).1) 61 (talkX code)).2.1)), (20, Bo ((perfK ((perfK ((talkK code).1) 60 (talkX code)).1) 61 (talkX code)).2.2)), (21, Bo v37), (22, I (i : Int))]) (fun v37 => v37 = (m || (ei.last != fi.last))) ?_ ?_
          ·refine CW.drawn (by kernel_rfl) ?_
           refine RQ.k XK 174 2 rfl ?_
           (conv=>whnf);refine ⟨rfl,?_⟩
           refine RQ.gv rfl rfl rfl rfl (fun h38 => V.fieldR rfl rfl rfl rfl (by decide) rfl (Nat.le_of_ble_eq_true rfl)) (fun h38 => ?_) (fun h38 => ?_)
           ·skip
            refine RQ.k XK 174 2 rfl ?_
            (conv=>whnf);refine ⟨rfl,?_⟩
            refine RQ.gt rfl rfl rfl rfl (V.indexS rfl rfl rfl rfl rfl rfl Session.len hei) ?_
            refine RQ.k XK 174 5 rfl ?_
            (conv=>whnf);refine ⟨rfl,?_⟩
            refine RQ.gt rfl rfl rfl rfl (V.indexS rfl rfl rfl rfl rfl rfl Session.len hfi) ?_
            refine RQ.k XK 174 5 rfl ?_
            (conv=>whnf);refine ⟨rfl,?_⟩
            refine RQ.nil ?_
            exact ⟨rfl, _, by first | rfl | (simp_all; done) | (simp_all; omega) | grind, rfl, Le.of rfl⟩
           ·skip
            refine RQ.k XK 174 14 rfl ?_
            (conv=>whnf);refine ⟨rfl,?_⟩
            refine RQ.nil ?_
            exact ⟨rfl, _, by first | rfl | (simp_all; done) | (simp_all; omega) | grind, rfl, Le.of rfl⟩
          ·intro v37 hv39
           refine CW.keep 174 [3,5,6,12,13,14,15,16,17,18,19,20,21,22] rfl ?_;(conv=>whnf);refine ⟨?_⟩
           refine CW.region ?_
           refine RW.k XK 174 1 rfl ?_
           (conv=>whnf);refine ⟨rfl,?_⟩
           refine RW.v rfl (V.inc rfl rfl rfl hlt hlm) ?_
           refine RW.k XK 174 1 rfl ?_
           (conv=>whnf);refine ⟨rfl,?_⟩
           refine RW.nil ?_
           exact ⟨(i + 1, v37), by simp only []; omega, (hP.step hei hfi hv39), rfl, Le.c rfl <| Le.c rfl <| Le.c rfl <| Le.c rfl <| Le.c rfl <| Le.c rfl <| Le.c rfl <| Le.c rfl <| Le.c rfl <| Le.c rfl <| Le.c rfl <| Le.c rfl <| Le.c rfl <| Le.c rfl <| Le.e⟩
         ·skip
          have hfn := hP.fin (by have hvv := hv35.symm.trans h36; simp only [Bool.and_eq_false_iff, decide_eq_false_iff_not] at hvv; omega)
          refine CW.exit ?_
          refine CW.keep 174 [3,5,6,12,13,14,15,16,17,18,19,20,21] rfl ?_;(conv=>whnf);refine ⟨?_⟩
          refine CW.seq ?_
          refine CW.seqJ 174 (fun (v40 : Bool) => [(3, .rp (Keep.c ((talkK code).1))), (5, .rp (Keep.c ((perfK ((talkK code).1) 60 (talkX code)).1))), (6, S ((perfK ((talkK code).1) 60 (talkX code)).2.1)), (15, .rp (Keep.c ((perfK ((perfK ((talkK code).1) 60 (talkX code)).1) 61 (⟨(talkX code).op, (talkX code).token, (IntKind.i64.wrap ((talkX code).seq + 9)), (talkX code).key, (talkX code).val, (talkX code).ver⟩ : Command)).1))), (16, S ((perfK ((perfK ((talkK code).1) 60 (talkX code)).1) 61 (⟨(talkX code).op, (talkX code).token, (IntKind.i64.wrap ((talkX code).seq + 9)), (talkX code).key, (talkX code).val, (talkX code).ver⟩ : Command)).2.1)), (17, Bo ((perfK ((perfK ((talkK code).1) 60 (talkX code)).1) 61 (⟨(talkX code).op, (talkX code).token, (IntKind.i64.wrap ((talkX code).seq + 9)), (talkX code).key, (talkX code).val, (talkX code).ver⟩ : Command)).2.2)), (18, .rp (Keep.c ((perfK ((perfK ((talkK code).1) 60 (talkX code)).1) 61 (talkX code)).1))), (19, S ((perfK ((perfK ((talkK code).1) 60 (talkX code)).1) 61 (talkX code)).2.1)), (20, Bo ((perfK ((perfK ((talkK code).1) 60 (talkX code)).1) 61 (talkX code)).2.2)), (21, Bo m), (145, Bo v40)]) (fun v40 => v40 = (((!((perfK ((perfK ((talkK code).1) 60 (talkX code)).1) 61 (⟨(talkX code).op, 999, (talkX code).seq, (talkX code).key, (talkX code).val, (talkX code).ver⟩ : Command)).2.2)) || (!(((perfK ((perfK ((talkK code).1) 60 (talkX code)).1) 61 (⟨(talkX code).op, 999, (talkX code).seq, (talkX code).key, (talkX code).val, (talkX code).ver⟩ : Command)).2.1).toList == (⟨#[110, 111, 110, 101]⟩ : ByteArray).toList))) || (!(eqKeep ((perfK ((perfK ((talkK code).1) 60 (talkX code)).1) 61 (⟨(talkX code).op, 999, (talkX code).seq, (talkX code).key, (talkX code).val, (talkX code).ver⟩ : Command)).1) ((perfK ((talkK code).1) 60 (talkX code)).1))))) ?_ ?_
          ·refine CW.region ?_
           refine RW.k XK 174 3 rfl ?_
           (conv=>whnf);refine ⟨rfl,?_⟩
           refine RW.gv rfl rfl rfl rfl (fun h41 => V.mv (d := S ((perfK ((perfK ((talkK code).1) 60 (talkX code)).1) 61 (⟨(talkX code).op, 999, (talkX code).seq, (talkX code).key, (talkX code).val, (talkX code).ver⟩ : Command)).2.1)) rfl rfl) (fun h41 => ?_) (fun h41 => ?_)
           ·skip
            refine RW.k XK 174 3 rfl ?_
            (conv=>whnf);refine ⟨rfl,?_⟩
            refine RW.gv rfl rfl rfl rfl (fun h42 => V.loadAggR rfl rfl rfl rfl (Nat.le_of_ble_eq_true rfl)) (fun h42 => ?_) (fun h42 => ?_)
            ·skip
             refine RW.k XK 174 1 rfl ?_
             (conv=>whnf);refine ⟨rfl,?_⟩
             refine RW.gcall rfl rfl rfl rfl (spec_SameKeep_fn ((perfK ((perfK ((talkK code).1) 60 (talkX code)).1) 61 (⟨(talkX code).op, 999, (talkX code).seq, (talkX code).key, (talkX code).val, (talkX code).ver⟩ : Command)).1) ((perfK ((talkK code).1) 60 (talkX code)).1) (by first | exact hA.okTo | exact perf_okTo hA)) rfl (.cons (.agg (.cons (.r .r) (.cons (.r .r) (.nil)))) (.cons (.agg (.cons (.r .r) (.cons (.r .r) (.nil)))) (.nil))) fun g43 => ?_
             refine RW.k XK 174 2 rfl ?_
             (conv=>whnf);refine ⟨rfl,?_⟩
             refine RW.nil ?_
             exact ⟨_, by first | rfl | (simp_all; done) | (simp_all; omega) | grind, rfl, Le.of rfl⟩
            ·skip
             refine RW.k XK 174 4 rfl ?_
             (conv=>whnf);refine ⟨rfl,?_⟩
             refine RW.nil ?_
             exact ⟨_, by first | rfl | (simp_all; done) | (simp_all; omega) | grind, rfl, Le.of rfl⟩
           ·skip
            refine RW.k XK 174 8 rfl ?_
            (conv=>whnf);refine ⟨rfl,?_⟩
            refine RW.nil ?_
            exact ⟨_, by first | rfl | (simp_all; done) | (simp_all; omega) | grind, rfl, Le.of rfl⟩
          ·intro v40 hv44
           refine CW.cond rfl (fun h45 => ?_) (fun h45 => ?_)
           ·skip
            refine CW.k XK 174 1 [2] rfl ?_
            (conv=>whnf);refine ⟨rfl,?_⟩
            refine CW.ret ?_
            exact Post.one (RV.b rfl (by exfalso; have h9 := hv44.symm.trans h45; simp [hg1, eqKeep_refl, tNone] at h9)) (AOs.r AOs.e)
           ·skip
            refine CW.skip ?_
            refine CW.keep 174 [3,5,6,15,16,17,18,19,20,21] rfl ?_;(conv=>whnf);refine ⟨?_⟩
            refine CW.seq ?_
            refine CW.k XK 174 1 [3,5,6,15,16,17,18,19,20,147] rfl ?_
            (conv=>whnf);refine ⟨rfl,?_⟩
            refine CW.cond rfl (fun h46 => ?_) (fun h46 => ?_)
            ·skip
             refine CW.seq ?_
             refine CW.region ?_
             refine RW.k XK 174 2 rfl ?_
             (conv=>whnf);refine ⟨rfl,?_⟩
             refine RW.call rfl (spec_SameKeep_fn ((perfK ((talkK code).1) 60 (talkX code)).1) ((talkK code).1) (by first | exact hA.okTo | exact perf_okTo hA)) rfl (.cons (.agg (.cons (.r .r) (.cons (.r .r) (.nil)))) (.cons (.agg (.cons (.r .r) (.cons (.r .r) (.nil)))) (.nil))) fun g47 => ?_
             refine RW.k XK 174 1 rfl ?_
             (conv=>whnf);refine ⟨rfl,?_⟩
             refine RW.nil ?_
             refine CW.keep 174 [2] rfl ?_;(conv=>whnf);refine ⟨?_⟩
             refine CW.ret ?_
             exact Post.one (RV.b rfl (by rw [hL.no hop (by rw [← hfn]; simpa using h46)]; exact eqKeep_refl _)) (AOs.r AOs.e)
            ·skip
             refine CW.skip ?_
             refine CW.keep 174 [5,6,15,16,17,18,19,20] rfl ?_;(conv=>whnf);refine ⟨?_⟩
             refine CW.seqJ 174 (fun (v48 : Bool) => [(2, Bo v48)]) (fun v48 => v48 = (((((((perfK ((perfK ((talkK code).1) 60 (talkX code)).1) 61 (⟨(talkX code).op, (talkX code).token, (IntKind.i64.wrap ((talkX code).seq + 9)), (talkX code).key, (talkX code).val, (talkX code).ver⟩ : Command)).2.2) && ((perfK ((perfK ((talkK code).1) 60 (talkX code)).1) 61 (talkX code)).2.2)) && (((perfK ((perfK ((talkK code).1) 60 (talkX code)).1) 61 (talkX code)).2.1).toList == ((perfK ((talkK code).1) 60 (talkX code)).2.1).toList)) && (eqKeep ((perfK ((perfK ((talkK code).1) 60 (talkX code)).1) 61 (talkX code)).1) ((perfK ((talkK code).1) 60 (talkX code)).1))) && (((perfK ((perfK ((talkK code).1) 60 (talkX code)).1) 61 (⟨(talkX code).op, (talkX code).token, (IntKind.i64.wrap ((talkX code).seq + 9)), (talkX code).key, (talkX code).val, (talkX code).ver⟩ : Command)).2.1).toList == (⟨#[103, 97, 112]⟩ : ByteArray).toList)) && (eqKeep ((perfK ((perfK ((talkK code).1) 60 (talkX code)).1) 61 (⟨(talkX code).op, (talkX code).token, (IntKind.i64.wrap ((talkX code).seq + 9)), (talkX code).key, (talkX code).val, (talkX code).ver⟩ : Command)).1) ((perfK ((talkK code).1) 60 (talkX code)).1)))) ?_ ?_
             ·refine CW.region ?_
              refine RW.k XK 174 2 rfl ?_
              (conv=>whnf);refine ⟨rfl,?_⟩
              refine RW.gv rfl rfl rfl rfl (fun h49 => V.mv (d := Bo ((perfK ((perfK ((talkK code).1) 60 (talkX code)).1) 61 (talkX code)).2.2)) rfl rfl) (fun h49 => ?_) (fun h49 => ?_)
              ·skip
               refine RW.k XK 174 2 rfl ?_
               (conv=>whnf);refine ⟨rfl,?_⟩
               refine RW.gv rfl rfl rfl rfl (fun h50 => V.mv (d := S ((perfK ((perfK ((talkK code).1) 60 (talkX code)).1) 61 (talkX code)).2.1)) rfl rfl) (fun h50 => ?_) (fun h50 => ?_)
               ·skip
                refine RW.k XK 174 4 rfl ?_
                (conv=>whnf);refine ⟨rfl,?_⟩
                refine RW.gv rfl rfl rfl rfl (fun h51 => V.loadAggR rfl rfl rfl rfl (Nat.le_of_ble_eq_true rfl)) (fun h51 => ?_) (fun h51 => ?_)
                ·skip
                 refine RW.k XK 174 1 rfl ?_
                 (conv=>whnf);refine ⟨rfl,?_⟩
                 refine RW.gcall rfl rfl rfl rfl (spec_SameKeep_fn ((perfK ((perfK ((talkK code).1) 60 (talkX code)).1) 61 (talkX code)).1) ((perfK ((talkK code).1) 60 (talkX code)).1) (by first | exact hA.okTo | exact perf_okTo hA)) rfl (.cons (.agg (.cons (.r .r) (.cons (.r .r) (.nil)))) (.cons (.agg (.cons (.r .r) (.cons (.r .r) (.nil)))) (.nil))) fun g52 => ?_
                 refine RW.k XK 174 2 rfl ?_
                 (conv=>whnf);refine ⟨rfl,?_⟩
                 refine RW.gv rfl rfl rfl rfl (fun h53 => V.mv (d := S ((perfK ((perfK ((talkK code).1) 60 (talkX code)).1) 61 (⟨(talkX code).op, (talkX code).token, (IntKind.i64.wrap ((talkX code).seq + 9)), (talkX code).key, (talkX code).val, (talkX code).ver⟩ : Command)).2.1)) rfl rfl) (fun h53 => ?_) (fun h53 => ?_)
                 ·skip
                  refine RW.k XK 174 3 rfl ?_
                  (conv=>whnf);refine ⟨rfl,?_⟩
                  refine RW.gv rfl rfl rfl rfl (fun h54 => V.loadAggR rfl rfl rfl rfl (Nat.le_of_ble_eq_true rfl)) (fun h54 => ?_) (fun h54 => ?_)
                  ·skip
                   refine RW.k XK 174 1 rfl ?_
                   (conv=>whnf);refine ⟨rfl,?_⟩
                   refine RW.gcall rfl rfl rfl rfl (spec_SameKeep_fn ((perfK ((perfK ((talkK code).1) 60 (talkX code)).1) 61 (⟨(talkX code).op, (talkX code).token, (IntKind.i64.wrap ((talkX code).seq + 9)), (talkX code).key, (talkX code).val, (talkX code).ver⟩ : Command)).1) ((perfK ((talkK code).1) 60 (talkX code)).1) (by first | exact hA.okTo | exact perf_okTo hA)) rfl (.cons (.agg (.cons (.r .r) (.cons (.r .r) (.nil)))) (.cons (.agg (.cons (.r .r) (.cons (.r .r) (.nil)))) (.nil))) fun g55 => ?_
                   refine RW.k XK 174 2 rfl ?_
                   (conv=>whnf);refine ⟨rfl,?_⟩
                   refine RW.nil ?_
                   exact ⟨_, by first | rfl | (simp_all; done) | (simp_all; omega) | grind, rfl, Le.of rfl⟩
                  ·skip
                   refine RW.k XK 174 4 rfl ?_
                   (conv=>whnf);refine ⟨rfl,?_⟩
                   refine RW.nil ?_
                   exact ⟨_, by first | rfl | (simp_all; done) | (simp_all; omega) | grind, rfl, Le.of rfl⟩
                 ·skip
                  refine RW.k XK 174 8 rfl ?_
                  (conv=>whnf);refine ⟨rfl,?_⟩
                  refine RW.nil ?_
                  exact ⟨_, by first | rfl | (simp_all; done) | (simp_all; omega) | grind, rfl, Le.of rfl⟩
                ·skip
                 refine RW.k XK 174 13 rfl ?_
                 (conv=>whnf);refine ⟨rfl,?_⟩
                 refine RW.nil ?_
                 exact ⟨_, by first | rfl | (simp_all; done) | (simp_all; omega) | grind, rfl, Le.of rfl⟩
               ·skip
                refine RW.k XK 174 18 rfl ?_
                (conv=>whnf);refine ⟨rfl,?_⟩
                refine RW.nil ?_
                exact ⟨_, by first | rfl | (simp_all; done) | (simp_all; omega) | grind, rfl, Le.of rfl⟩
              ·skip
               refine RW.k XK 174 21 rfl ?_
               (conv=>whnf);refine ⟨rfl,?_⟩
               refine RW.nil ?_
               exact ⟨_, by first | rfl | (simp_all; done) | (simp_all; omega) | grind, rfl, Le.of rfl⟩
             ·intro v48 hv56
              refine CW.ret ?_
              exact Post.one (RV.b rfl (by have hm : movedL (perfK (talkK code).1 60 (talkX code)).1.sessions (talkK code).1.sessions = true := (by rw [← hfn]; simpa using h46); rw [hv56, hg2 hm, hg3 hm]; simp [eqKeep_refl, tGap])) (AOs.r AOs.e)
end Go.Proofs.YtaeagpakloggfaaDoor.Y
