import Derived.Test.YtkfjkmklmjcngaaWHearB
namespace Go.Proofs.Ytkfjkmklmjcngaa.Y
open Go Go.RowKit Go.Eng Go.Proofs
set_option maxHeartbeats 4000000 in
theorem spec_Hear_fn (x : Stream) (s : Seg) (hm : x.late.length ≤ 1048576) : Eng.Fn E.P 15 [.agg ((Stream.c x).map .r), .agg ((Seg.c s).map .r)] (.one (.agg ((Stream.c (hear x s)).map .w))) [.agg ((Stream.c x).map .r), .agg ((Seg.c s).map .r)] := by
 refine Eng.Fn.intro (E := E) (rvs := [.cell 4 28]) Try.func15 rfl rfl rfl (by simp [outSlots, moved, rvSlot, sl]) ?_
 intro B g bo
 refine CW.le [(0, .agg ((Stream.c x).map .r)), (1, .agg ((Seg.c s).map .r))] rfl (Le.of rfl) ?_
 refine CW.seq ?_
 refine CW.region ?_
 refine RW.box (ds := ((Stream.c x).map .r)) rfl rfl rfl fun b1 => ?_
 refine RW.box (ds := ((Seg.c s).map .r)) rfl rfl rfl fun b2 => ?_
 refine RW.alloc (ds := [I 0, I 0, I 0, I 0, S (⟨#[]⟩), I 0, I 0, Bo false, S (⟨#[]⟩), .r (.v (.slice none 0 0)), Bo false, I 0, I 0]) rfl rfl rfl rfl fun b3 => ?_
 refine RW.nil ?_
 refine CW.le [(2, .obj b1 ((Stream.c x).map .r)), (3, .obj b2 ((Seg.c s).map .r)), (4, .obj b3 [I 0, I 0, I 0, I 0, S (⟨#[]⟩), I 0, I 0, Bo false, S (⟨#[]⟩), .r (.v (.slice none 0 0)), Bo false, I 0, I 0])] rfl (Le.of rfl) ?_
 refine CW.seq ?_
 refine CW.region ?_
 refine RW.v rfl (V.loadAgg rfl rfl rfl rfl rfl (Nat.le_of_ble_eq_true rfl)) ?_
 refine RW.call rfl (spec_l13Copy_fn x hm) rfl (.cons (.agg (.cons (.r .r) (.cons (.r .r) (.cons (.r .r) (.cons (.r .r) (.cons (.r .r) (.cons (.r .r) (.cons (.r .r) (.cons (.r .r) (.cons (.r .r) (.cons (.r .r) (.cons (.r .r) (.cons (.r .r) (.cons (.r .r) (.nil))))))))))))))) (.nil)) fun g4 => ?_
 refine RW.alloc (ds := [I 0, I 0, I 0, I 0, S (⟨#[]⟩), I 0, I 0, Bo false, S (⟨#[]⟩), .r (.v (.slice none 0 0)), Bo false, I 0, I 0]) rfl rfl rfl rfl fun b5 => ?_
 refine RW.storeAgg (es := [I x.state, I x.iss, I x.una, I x.rcv, S x.wait, I x.sent, I x.fin, Bo x.peerFin, S x.in_, .al 9 (some 9) 2 x.late.length (g4 0 9) 0, Bo x.owe, I x.due, I x.times]) rfl rfl rfl rfl rfl rfl rfl rfl (Nat.le_of_ble_eq_true rfl) rfl ?_
 refine RW.le [(2, .obj b1 ((Stream.c x).map .r)), (3, .obj b2 ((Seg.c s).map .r)), (4, .obj b3 [I 0, I 0, I 0, I 0, S (⟨#[]⟩), I 0, I 0, Bo false, S (⟨#[]⟩), .r (.v (.slice none 0 0)), Bo false, I 0, I 0]), (5, .obj b5 [I x.state, I x.iss, I x.una, I x.rcv, S x.wait, I x.sent, I x.fin, Bo x.peerFin, S x.in_, .al 9 (some 9) 2 x.late.length (g4 0 9) 0, Bo x.owe, I x.due, I x.times]), (9, .agg [I x.state, I x.iss, I x.una, I x.rcv, S x.wait, I x.sent, I x.fin, Bo x.peerFin, S x.in_, .w (sl 2 Late.c x.late) (g4 0 9), Bo x.owe, I x.due, I x.times])] rfl (Le.of rfl) ?_
 refine RW.pullA (k := 5) (l := 9) (j := 9) 5 9 9 rfl rfl rfl (by decide) rfl rfl rfl rfl ?_
 refine RW.le [(2, .obj b1 ((Stream.c x).map .r)), (3, .obj b2 ((Seg.c s).map .r)), (4, .obj b3 [I 0, I 0, I 0, I 0, S (⟨#[]⟩), I 0, I 0, Bo false, S (⟨#[]⟩), .r (.v (.slice none 0 0)), Bo false, I 0, I 0]), (5, .obj b5 [I x.state, I x.iss, I x.una, I x.rcv, S x.wait, I x.sent, I x.fin, Bo x.peerFin, S x.in_, .w (sl 2 Late.c x.late) (g4 0 9), Bo x.owe, I x.due, I x.times])] rfl (Le.of rfl) ?_
 refine RW.nil ?_
 refine CW.le [(2, .obj b1 ((Stream.c x).map .r)), (3, .obj b2 ((Seg.c s).map .r)), (4, .obj b3 [I 0, I 0, I 0, I 0, S (⟨#[]⟩), I 0, I 0, Bo false, S (⟨#[]⟩), .r (.v (.slice none 0 0)), Bo false, I 0, I 0]), (5, .obj b5 [I x.state, I x.iss, I x.una, I x.rcv, S x.wait, I x.sent, I x.fin, Bo x.peerFin, S x.in_, .w (sl 2 Late.c x.late) (g4 0 9), Bo x.owe, I x.due, I x.times])] rfl (Le.of rfl) ?_
 refine CW.seq ?_
 refine CW.seqJ 95 (fun (v6 : Bool) => [(2, .obj b1 ((Stream.c x).map .r)), (3, .obj b2 ((Seg.c s).map .r)), (4, .obj b3 [I 0, I 0, I 0, I 0, S (⟨#[]⟩), I 0, I 0, Bo false, S (⟨#[]⟩), .r (.v (.slice none 0 0)), Bo false, I 0, I 0]), (5, .obj b5 [I x.state, I x.iss, I x.una, I x.rcv, S x.wait, I x.sent, I x.fin, Bo x.peerFin, S x.in_, .w (sl 2 Late.c x.late) (g4 0 9), Bo x.owe, I x.due, I x.times]), (17, Bo v6)]) (fun v6 => v6 = ((!(streamOk x)) || (!(segOk s)))) ?_ ?_
 ·refine CW.region ?_
  refine RW.v rfl (V.loadAgg rfl rfl rfl rfl rfl (Nat.le_of_ble_eq_true rfl)) ?_
  refine RW.call rfl (spec_StreamOk_fn x hm) rfl (.cons (.agg (.cons (.r .r) (.cons (.r .r) (.cons (.r .r) (.cons (.r .r) (.cons (.r .r) (.cons (.r .r) (.cons (.r .r) (.cons (.r .r) (.cons (.r .r) (.cons (.r .r) (.cons (.r .r) (.cons (.r .r) (.cons (.r .r) (.nil))))))))))))))) (.nil)) fun g7 => ?_
  refine RW.v rfl (V.not rfl rfl) ?_
  refine RW.v rfl (V.mv (d := Bo (!(streamOk x))) rfl rfl) ?_
  refine RW.gv rfl rfl rfl rfl (fun h8 => V.loadAgg rfl rfl rfl rfl rfl (Nat.le_of_ble_eq_true rfl)) (fun h8 => ?_) (fun h8 => ?_)
  ·skip
   refine RW.gcall rfl rfl rfl rfl (spec_SegOk_fn s) rfl (.cons (.agg (.cons (.r .r) (.cons (.r .r) (.cons (.r .r) (.cons (.r .r) (.nil)))))) (.nil)) fun g9 => ?_
   refine RW.gt rfl rfl rfl rfl (V.not rfl rfl) ?_
   refine RW.v rfl (V.pickF (d := Bo (!(segOk s))) rfl rfl rfl) ?_
   refine RW.nil ?_
   exact ⟨_, by first | rfl | (simp_all; done) | (simp_all; omega) | grind, rfl, Le.c rfl <| Le.c rfl <| Le.c rfl <| Le.c rfl <| Le.c rfl <| Le.e⟩
  ·skip
   refine RW.guardF rfl rfl rfl rfl ?_
   refine RW.guardF rfl rfl rfl rfl ?_
   refine RW.v rfl (V.pickT (d := Bo true) rfl rfl rfl) ?_
   refine RW.nil ?_
   exact ⟨_, by first | rfl | (simp_all; done) | (simp_all; omega) | grind, rfl, Le.c rfl <| Le.c rfl <| Le.c rfl <| Le.c rfl <| Le.c rfl <| Le.e⟩
 ·intro v6 hv10
  refine CW.cond rfl (fun h11 => ?_) (fun h11 => ?_)
  ·skip
   refine CW.seq ?_
   refine CW.region ?_
   refine RW.v rfl (V.loadAgg rfl rfl rfl rfl rfl (Nat.le_of_ble_eq_true rfl)) ?_
   refine RW.storeAgg (es := [I x.state, I x.iss, I x.una, I x.rcv, S x.wait, I x.sent, I x.fin, Bo x.peerFin, S x.in_, .al 5 (some 9) 2 x.late.length (g4 0 9) 0, Bo x.owe, I x.due, I x.times]) rfl rfl rfl rfl rfl rfl rfl rfl (Nat.le_of_ble_eq_true rfl) rfl ?_
   refine RW.le [(4, .obj b3 [I x.state, I x.iss, I x.una, I x.rcv, S x.wait, I x.sent, I x.fin, Bo x.peerFin, S x.in_, .al 5 (some 9) 2 x.late.length (g4 0 9) 0, Bo x.owe, I x.due, I x.times]), (5, .obj b5 [I x.state, I x.iss, I x.una, I x.rcv, S x.wait, I x.sent, I x.fin, Bo x.peerFin, S x.in_, .w (sl 2 Late.c x.late) (g4 0 9), Bo x.owe, I x.due, I x.times])] rfl (Le.of rfl) ?_
   refine RW.pullO (k := 4) (l := 5) (j := 9) 4 5 9 rfl rfl rfl (by decide) rfl rfl rfl rfl ?_
   refine RW.le [(4, .obj b3 [I x.state, I x.iss, I x.una, I x.rcv, S x.wait, I x.sent, I x.fin, Bo x.peerFin, S x.in_, .w (sl 2 Late.c x.late) (g4 0 9), Bo x.owe, I x.due, I x.times])] rfl (Le.of rfl) ?_
   refine RW.nil ?_
   refine CW.le [(4, .obj b3 [I x.state, I x.iss, I x.una, I x.rcv, S x.wait, I x.sent, I x.fin, Bo x.peerFin, S x.in_, .w (sl 2 Late.c x.late) (g4 0 9), Bo x.owe, I x.due, I x.times])] rfl (Le.of rfl) ?_
   refine CW.ret ?_
   exact Post.one (RV.c (f := fun e => (Stream.c e).map .w) (e' := x) rfl rfl rfl rfl (DT.v (DT.v (DT.v (DT.v (DT.v (DT.v (DT.v (DT.v (DT.v (DT.w (DT.v (DT.v (DT.v DT.e))))))))))))) (by simp_all [hear])) (AOs.a rfl (AOs.a rfl AOs.e))
  ·skip
   have hxo : streamOk x = true := by simp_all
   have hso : segOk s = true := by simp_all
   refine CW.skip ?_
   refine CW.le [(2, .obj b1 ((Stream.c x).map .r)), (3, .obj b2 ((Seg.c s).map .r)), (4, .obj b3 [I 0, I 0, I 0, I 0, S (⟨#[]⟩), I 0, I 0, Bo false, S (⟨#[]⟩), .r (.v (.slice none 0 0)), Bo false, I 0, I 0]), (5, .obj b5 [I x.state, I x.iss, I x.una, I x.rcv, S x.wait, I x.sent, I x.fin, Bo x.peerFin, S x.in_, .w (sl 2 Late.c x.late) (g4 0 9), Bo x.owe, I x.due, I x.times])] rfl (Le.of rfl) ?_
   refine CW.seq ?_
   refine CW.region ?_
   refine RW.v rfl (V.loadAgg rfl rfl rfl rfl rfl (Nat.le_of_ble_eq_true rfl)) ?_
   refine RW.call rfl (spec_l12Has_fn s 1 (by decide)) rfl (.cons (.agg (.cons (.r .r) (.cons (.r .r) (.cons (.r .r) (.cons (.r .r) (.nil)))))) (.cons (.one (.r .r)) (.nil))) fun g12 => ?_
   refine RW.v rfl (V.as (d := Bo (hasB s.flags 1)) rfl rfl) ?_
   refine RW.nil ?_
   refine CW.le [(2, .obj b1 ((Stream.c x).map .r)), (3, .obj b2 ((Seg.c s).map .r)), (4, .obj b3 [I 0, I 0, I 0, I 0, S (⟨#[]⟩), I 0, I 0, Bo false, S (⟨#[]⟩), .r (.v (.slice none 0 0)), Bo false, I 0, I 0]), (5, .obj b5 [I x.state, I x.iss, I x.una, I x.rcv, S x.wait, I x.sent, I x.fin, Bo x.peerFin, S x.in_, .w (sl 2 Late.c x.late) (g4 0 9), Bo x.owe, I x.due, I x.times]), (6, Bo (hasB s.flags 1))] rfl (Le.of rfl) ?_
   refine CW.seq ?_
   refine CW.region ?_
   refine RW.v rfl (V.loadAgg rfl rfl rfl rfl rfl (Nat.le_of_ble_eq_true rfl)) ?_
   refine RW.call rfl (spec_l12Has_fn s 2 (by decide)) rfl (.cons (.agg (.cons (.r .r) (.cons (.r .r) (.cons (.r .r) (.cons (.r .r) (.nil)))))) (.cons (.one (.r .r)) (.nil))) fun g13 => ?_
   refine RW.v rfl (V.as (d := Bo (hasB s.flags 2)) rfl rfl) ?_
   refine RW.nil ?_
   refine CW.le [(2, .obj b1 ((Stream.c x).map .r)), (3, .obj b2 ((Seg.c s).map .r)), (4, .obj b3 [I 0, I 0, I 0, I 0, S (⟨#[]⟩), I 0, I 0, Bo false, S (⟨#[]⟩), .r (.v (.slice none 0 0)), Bo false, I 0, I 0]), (5, .obj b5 [I x.state, I x.iss, I x.una, I x.rcv, S x.wait, I x.sent, I x.fin, Bo x.peerFin, S x.in_, .w (sl 2 Late.c x.late) (g4 0 9), Bo x.owe, I x.due, I x.times]), (6, Bo (hasB s.flags 1)), (7, Bo (hasB s.flags 2))] rfl (Le.of rfl) ?_
   refine CW.seq ?_
   refine CW.seq ?_
   refine CW.region ?_
   refine RW.v rfl (V.field rfl rfl rfl rfl (by decide) rfl) ?_
   refine RW.v rfl (V.loadPrim (d := I x.state) rfl rfl (.inl rfl) rfl rfl rfl) ?_
   refine RW.nil ?_
   refine CW.le [(2, .obj b1 ((Stream.c x).map .r)), (3, .obj b2 ((Seg.c s).map .r)), (4, .obj b3 [I 0, I 0, I 0, I 0, S (⟨#[]⟩), I 0, I 0, Bo false, S (⟨#[]⟩), .r (.v (.slice none 0 0)), Bo false, I 0, I 0]), (5, .obj b5 [I x.state, I x.iss, I x.una, I x.rcv, S x.wait, I x.sent, I x.fin, Bo x.peerFin, S x.in_, .w (sl 2 Late.c x.late) (g4 0 9), Bo x.owe, I x.due, I x.times]), (6, Bo (hasB s.flags 1)), (7, Bo (hasB s.flags 2)), (24, I x.state)] rfl (Le.of rfl) ?_
   refine CW.block ?_
   refine CW.seq ?_
   refine CW.region ?_
   refine RW.v rfl (V.cmpInt rfl rfl rfl rfl) ?_
   refine RW.v rfl (V.as (d := Bo (x.state == 1)) rfl rfl) ?_
   refine RW.nil ?_
   refine CW.le [(2, .obj b1 ((Stream.c x).map .r)), (3, .obj b2 ((Seg.c s).map .r)), (4, .obj b3 [I 0, I 0, I 0, I 0, S (⟨#[]⟩), I 0, I 0, Bo false, S (⟨#[]⟩), .r (.v (.slice none 0 0)), Bo false, I 0, I 0]), (5, .obj b5 [I x.state, I x.iss, I x.una, I x.rcv, S x.wait, I x.sent, I x.fin, Bo x.peerFin, S x.in_, .w (sl 2 Late.c x.late) (g4 0 9), Bo x.owe, I x.due, I x.times]), (6, Bo (hasB s.flags 1)), (7, Bo (hasB s.flags 2)), (24, I x.state), (25, Bo (x.state == 1))] rfl (Le.of rfl) ?_
   refine CW.cond rfl (fun h14 => ?_) (fun h14 => ?_)
   ·skip
    refine CW.seqJ 95 (fun (v15 : Bool) => [(2, .obj b1 ((Stream.c x).map .r)), (3, .obj b2 ((Seg.c s).map .r)), (4, .obj b3 [I 0, I 0, I 0, I 0, S (⟨#[]⟩), I 0, I 0, Bo false, S (⟨#[]⟩), .r (.v (.slice none 0 0)), Bo false, I 0, I 0]), (5, .obj b5 [I x.state, I x.iss, I x.una, I x.rcv, S x.wait, I x.sent, I x.fin, Bo x.peerFin, S x.in_, .w (sl 2 Late.c x.late) (g4 0 9), Bo x.owe, I x.due, I x.times]), (31, Bo v15)]) (fun v15 => v15 = ((hasB s.flags 1) && (!(hasB s.flags 2)))) ?_ ?_
    ·refine CW.region ?_
     refine RW.v rfl (V.mv (d := Bo (hasB s.flags 1)) rfl rfl) ?_
     refine RW.v rfl (V.mv (d := Bo (hasB s.flags 1)) rfl rfl) ?_
     refine RW.gv rfl rfl rfl rfl (fun h16 => V.mv (d := Bo (hasB s.flags 2)) rfl rfl) (fun h16 => ?_) (fun h16 => ?_)
     ·skip
      refine RW.gt rfl rfl rfl rfl (V.not rfl rfl) ?_
      refine RW.v rfl (V.pickT (d := Bo (!(hasB s.flags 2))) rfl rfl rfl) ?_
      refine RW.nil ?_
      exact ⟨_, by first | rfl | (simp_all; done) | (simp_all; omega) | grind, rfl, Le.c rfl <| Le.c rfl <| Le.c rfl <| Le.c rfl <| Le.c rfl <| Le.e⟩
     ·skip
      refine RW.guardF rfl rfl rfl rfl ?_
      refine RW.v rfl (V.pickF (d := Bo false) rfl rfl rfl) ?_
      refine RW.nil ?_
      exact ⟨_, by first | rfl | (simp_all; done) | (simp_all; omega) | grind, rfl, Le.c rfl <| Le.c rfl <| Le.c rfl <| Le.c rfl <| Le.c rfl <| Le.e⟩
    ·intro v15 hv17
     refine CW.cond rfl (fun h18 => ?_) (fun h18 => ?_)
     ·skip
      refine CW.seq ?_
      refine CW.region ?_
      refine RW.v rfl (V.field rfl rfl rfl rfl (by decide) rfl) ?_
      refine RW.v rfl (V.loadPrim (d := I s.num) rfl rfl (.inl rfl) rfl rfl rfl) ?_
      refine RW.call rfl (spec_AddNum_fn s.num 1) rfl (.cons (.one (.r .r)) (.cons (.one (.r .r)) (.nil))) fun g19 => ?_
      refine RW.v rfl (V.field rfl rfl rfl rfl (by decide) rfl) ?_
      refine RW.store (d := I (addNum s.num 1)) rfl rfl rfl rfl rfl rfl rfl (Nat.le_of_ble_eq_true rfl) rfl rfl ?_
      refine RW.nil ?_
      refine CW.le [(2, .obj b1 ((Stream.c x).map .r)), (4, .obj b3 [I 0, I 0, I 0, I 0, S (⟨#[]⟩), I 0, I 0, Bo false, S (⟨#[]⟩), .r (.v (.slice none 0 0)), Bo false, I 0, I 0]), (5, .obj b5 [I x.state, I x.iss, I x.una, I (addNum s.num 1), S x.wait, I x.sent, I x.fin, Bo x.peerFin, S x.in_, .w (sl 2 Late.c x.late) (g4 0 9), Bo x.owe, I x.due, I x.times])] rfl (Le.of rfl) ?_
      refine CW.region ?_
      refine RW.v rfl (V.field rfl rfl rfl rfl (by decide) rfl) ?_
      refine RW.store (d := I 3) rfl rfl rfl rfl rfl rfl rfl (Nat.le_of_ble_eq_true rfl) rfl rfl ?_
      refine RW.nil ?_
      refine CW.le [(2, .obj b1 ((Stream.c x).map .r)), (4, .obj b3 [I 0, I 0, I 0, I 0, S (⟨#[]⟩), I 0, I 0, Bo false, S (⟨#[]⟩), .r (.v (.slice none 0 0)), Bo false, I 0, I 0]), (5, .obj b5 [I 3, I x.iss, I x.una, I (addNum s.num 1), S x.wait, I x.sent, I x.fin, Bo x.peerFin, S x.in_, .w (sl 2 Late.c x.late) (g4 0 9), Bo x.owe, I x.due, I x.times])] rfl (Le.of rfl) ?_
      refine CW.seq ?_
      refine CW.seq ?_
      refine CW.region ?_
      refine RW.v rfl (V.field rfl rfl rfl rfl (by decide) rfl) ?_
      refine RW.v rfl (V.loadPrim (d := S x.in_) rfl rfl (.inl rfl) rfl rfl rfl) ?_
      refine RW.v rfl (V.lenStr rfl (by kernel_rfl) rfl) ?_
      refine RW.v rfl (V.cmpInt rfl rfl rfl rfl) ?_
      refine RW.nil ?_
      refine CW.le [(2, .obj b1 ((Stream.c x).map .r)), (4, .obj b3 [I 0, I 0, I 0, I 0, S (⟨#[]⟩), I 0, I 0, Bo false, S (⟨#[]⟩), .r (.v (.slice none 0 0)), Bo false, I 0, I 0]), (5, .obj b5 [I 3, I x.iss, I x.una, I (addNum s.num 1), S x.wait, I x.sent, I x.fin, Bo x.peerFin, S x.in_, .w (sl 2 Late.c x.late) (g4 0 9), Bo x.owe, I x.due, I x.times]), (91, Bo (decide ((x.in_.size : Int) > 1000)))] rfl (Le.of rfl) ?_
      refine CW.cond rfl (fun h20 => ?_) (fun h20 => ?_)
      ·skip
       refine CW.seq ?_
       refine CW.region ?_
       refine RW.v rfl (V.loadAgg rfl rfl rfl rfl rfl (Nat.le_of_ble_eq_true rfl)) ?_
       refine RW.call rfl (spec_l13Copy_fn x hm) rfl (.cons (.agg (.cons (.r .r) (.cons (.r .r) (.cons (.r .r) (.cons (.r .r) (.cons (.r .r) (.cons (.r .r) (.cons (.r .r) (.cons (.r .r) (.cons (.r .r) (.cons (.r .r) (.cons (.r .r) (.cons (.r .r) (.cons (.r .r) (.nil))))))))))))))) (.nil)) fun g21 => ?_
       refine RW.storeAgg (es := [I x.state, I x.iss, I x.una, I x.rcv, S x.wait, I x.sent, I x.fin, Bo x.peerFin, S x.in_, .al 93 (some 9) 2 x.late.length (g21 0 9) 0, Bo x.owe, I x.due, I x.times]) rfl rfl rfl rfl rfl rfl rfl rfl (Nat.le_of_ble_eq_true rfl) rfl ?_
       refine RW.le [(4, .obj b3 [I x.state, I x.iss, I x.una, I x.rcv, S x.wait, I x.sent, I x.fin, Bo x.peerFin, S x.in_, .al 93 (some 9) 2 x.late.length (g21 0 9) 0, Bo x.owe, I x.due, I x.times]), (93, .agg [I x.state, I x.iss, I x.una, I x.rcv, S x.wait, I x.sent, I x.fin, Bo x.peerFin, S x.in_, .w (sl 2 Late.c x.late) (g21 0 9), Bo x.owe, I x.due, I x.times])] rfl (Le.of rfl) ?_
       refine RW.pullA (k := 4) (l := 93) (j := 9) 4 93 9 rfl rfl rfl (by decide) rfl rfl rfl rfl ?_
       refine RW.le [(4, .obj b3 [I x.state, I x.iss, I x.una, I x.rcv, S x.wait, I x.sent, I x.fin, Bo x.peerFin, S x.in_, .w (sl 2 Late.c x.late) (g21 0 9), Bo x.owe, I x.due, I x.times])] rfl (Le.of rfl) ?_
       refine RW.nil ?_
       refine CW.le [(4, .obj b3 [I x.state, I x.iss, I x.una, I x.rcv, S x.wait, I x.sent, I x.fin, Bo x.peerFin, S x.in_, .w (sl 2 Late.c x.late) (g21 0 9), Bo x.owe, I x.due, I x.times])] rfl (Le.of rfl) ?_
       refine CW.ret ?_
       exact Post.one (RV.c (f := fun e => (Stream.c e).map .w) (e' := x) rfl rfl rfl rfl (DT.v (DT.v (DT.v (DT.v (DT.v (DT.v (DT.v (DT.v (DT.v (DT.w (DT.v (DT.v (DT.v DT.e))))))))))))) (by clear hv10; simp only [hear, hxo, hso, hearN_heard]; first | (simp_all; done) | (simp_all; omega) | grind)) (AOs.a rfl (AOs.a rfl AOs.e))
      ·skip
       refine CW.skip ?_
       refine CW.le [(4, .obj b3 [I 0, I 0, I 0, I 0, S (⟨#[]⟩), I 0, I 0, Bo false, S (⟨#[]⟩), .r (.v (.slice none 0 0)), Bo false, I 0, I 0]), (5, .obj b5 [I 3, I x.iss, I x.una, I (addNum s.num 1), S x.wait, I x.sent, I x.fin, Bo x.peerFin, S x.in_, .w (sl 2 Late.c x.late) (g4 0 9), Bo x.owe, I x.due, I x.times])] rfl (Le.of rfl) ?_
       refine CW.seq ?_
       refine CW.region ?_
       refine RW.v rfl (V.loadAgg rfl rfl rfl rfl rfl (Nat.le_of_ble_eq_true rfl)) ?_
       refine RW.storeAgg (es := [I 3, I x.iss, I x.una, I (addNum s.num 1), S x.wait, I x.sent, I x.fin, Bo x.peerFin, S x.in_, .al 5 (some 9) 2 x.late.length (g4 0 9) 0, Bo x.owe, I x.due, I x.times]) rfl rfl rfl rfl rfl rfl rfl rfl (Nat.le_of_ble_eq_true rfl) rfl ?_
       refine RW.le [(4, .obj b3 [I 3, I x.iss, I x.una, I (addNum s.num 1), S x.wait, I x.sent, I x.fin, Bo x.peerFin, S x.in_, .al 5 (some 9) 2 x.late.length (g4 0 9) 0, Bo x.owe, I x.due, I x.times]), (5, .obj b5 [I 3, I x.iss, I x.una, I (addNum s.num 1), S x.wait, I x.sent, I x.fin, Bo x.peerFin, S x.in_, .w (sl 2 Late.c x.late) (g4 0 9), Bo x.owe, I x.due, I x.times])] rfl (Le.of rfl) ?_
       refine RW.pullO (k := 4) (l := 5) (j := 9) 4 5 9 rfl rfl rfl (by decide) rfl rfl rfl rfl ?_
       refine RW.le [(4, .obj b3 [I 3, I x.iss, I x.una, I (addNum s.num 1), S x.wait, I x.sent, I x.fin, Bo x.peerFin, S x.in_, .w (sl 2 Late.c x.late) (g4 0 9), Bo x.owe, I x.due, I x.times])] rfl (Le.of rfl) ?_
       refine RW.nil ?_
       refine CW.le [(4, .obj b3 [I 3, I x.iss, I x.una, I (addNum s.num 1), S x.wait, I x.sent, I x.fin, Bo x.peerFin, S x.in_, .w (sl 2 Late.c x.late) (g4 0 9), Bo x.owe, I x.due, I x.times])] rfl (Le.of rfl) ?_
       refine CW.ret ?_
       exact Post.one (RV.c (f := fun e => (Stream.c e).map .w) (e' := (⟨3, x.iss, x.una, (addNum s.num 1), x.wait, x.sent, x.fin, x.peerFin, x.in_, x.late, x.owe, x.due, x.times⟩ : Stream)) rfl rfl rfl rfl (DT.v (DT.v (DT.v (DT.v (DT.v (DT.v (DT.v (DT.v (DT.v (DT.w (DT.v (DT.v (DT.v DT.e))))))))))))) (by clear hv10; simp only [hear, hxo, hso, hearN_heard]; first | (simp_all; done) | (simp_all; omega) | grind)) (AOs.a rfl (AOs.a rfl AOs.e))
     ·skip
      refine CW.skip ?_
      refine CW.le [(2, .obj b1 ((Stream.c x).map .r)), (4, .obj b3 [I 0, I 0, I 0, I 0, S (⟨#[]⟩), I 0, I 0, Bo false, S (⟨#[]⟩), .r (.v (.slice none 0 0)), Bo false, I 0, I 0]), (5, .obj b5 [I x.state, I x.iss, I x.una, I x.rcv, S x.wait, I x.sent, I x.fin, Bo x.peerFin, S x.in_, .w (sl 2 Late.c x.late) (g4 0 9), Bo x.owe, I x.due, I x.times])] rfl (Le.of rfl) ?_
      refine CW.seq ?_
      refine CW.seq ?_
      refine CW.region ?_
      refine RW.v rfl (V.field rfl rfl rfl rfl (by decide) rfl) ?_
      refine RW.v rfl (V.loadPrim (d := S x.in_) rfl rfl (.inl rfl) rfl rfl rfl) ?_
      refine RW.v rfl (V.lenStr rfl (by kernel_rfl) rfl) ?_
      refine RW.v rfl (V.cmpInt rfl rfl rfl rfl) ?_
      refine RW.nil ?_
      refine CW.le [(2, .obj b1 ((Stream.c x).map .r)), (4, .obj b3 [I 0, I 0, I 0, I 0, S (⟨#[]⟩), I 0, I 0, Bo false, S (⟨#[]⟩), .r (.v (.slice none 0 0)), Bo false, I 0, I 0]), (5, .obj b5 [I x.state, I x.iss, I x.una, I x.rcv, S x.wait, I x.sent, I x.fin, Bo x.peerFin, S x.in_, .w (sl 2 Late.c x.late) (g4 0 9), Bo x.owe, I x.due, I x.times]), (91, Bo (decide ((x.in_.size : Int) > 1000)))] rfl (Le.of rfl) ?_
      refine CW.cond rfl (fun h22 => ?_) (fun h22 => ?_)
      ·skip
       refine CW.seq ?_
       refine CW.region ?_
       refine RW.v rfl (V.loadAgg rfl rfl rfl rfl rfl (Nat.le_of_ble_eq_true rfl)) ?_
       refine RW.call rfl (spec_l13Copy_fn x hm) rfl (.cons (.agg (.cons (.r .r) (.cons (.r .r) (.cons (.r .r) (.cons (.r .r) (.cons (.r .r) (.cons (.r .r) (.cons (.r .r) (.cons (.r .r) (.cons (.r .r) (.cons (.r .r) (.cons (.r .r) (.cons (.r .r) (.cons (.r .r) (.nil))))))))))))))) (.nil)) fun g23 => ?_
       refine RW.storeAgg (es := [I x.state, I x.iss, I x.una, I x.rcv, S x.wait, I x.sent, I x.fin, Bo x.peerFin, S x.in_, .al 93 (some 9) 2 x.late.length (g23 0 9) 0, Bo x.owe, I x.due, I x.times]) rfl rfl rfl rfl rfl rfl rfl rfl (Nat.le_of_ble_eq_true rfl) rfl ?_
       refine RW.le [(4, .obj b3 [I x.state, I x.iss, I x.una, I x.rcv, S x.wait, I x.sent, I x.fin, Bo x.peerFin, S x.in_, .al 93 (some 9) 2 x.late.length (g23 0 9) 0, Bo x.owe, I x.due, I x.times]), (93, .agg [I x.state, I x.iss, I x.una, I x.rcv, S x.wait, I x.sent, I x.fin, Bo x.peerFin, S x.in_, .w (sl 2 Late.c x.late) (g23 0 9), Bo x.owe, I x.due, I x.times])] rfl (Le.of rfl) ?_
       refine RW.pullA (k := 4) (l := 93) (j := 9) 4 93 9 rfl rfl rfl (by decide) rfl rfl rfl rfl ?_
       refine RW.le [(4, .obj b3 [I x.state, I x.iss, I x.una, I x.rcv, S x.wait, I x.sent, I x.fin, Bo x.peerFin, S x.in_, .w (sl 2 Late.c x.late) (g23 0 9), Bo x.owe, I x.due, I x.times])] rfl (Le.of rfl) ?_
       refine RW.nil ?_
       refine CW.le [(4, .obj b3 [I x.state, I x.iss, I x.una, I x.rcv, S x.wait, I x.sent, I x.fin, Bo x.peerFin, S x.in_, .w (sl 2 Late.c x.late) (g23 0 9), Bo x.owe, I x.due, I x.times])] rfl (Le.of rfl) ?_
       refine CW.ret ?_
       exact Post.one (RV.c (f := fun e => (Stream.c e).map .w) (e' := x) rfl rfl rfl rfl (DT.v (DT.v (DT.v (DT.v (DT.v (DT.v (DT.v (DT.v (DT.v (DT.w (DT.v (DT.v (DT.v DT.e))))))))))))) (by clear hv10; simp only [hear, hxo, hso, hearN_heard]; first | (simp_all; done) | (simp_all; omega) | grind)) (AOs.a rfl (AOs.a rfl AOs.e))
      ·skip
       refine CW.skip ?_
       refine CW.le [(4, .obj b3 [I 0, I 0, I 0, I 0, S (⟨#[]⟩), I 0, I 0, Bo false, S (⟨#[]⟩), .r (.v (.slice none 0 0)), Bo false, I 0, I 0]), (5, .obj b5 [I x.state, I x.iss, I x.una, I x.rcv, S x.wait, I x.sent, I x.fin, Bo x.peerFin, S x.in_, .w (sl 2 Late.c x.late) (g4 0 9), Bo x.owe, I x.due, I x.times])] rfl (Le.of rfl) ?_
       refine CW.seq ?_
       refine CW.region ?_
       refine RW.v rfl (V.loadAgg rfl rfl rfl rfl rfl (Nat.le_of_ble_eq_true rfl)) ?_
       refine RW.storeAgg (es := [I x.state, I x.iss, I x.una, I x.rcv, S x.wait, I x.sent, I x.fin, Bo x.peerFin, S x.in_, .al 5 (some 9) 2 x.late.length (g4 0 9) 0, Bo x.owe, I x.due, I x.times]) rfl rfl rfl rfl rfl rfl rfl rfl (Nat.le_of_ble_eq_true rfl) rfl ?_
       refine RW.le [(4, .obj b3 [I x.state, I x.iss, I x.una, I x.rcv, S x.wait, I x.sent, I x.fin, Bo x.peerFin, S x.in_, .al 5 (some 9) 2 x.late.length (g4 0 9) 0, Bo x.owe, I x.due, I x.times]), (5, .obj b5 [I x.state, I x.iss, I x.una, I x.rcv, S x.wait, I x.sent, I x.fin, Bo x.peerFin, S x.in_, .w (sl 2 Late.c x.late) (g4 0 9), Bo x.owe, I x.due, I x.times])] rfl (Le.of rfl) ?_
       refine RW.pullO (k := 4) (l := 5) (j := 9) 4 5 9 rfl rfl rfl (by decide) rfl rfl rfl rfl ?_
       refine RW.le [(4, .obj b3 [I x.state, I x.iss, I x.una, I x.rcv, S x.wait, I x.sent, I x.fin, Bo x.peerFin, S x.in_, .w (sl 2 Late.c x.late) (g4 0 9), Bo x.owe, I x.due, I x.times])] rfl (Le.of rfl) ?_
       refine RW.nil ?_
       refine CW.le [(4, .obj b3 [I x.state, I x.iss, I x.una, I x.rcv, S x.wait, I x.sent, I x.fin, Bo x.peerFin, S x.in_, .w (sl 2 Late.c x.late) (g4 0 9), Bo x.owe, I x.due, I x.times])] rfl (Le.of rfl) ?_
       refine CW.ret ?_
       exact Post.one (RV.c (f := fun e => (Stream.c e).map .w) (e' := x) rfl rfl rfl rfl (DT.v (DT.v (DT.v (DT.v (DT.v (DT.v (DT.v (DT.v (DT.v (DT.w (DT.v (DT.v (DT.v DT.e))))))))))))) (by clear hv10; simp only [hear, hxo, hso, hearN_heard]; first | (simp_all; done) | (simp_all; omega) | grind)) (AOs.a rfl (AOs.a rfl AOs.e))
   ·skip
    refine CW.seq ?_
    refine CW.region ?_
    refine RW.v rfl (V.cmpInt rfl rfl rfl rfl) ?_
    refine RW.v rfl (V.as (d := Bo (x.state == 2)) rfl rfl) ?_
    refine RW.nil ?_
    refine CW.le [(2, .obj b1 ((Stream.c x).map .r)), (3, .obj b2 ((Seg.c s).map .r)), (4, .obj b3 [I 0, I 0, I 0, I 0, S (⟨#[]⟩), I 0, I 0, Bo false, S (⟨#[]⟩), .r (.v (.slice none 0 0)), Bo false, I 0, I 0]), (5, .obj b5 [I x.state, I x.iss, I x.una, I x.rcv, S x.wait, I x.sent, I x.fin, Bo x.peerFin, S x.in_, .w (sl 2 Late.c x.late) (g4 0 9), Bo x.owe, I x.due, I x.times]), (6, Bo (hasB s.flags 1)), (7, Bo (hasB s.flags 2)), (24, I x.state), (37, Bo (x.state == 2))] rfl (Le.of rfl) ?_
    refine CW.cond rfl (fun h24 => ?_) (fun h24 => ?_)
    ·skip
     refine CW.seqJ 95 (fun (v25 : Bool) => [(2, .obj b1 ((Stream.c x).map .r)), (3, .obj b2 ((Seg.c s).map .r)), (4, .obj b3 [I 0, I 0, I 0, I 0, S (⟨#[]⟩), I 0, I 0, Bo false, S (⟨#[]⟩), .r (.v (.slice none 0 0)), Bo false, I 0, I 0]), (5, .obj b5 [I x.state, I x.iss, I x.una, I x.rcv, S x.wait, I x.sent, I x.fin, Bo x.peerFin, S x.in_, .w (sl 2 Late.c x.late) (g4 0 9), Bo x.owe, I x.due, I x.times]), (50, Bo v25)]) (fun v25 => v25 = (((hasB s.flags 1) && (hasB s.flags 2)) && (s.ack == (addNum x.iss 1)))) ?_ ?_
     ·refine CW.drawn (by kernel_rfl) ?_
      refine RQ.v rfl (V.mv (d := Bo (hasB s.flags 1)) rfl rfl) ?_
      refine RQ.v rfl (V.mv (d := Bo (hasB s.flags 1)) rfl rfl) ?_
      refine RQ.gv rfl rfl rfl rfl (fun h26 => V.mv (d := Bo (hasB s.flags 2)) rfl rfl) (fun h26 => ?_) (fun h26 => ?_)
      ·skip
       refine RQ.v rfl (V.pickT (d := Bo (hasB s.flags 2)) rfl rfl rfl) ?_
       refine RQ.v rfl (V.mv (d := Bo (hasB s.flags 2)) rfl rfl) ?_
       refine RQ.gv rfl rfl rfl rfl (fun h27 => V.field rfl rfl rfl rfl (by decide) rfl) (fun h27 => ?_) (fun h27 => ?_)
       ·skip
        refine RQ.gt rfl rfl rfl rfl (V.loadPrim (d := I s.ack) rfl rfl (.inl rfl) rfl rfl rfl) ?_
        refine RQ.gt rfl rfl rfl rfl (V.field rfl rfl rfl rfl (by decide) rfl) ?_
        refine RQ.gt rfl rfl rfl rfl (V.loadPrim (d := I x.iss) rfl rfl (.inl rfl) rfl rfl rfl) ?_
        refine RQ.guardT rfl rfl rfl rfl (QOK.call (spec_AddNum_fn x.iss 1) rfl (.cons (.one (.r .r)) (.cons (.one (.r .r)) (.nil))) ?_)
        refine RQ.gt rfl rfl rfl rfl (V.cmpInt rfl rfl rfl rfl) ?_
        refine RQ.v rfl (V.pickT (d := Bo (s.ack == (addNum x.iss 1))) rfl rfl rfl) ?_
        refine RQ.nil ?_
        exact ⟨_, by first | rfl | (simp_all; done) | (simp_all; omega) | grind, rfl, Le.c rfl <| Le.c rfl <| Le.c rfl <| Le.c rfl <| Le.c rfl <| Le.e⟩
       ·skip
        refine RQ.guardF rfl rfl rfl rfl ?_
        refine RQ.guardF rfl rfl rfl rfl ?_
        refine RQ.guardF rfl rfl rfl rfl ?_
        refine RQ.guardF rfl rfl rfl rfl ?_
        refine RQ.guardF rfl rfl rfl rfl ?_
        refine RQ.v rfl (V.pickF (d := Bo false) rfl rfl rfl) ?_
        refine RQ.nil ?_
        exact ⟨_, by first | rfl | (simp_all; done) | (simp_all; omega) | grind, rfl, Le.c rfl <| Le.c rfl <| Le.c rfl <| Le.c rfl <| Le.c rfl <| Le.e⟩
      ·skip
       refine RQ.v rfl (V.pickF (d := Bo false) rfl rfl rfl) ?_
       refine RQ.v rfl (V.mv (d := Bo false) rfl rfl) ?_
       refine RQ.guardF rfl rfl rfl rfl ?_
       refine RQ.guardF rfl rfl rfl rfl ?_
       refine RQ.guardF rfl rfl rfl rfl ?_
       refine RQ.guardF rfl rfl rfl rfl ?_
       refine RQ.guardF rfl rfl rfl rfl ?_
       refine RQ.guardF rfl rfl rfl rfl ?_
       refine RQ.v rfl (V.pickF (d := Bo false) rfl rfl rfl) ?_
       refine RQ.nil ?_
       exact ⟨_, by first | rfl | (simp_all; done) | (simp_all; omega) | grind, rfl, Le.c rfl <| Le.c rfl <| Le.c rfl <| Le.c rfl <| Le.c rfl <| Le.e⟩
     ·intro v25 hv28
      refine CW.cond rfl (fun h29 => ?_) (fun h29 => ?_)
      ·skip
       refine CW.seq ?_
       refine CW.region ?_
       refine RW.v rfl (V.field rfl rfl rfl rfl (by decide) rfl) ?_
       refine RW.v rfl (V.loadPrim (d := I s.num) rfl rfl (.inl rfl) rfl rfl rfl) ?_
       refine RW.call rfl (spec_AddNum_fn s.num 1) rfl (.cons (.one (.r .r)) (.cons (.one (.r .r)) (.nil))) fun g30 => ?_
       refine RW.v rfl (V.field rfl rfl rfl rfl (by decide) rfl) ?_
       refine RW.store (d := I (addNum s.num 1)) rfl rfl rfl rfl rfl rfl rfl (Nat.le_of_ble_eq_true rfl) rfl rfl ?_
       refine RW.nil ?_
       refine CW.le [(2, .obj b1 ((Stream.c x).map .r)), (3, .obj b2 ((Seg.c s).map .r)), (4, .obj b3 [I 0, I 0, I 0, I 0, S (⟨#[]⟩), I 0, I 0, Bo false, S (⟨#[]⟩), .r (.v (.slice none 0 0)), Bo false, I 0, I 0]), (5, .obj b5 [I x.state, I x.iss, I x.una, I (addNum s.num 1), S x.wait, I x.sent, I x.fin, Bo x.peerFin, S x.in_, .w (sl 2 Late.c x.late) (g4 0 9), Bo x.owe, I x.due, I x.times])] rfl (Le.of rfl) ?_
       refine CW.seq ?_
       refine CW.region ?_
       refine RW.v rfl (V.field rfl rfl rfl rfl (by decide) rfl) ?_
       refine RW.v rfl (V.loadPrim (d := I s.ack) rfl rfl (.inl rfl) rfl rfl rfl) ?_
       refine RW.v rfl (V.field rfl rfl rfl rfl (by decide) rfl) ?_
       refine RW.store (d := I s.ack) rfl rfl rfl rfl rfl rfl rfl (Nat.le_of_ble_eq_true rfl) rfl rfl ?_
       refine RW.nil ?_
       refine CW.le [(2, .obj b1 ((Stream.c x).map .r)), (4, .obj b3 [I 0, I 0, I 0, I 0, S (⟨#[]⟩), I 0, I 0, Bo false, S (⟨#[]⟩), .r (.v (.slice none 0 0)), Bo false, I 0, I 0]), (5, .obj b5 [I x.state, I x.iss, I s.ack, I (addNum s.num 1), S x.wait, I x.sent, I x.fin, Bo x.peerFin, S x.in_, .w (sl 2 Late.c x.late) (g4 0 9), Bo x.owe, I x.due, I x.times])] rfl (Le.of rfl) ?_
       refine CW.seq ?_
       refine CW.region ?_
       refine RW.v rfl (V.field rfl rfl rfl rfl (by decide) rfl) ?_
       refine RW.store (d := I 4) rfl rfl rfl rfl rfl rfl rfl (Nat.le_of_ble_eq_true rfl) rfl rfl ?_
       refine RW.nil ?_
       refine CW.le [(2, .obj b1 ((Stream.c x).map .r)), (4, .obj b3 [I 0, I 0, I 0, I 0, S (⟨#[]⟩), I 0, I 0, Bo false, S (⟨#[]⟩), .r (.v (.slice none 0 0)), Bo false, I 0, I 0]), (5, .obj b5 [I 4, I x.iss, I s.ack, I (addNum s.num 1), S x.wait, I x.sent, I x.fin, Bo x.peerFin, S x.in_, .w (sl 2 Late.c x.late) (g4 0 9), Bo x.owe, I x.due, I x.times])] rfl (Le.of rfl) ?_
       refine CW.seq ?_
       refine CW.region ?_
       refine RW.v rfl (V.field rfl rfl rfl rfl (by decide) rfl) ?_
       refine RW.store (d := Bo true) rfl rfl rfl rfl rfl rfl rfl (Nat.le_of_ble_eq_true rfl) rfl rfl ?_
       refine RW.nil ?_
       refine CW.le [(2, .obj b1 ((Stream.c x).map .r)), (4, .obj b3 [I 0, I 0, I 0, I 0, S (⟨#[]⟩), I 0, I 0, Bo false, S (⟨#[]⟩), .r (.v (.slice none 0 0)), Bo false, I 0, I 0]), (5, .obj b5 [I 4, I x.iss, I s.ack, I (addNum s.num 1), S x.wait, I x.sent, I x.fin, Bo x.peerFin, S x.in_, .w (sl 2 Late.c x.late) (g4 0 9), Bo true, I x.due, I x.times])] rfl (Le.of rfl) ?_
       refine CW.seq ?_
       refine CW.region ?_
       refine RW.v rfl (V.field rfl rfl rfl rfl (by decide) rfl) ?_
       refine RW.store (d := I 0) rfl rfl rfl rfl rfl rfl rfl (Nat.le_of_ble_eq_true rfl) rfl rfl ?_
       refine RW.nil ?_
       refine CW.le [(2, .obj b1 ((Stream.c x).map .r)), (4, .obj b3 [I 0, I 0, I 0, I 0, S (⟨#[]⟩), I 0, I 0, Bo false, S (⟨#[]⟩), .r (.v (.slice none 0 0)), Bo false, I 0, I 0]), (5, .obj b5 [I 4, I x.iss, I s.ack, I (addNum s.num 1), S x.wait, I x.sent, I x.fin, Bo x.peerFin, S x.in_, .w (sl 2 Late.c x.late) (g4 0 9), Bo true, I x.due, I 0])] rfl (Le.of rfl) ?_
       refine CW.region ?_
       refine RW.v rfl (V.field rfl rfl rfl rfl (by decide) rfl) ?_
       refine RW.store (d := I 0) rfl rfl rfl rfl rfl rfl rfl (Nat.le_of_ble_eq_true rfl) rfl rfl ?_
       refine RW.nil ?_
       refine CW.le [(2, .obj b1 ((Stream.c x).map .r)), (4, .obj b3 [I 0, I 0, I 0, I 0, S (⟨#[]⟩), I 0, I 0, Bo false, S (⟨#[]⟩), .r (.v (.slice none 0 0)), Bo false, I 0, I 0]), (5, .obj b5 [I 4, I x.iss, I s.ack, I (addNum s.num 1), S x.wait, I x.sent, I x.fin, Bo x.peerFin, S x.in_, .w (sl 2 Late.c x.late) (g4 0 9), Bo true, I 0, I 0])] rfl (Le.of rfl) ?_
       refine CW.seq ?_
       refine CW.seq ?_
       refine CW.region ?_
       refine RW.v rfl (V.field rfl rfl rfl rfl (by decide) rfl) ?_
       refine RW.v rfl (V.loadPrim (d := S x.in_) rfl rfl (.inl rfl) rfl rfl rfl) ?_
       refine RW.v rfl (V.lenStr rfl (by kernel_rfl) rfl) ?_
       refine RW.v rfl (V.cmpInt rfl rfl rfl rfl) ?_
       refine RW.nil ?_
       refine CW.le [(2, .obj b1 ((Stream.c x).map .r)), (4, .obj b3 [I 0, I 0, I 0, I 0, S (⟨#[]⟩), I 0, I 0, Bo false, S (⟨#[]⟩), .r (.v (.slice none 0 0)), Bo false, I 0, I 0]), (5, .obj b5 [I 4, I x.iss, I s.ack, I (addNum s.num 1), S x.wait, I x.sent, I x.fin, Bo x.peerFin, S x.in_, .w (sl 2 Late.c x.late) (g4 0 9), Bo true, I 0, I 0]), (91, Bo (decide ((x.in_.size : Int) > 1000)))] rfl (Le.of rfl) ?_
       refine CW.cond rfl (fun h31 => ?_) (fun h31 => ?_)
       ·skip
        refine CW.seq ?_
        refine CW.region ?_
        refine RW.v rfl (V.loadAgg rfl rfl rfl rfl rfl (Nat.le_of_ble_eq_true rfl)) ?_
        refine RW.call rfl (spec_l13Copy_fn x hm) rfl (.cons (.agg (.cons (.r .r) (.cons (.r .r) (.cons (.r .r) (.cons (.r .r) (.cons (.r .r) (.cons (.r .r) (.cons (.r .r) (.cons (.r .r) (.cons (.r .r) (.cons (.r .r) (.cons (.r .r) (.cons (.r .r) (.cons (.r .r) (.nil))))))))))))))) (.nil)) fun g32 => ?_
        refine RW.storeAgg (es := [I x.state, I x.iss, I x.una, I x.rcv, S x.wait, I x.sent, I x.fin, Bo x.peerFin, S x.in_, .al 93 (some 9) 2 x.late.length (g32 0 9) 0, Bo x.owe, I x.due, I x.times]) rfl rfl rfl rfl rfl rfl rfl rfl (Nat.le_of_ble_eq_true rfl) rfl ?_
        refine RW.le [(4, .obj b3 [I x.state, I x.iss, I x.una, I x.rcv, S x.wait, I x.sent, I x.fin, Bo x.peerFin, S x.in_, .al 93 (some 9) 2 x.late.length (g32 0 9) 0, Bo x.owe, I x.due, I x.times]), (93, .agg [I x.state, I x.iss, I x.una, I x.rcv, S x.wait, I x.sent, I x.fin, Bo x.peerFin, S x.in_, .w (sl 2 Late.c x.late) (g32 0 9), Bo x.owe, I x.due, I x.times])] rfl (Le.of rfl) ?_
        refine RW.pullA (k := 4) (l := 93) (j := 9) 4 93 9 rfl rfl rfl (by decide) rfl rfl rfl rfl ?_
        refine RW.le [(4, .obj b3 [I x.state, I x.iss, I x.una, I x.rcv, S x.wait, I x.sent, I x.fin, Bo x.peerFin, S x.in_, .w (sl 2 Late.c x.late) (g32 0 9), Bo x.owe, I x.due, I x.times])] rfl (Le.of rfl) ?_
        refine RW.nil ?_
        refine CW.le [(4, .obj b3 [I x.state, I x.iss, I x.una, I x.rcv, S x.wait, I x.sent, I x.fin, Bo x.peerFin, S x.in_, .w (sl 2 Late.c x.late) (g32 0 9), Bo x.owe, I x.due, I x.times])] rfl (Le.of rfl) ?_
        refine CW.ret ?_
        exact Post.one (RV.c (f := fun e => (Stream.c e).map .w) (e' := x) rfl rfl rfl rfl (DT.v (DT.v (DT.v (DT.v (DT.v (DT.v (DT.v (DT.v (DT.v (DT.w (DT.v (DT.v (DT.v DT.e))))))))))))) (by clear hv10; simp only [hear, hxo, hso, hearN_heard]; first | (simp_all; done) | (simp_all; omega) | grind)) (AOs.a rfl (AOs.a rfl AOs.e))
       ·skip
        refine CW.skip ?_
        refine CW.le [(4, .obj b3 [I 0, I 0, I 0, I 0, S (⟨#[]⟩), I 0, I 0, Bo false, S (⟨#[]⟩), .r (.v (.slice none 0 0)), Bo false, I 0, I 0]), (5, .obj b5 [I 4, I x.iss, I s.ack, I (addNum s.num 1), S x.wait, I x.sent, I x.fin, Bo x.peerFin, S x.in_, .w (sl 2 Late.c x.late) (g4 0 9), Bo true, I 0, I 0])] rfl (Le.of rfl) ?_
        refine CW.seq ?_
        refine CW.region ?_
        refine RW.v rfl (V.loadAgg rfl rfl rfl rfl rfl (Nat.le_of_ble_eq_true rfl)) ?_
        refine RW.storeAgg (es := [I 4, I x.iss, I s.ack, I (addNum s.num 1), S x.wait, I x.sent, I x.fin, Bo x.peerFin, S x.in_, .al 5 (some 9) 2 x.late.length (g4 0 9) 0, Bo true, I 0, I 0]) rfl rfl rfl rfl rfl rfl rfl rfl (Nat.le_of_ble_eq_true rfl) rfl ?_
        refine RW.le [(4, .obj b3 [I 4, I x.iss, I s.ack, I (addNum s.num 1), S x.wait, I x.sent, I x.fin, Bo x.peerFin, S x.in_, .al 5 (some 9) 2 x.late.length (g4 0 9) 0, Bo true, I 0, I 0]), (5, .obj b5 [I 4, I x.iss, I s.ack, I (addNum s.num 1), S x.wait, I x.sent, I x.fin, Bo x.peerFin, S x.in_, .w (sl 2 Late.c x.late) (g4 0 9), Bo true, I 0, I 0])] rfl (Le.of rfl) ?_
        refine RW.pullO (k := 4) (l := 5) (j := 9) 4 5 9 rfl rfl rfl (by decide) rfl rfl rfl rfl ?_
        refine RW.le [(4, .obj b3 [I 4, I x.iss, I s.ack, I (addNum s.num 1), S x.wait, I x.sent, I x.fin, Bo x.peerFin, S x.in_, .w (sl 2 Late.c x.late) (g4 0 9), Bo true, I 0, I 0])] rfl (Le.of rfl) ?_
        refine RW.nil ?_
        refine CW.le [(4, .obj b3 [I 4, I x.iss, I s.ack, I (addNum s.num 1), S x.wait, I x.sent, I x.fin, Bo x.peerFin, S x.in_, .w (sl 2 Late.c x.late) (g4 0 9), Bo true, I 0, I 0])] rfl (Le.of rfl) ?_
        refine CW.ret ?_
        exact Post.one (RV.c (f := fun e => (Stream.c e).map .w) (e' := (⟨4, x.iss, s.ack, (addNum s.num 1), x.wait, x.sent, x.fin, x.peerFin, x.in_, x.late, true, 0, 0⟩ : Stream)) rfl rfl rfl rfl (DT.v (DT.v (DT.v (DT.v (DT.v (DT.v (DT.v (DT.v (DT.v (DT.w (DT.v (DT.v (DT.v DT.e))))))))))))) (by clear hv10; simp only [hear, hxo, hso, hearN_heard]; first | (simp_all; done) | (simp_all; omega) | grind)) (AOs.a rfl (AOs.a rfl AOs.e))
      ·skip
       refine CW.skip ?_
       refine CW.le [(2, .obj b1 ((Stream.c x).map .r)), (4, .obj b3 [I 0, I 0, I 0, I 0, S (⟨#[]⟩), I 0, I 0, Bo false, S (⟨#[]⟩), .r (.v (.slice none 0 0)), Bo false, I 0, I 0]), (5, .obj b5 [I x.state, I x.iss, I x.una, I x.rcv, S x.wait, I x.sent, I x.fin, Bo x.peerFin, S x.in_, .w (sl 2 Late.c x.late) (g4 0 9), Bo x.owe, I x.due, I x.times])] rfl (Le.of rfl) ?_
       refine CW.seq ?_
       refine CW.seq ?_
       refine CW.region ?_
       refine RW.v rfl (V.field rfl rfl rfl rfl (by decide) rfl) ?_
       refine RW.v rfl (V.loadPrim (d := S x.in_) rfl rfl (.inl rfl) rfl rfl rfl) ?_
       refine RW.v rfl (V.lenStr rfl (by kernel_rfl) rfl) ?_
       refine RW.v rfl (V.cmpInt rfl rfl rfl rfl) ?_
       refine RW.nil ?_
       refine CW.le [(2, .obj b1 ((Stream.c x).map .r)), (4, .obj b3 [I 0, I 0, I 0, I 0, S (⟨#[]⟩), I 0, I 0, Bo false, S (⟨#[]⟩), .r (.v (.slice none 0 0)), Bo false, I 0, I 0]), (5, .obj b5 [I x.state, I x.iss, I x.una, I x.rcv, S x.wait, I x.sent, I x.fin, Bo x.peerFin, S x.in_, .w (sl 2 Late.c x.late) (g4 0 9), Bo x.owe, I x.due, I x.times]), (91, Bo (decide ((x.in_.size : Int) > 1000)))] rfl (Le.of rfl) ?_
       refine CW.cond rfl (fun h33 => ?_) (fun h33 => ?_)
       ·skip
        refine CW.seq ?_
        refine CW.region ?_
        refine RW.v rfl (V.loadAgg rfl rfl rfl rfl rfl (Nat.le_of_ble_eq_true rfl)) ?_
        refine RW.call rfl (spec_l13Copy_fn x hm) rfl (.cons (.agg (.cons (.r .r) (.cons (.r .r) (.cons (.r .r) (.cons (.r .r) (.cons (.r .r) (.cons (.r .r) (.cons (.r .r) (.cons (.r .r) (.cons (.r .r) (.cons (.r .r) (.cons (.r .r) (.cons (.r .r) (.cons (.r .r) (.nil))))))))))))))) (.nil)) fun g34 => ?_
        refine RW.storeAgg (es := [I x.state, I x.iss, I x.una, I x.rcv, S x.wait, I x.sent, I x.fin, Bo x.peerFin, S x.in_, .al 93 (some 9) 2 x.late.length (g34 0 9) 0, Bo x.owe, I x.due, I x.times]) rfl rfl rfl rfl rfl rfl rfl rfl (Nat.le_of_ble_eq_true rfl) rfl ?_
        refine RW.le [(4, .obj b3 [I x.state, I x.iss, I x.una, I x.rcv, S x.wait, I x.sent, I x.fin, Bo x.peerFin, S x.in_, .al 93 (some 9) 2 x.late.length (g34 0 9) 0, Bo x.owe, I x.due, I x.times]), (93, .agg [I x.state, I x.iss, I x.una, I x.rcv, S x.wait, I x.sent, I x.fin, Bo x.peerFin, S x.in_, .w (sl 2 Late.c x.late) (g34 0 9), Bo x.owe, I x.due, I x.times])] rfl (Le.of rfl) ?_
        refine RW.pullA (k := 4) (l := 93) (j := 9) 4 93 9 rfl rfl rfl (by decide) rfl rfl rfl rfl ?_
        refine RW.le [(4, .obj b3 [I x.state, I x.iss, I x.una, I x.rcv, S x.wait, I x.sent, I x.fin, Bo x.peerFin, S x.in_, .w (sl 2 Late.c x.late) (g34 0 9), Bo x.owe, I x.due, I x.times])] rfl (Le.of rfl) ?_
        refine RW.nil ?_
        refine CW.le [(4, .obj b3 [I x.state, I x.iss, I x.una, I x.rcv, S x.wait, I x.sent, I x.fin, Bo x.peerFin, S x.in_, .w (sl 2 Late.c x.late) (g34 0 9), Bo x.owe, I x.due, I x.times])] rfl (Le.of rfl) ?_
        refine CW.ret ?_
        exact Post.one (RV.c (f := fun e => (Stream.c e).map .w) (e' := x) rfl rfl rfl rfl (DT.v (DT.v (DT.v (DT.v (DT.v (DT.v (DT.v (DT.v (DT.v (DT.w (DT.v (DT.v (DT.v DT.e))))))))))))) (by clear hv10; simp only [hear, hxo, hso, hearN_heard]; first | (simp_all; done) | (simp_all; omega) | grind)) (AOs.a rfl (AOs.a rfl AOs.e))
       ·skip
        refine CW.skip ?_
        refine CW.le [(4, .obj b3 [I 0, I 0, I 0, I 0, S (⟨#[]⟩), I 0, I 0, Bo false, S (⟨#[]⟩), .r (.v (.slice none 0 0)), Bo false, I 0, I 0]), (5, .obj b5 [I x.state, I x.iss, I x.una, I x.rcv, S x.wait, I x.sent, I x.fin, Bo x.peerFin, S x.in_, .w (sl 2 Late.c x.late) (g4 0 9), Bo x.owe, I x.due, I x.times])] rfl (Le.of rfl) ?_
        refine CW.seq ?_
        refine CW.region ?_
        refine RW.v rfl (V.loadAgg rfl rfl rfl rfl rfl (Nat.le_of_ble_eq_true rfl)) ?_
        refine RW.storeAgg (es := [I x.state, I x.iss, I x.una, I x.rcv, S x.wait, I x.sent, I x.fin, Bo x.peerFin, S x.in_, .al 5 (some 9) 2 x.late.length (g4 0 9) 0, Bo x.owe, I x.due, I x.times]) rfl rfl rfl rfl rfl rfl rfl rfl (Nat.le_of_ble_eq_true rfl) rfl ?_
        refine RW.le [(4, .obj b3 [I x.state, I x.iss, I x.una, I x.rcv, S x.wait, I x.sent, I x.fin, Bo x.peerFin, S x.in_, .al 5 (some 9) 2 x.late.length (g4 0 9) 0, Bo x.owe, I x.due, I x.times]), (5, .obj b5 [I x.state, I x.iss, I x.una, I x.rcv, S x.wait, I x.sent, I x.fin, Bo x.peerFin, S x.in_, .w (sl 2 Late.c x.late) (g4 0 9), Bo x.owe, I x.due, I x.times])] rfl (Le.of rfl) ?_
        refine RW.pullO (k := 4) (l := 5) (j := 9) 4 5 9 rfl rfl rfl (by decide) rfl rfl rfl rfl ?_
        refine RW.le [(4, .obj b3 [I x.state, I x.iss, I x.una, I x.rcv, S x.wait, I x.sent, I x.fin, Bo x.peerFin, S x.in_, .w (sl 2 Late.c x.late) (g4 0 9), Bo x.owe, I x.due, I x.times])] rfl (Le.of rfl) ?_
        refine RW.nil ?_
        refine CW.le [(4, .obj b3 [I x.state, I x.iss, I x.una, I x.rcv, S x.wait, I x.sent, I x.fin, Bo x.peerFin, S x.in_, .w (sl 2 Late.c x.late) (g4 0 9), Bo x.owe, I x.due, I x.times])] rfl (Le.of rfl) ?_
        refine CW.ret ?_
        exact Post.one (RV.c (f := fun e => (Stream.c e).map .w) (e' := x) rfl rfl rfl rfl (DT.v (DT.v (DT.v (DT.v (DT.v (DT.v (DT.v (DT.v (DT.v (DT.w (DT.v (DT.v (DT.v DT.e))))))))))))) (by clear hv10; simp only [hear, hxo, hso, hearN_heard]; first | (simp_all; done) | (simp_all; omega) | grind)) (AOs.a rfl (AOs.a rfl AOs.e))
    ·skip
     refine CW.seq ?_
     refine CW.region ?_
     refine RW.v rfl (V.cmpInt rfl rfl rfl rfl) ?_
     refine RW.v rfl (V.as (d := Bo (x.state == 3)) rfl rfl) ?_
     refine RW.nil ?_
     refine CW.le [(2, .obj b1 ((Stream.c x).map .r)), (3, .obj b2 ((Seg.c s).map .r)), (4, .obj b3 [I 0, I 0, I 0, I 0, S (⟨#[]⟩), I 0, I 0, Bo false, S (⟨#[]⟩), .r (.v (.slice none 0 0)), Bo false, I 0, I 0]), (5, .obj b5 [I x.state, I x.iss, I x.una, I x.rcv, S x.wait, I x.sent, I x.fin, Bo x.peerFin, S x.in_, .w (sl 2 Late.c x.late) (g4 0 9), Bo x.owe, I x.due, I x.times]), (6, Bo (hasB s.flags 1)), (7, Bo (hasB s.flags 2)), (24, I x.state), (62, Bo (x.state == 3))] rfl (Le.of rfl) ?_
     refine CW.cond rfl (fun h35 => ?_) (fun h35 => ?_)
     ·skip
      refine CW.seq ?_
      refine CW.region ?_
      refine RW.v rfl (V.mv (d := Bo (hasB s.flags 1)) rfl rfl) ?_
      refine RW.nil ?_
      refine CW.le [(2, .obj b1 ((Stream.c x).map .r)), (3, .obj b2 ((Seg.c s).map .r)), (4, .obj b3 [I 0, I 0, I 0, I 0, S (⟨#[]⟩), I 0, I 0, Bo false, S (⟨#[]⟩), .r (.v (.slice none 0 0)), Bo false, I 0, I 0]), (5, .obj b5 [I x.state, I x.iss, I x.una, I x.rcv, S x.wait, I x.sent, I x.fin, Bo x.peerFin, S x.in_, .w (sl 2 Late.c x.late) (g4 0 9), Bo x.owe, I x.due, I x.times]), (7, Bo (hasB s.flags 2)), (64, Bo (hasB s.flags 1))] rfl (Le.of rfl) ?_
      refine CW.cond rfl (fun h36 => ?_) (fun h36 => ?_)
      ·skip
       refine CW.seq ?_
       refine CW.region ?_
       refine RW.v rfl (V.field rfl rfl rfl rfl (by decide) rfl) ?_
       refine RW.store (d := I 0) rfl rfl rfl rfl rfl rfl rfl (Nat.le_of_ble_eq_true rfl) rfl rfl ?_
       refine RW.nil ?_
       refine CW.le [(2, .obj b1 ((Stream.c x).map .r)), (4, .obj b3 [I 0, I 0, I 0, I 0, S (⟨#[]⟩), I 0, I 0, Bo false, S (⟨#[]⟩), .r (.v (.slice none 0 0)), Bo false, I 0, I 0]), (5, .obj b5 [I x.state, I x.iss, I x.una, I x.rcv, S x.wait, I x.sent, I x.fin, Bo x.peerFin, S x.in_, .w (sl 2 Late.c x.late) (g4 0 9), Bo x.owe, I 0, I x.times])] rfl (Le.of rfl) ?_
       refine CW.region ?_
       refine RW.v rfl (V.field rfl rfl rfl rfl (by decide) rfl) ?_
       refine RW.store (d := I 0) rfl rfl rfl rfl rfl rfl rfl (Nat.le_of_ble_eq_true rfl) rfl rfl ?_
       refine RW.nil ?_
       refine CW.le [(2, .obj b1 ((Stream.c x).map .r)), (4, .obj b3 [I 0, I 0, I 0, I 0, S (⟨#[]⟩), I 0, I 0, Bo false, S (⟨#[]⟩), .r (.v (.slice none 0 0)), Bo false, I 0, I 0]), (5, .obj b5 [I x.state, I x.iss, I x.una, I x.rcv, S x.wait, I x.sent, I x.fin, Bo x.peerFin, S x.in_, .w (sl 2 Late.c x.late) (g4 0 9), Bo x.owe, I 0, I 0])] rfl (Le.of rfl) ?_
       refine CW.seq ?_
       refine CW.seq ?_
       refine CW.region ?_
       refine RW.v rfl (V.field rfl rfl rfl rfl (by decide) rfl) ?_
       refine RW.v rfl (V.loadPrim (d := S x.in_) rfl rfl (.inl rfl) rfl rfl rfl) ?_
       refine RW.v rfl (V.lenStr rfl (by kernel_rfl) rfl) ?_
       refine RW.v rfl (V.cmpInt rfl rfl rfl rfl) ?_
       refine RW.nil ?_
       refine CW.le [(2, .obj b1 ((Stream.c x).map .r)), (4, .obj b3 [I 0, I 0, I 0, I 0, S (⟨#[]⟩), I 0, I 0, Bo false, S (⟨#[]⟩), .r (.v (.slice none 0 0)), Bo false, I 0, I 0]), (5, .obj b5 [I x.state, I x.iss, I x.una, I x.rcv, S x.wait, I x.sent, I x.fin, Bo x.peerFin, S x.in_, .w (sl 2 Late.c x.late) (g4 0 9), Bo x.owe, I 0, I 0]), (91, Bo (decide ((x.in_.size : Int) > 1000)))] rfl (Le.of rfl) ?_
       refine CW.cond rfl (fun h37 => ?_) (fun h37 => ?_)
       ·skip
        refine CW.seq ?_
        refine CW.region ?_
        refine RW.v rfl (V.loadAgg rfl rfl rfl rfl rfl (Nat.le_of_ble_eq_true rfl)) ?_
        refine RW.call rfl (spec_l13Copy_fn x hm) rfl (.cons (.agg (.cons (.r .r) (.cons (.r .r) (.cons (.r .r) (.cons (.r .r) (.cons (.r .r) (.cons (.r .r) (.cons (.r .r) (.cons (.r .r) (.cons (.r .r) (.cons (.r .r) (.cons (.r .r) (.cons (.r .r) (.cons (.r .r) (.nil))))))))))))))) (.nil)) fun g38 => ?_
        refine RW.storeAgg (es := [I x.state, I x.iss, I x.una, I x.rcv, S x.wait, I x.sent, I x.fin, Bo x.peerFin, S x.in_, .al 93 (some 9) 2 x.late.length (g38 0 9) 0, Bo x.owe, I x.due, I x.times]) rfl rfl rfl rfl rfl rfl rfl rfl (Nat.le_of_ble_eq_true rfl) rfl ?_
        refine RW.le [(4, .obj b3 [I x.state, I x.iss, I x.una, I x.rcv, S x.wait, I x.sent, I x.fin, Bo x.peerFin, S x.in_, .al 93 (some 9) 2 x.late.length (g38 0 9) 0, Bo x.owe, I x.due, I x.times]), (93, .agg [I x.state, I x.iss, I x.una, I x.rcv, S x.wait, I x.sent, I x.fin, Bo x.peerFin, S x.in_, .w (sl 2 Late.c x.late) (g38 0 9), Bo x.owe, I x.due, I x.times])] rfl (Le.of rfl) ?_
        refine RW.pullA (k := 4) (l := 93) (j := 9) 4 93 9 rfl rfl rfl (by decide) rfl rfl rfl rfl ?_
        refine RW.le [(4, .obj b3 [I x.state, I x.iss, I x.una, I x.rcv, S x.wait, I x.sent, I x.fin, Bo x.peerFin, S x.in_, .w (sl 2 Late.c x.late) (g38 0 9), Bo x.owe, I x.due, I x.times])] rfl (Le.of rfl) ?_
        refine RW.nil ?_
        refine CW.le [(4, .obj b3 [I x.state, I x.iss, I x.una, I x.rcv, S x.wait, I x.sent, I x.fin, Bo x.peerFin, S x.in_, .w (sl 2 Late.c x.late) (g38 0 9), Bo x.owe, I x.due, I x.times])] rfl (Le.of rfl) ?_
        refine CW.ret ?_
        exact Post.one (RV.c (f := fun e => (Stream.c e).map .w) (e' := x) rfl rfl rfl rfl (DT.v (DT.v (DT.v (DT.v (DT.v (DT.v (DT.v (DT.v (DT.v (DT.w (DT.v (DT.v (DT.v DT.e))))))))))))) (by clear hv10; simp only [hear, hxo, hso, hearN_heard]; first | (simp_all; done) | (simp_all; omega) | grind)) (AOs.a rfl (AOs.a rfl AOs.e))
       ·skip
        refine CW.skip ?_
        refine CW.le [(4, .obj b3 [I 0, I 0, I 0, I 0, S (⟨#[]⟩), I 0, I 0, Bo false, S (⟨#[]⟩), .r (.v (.slice none 0 0)), Bo false, I 0, I 0]), (5, .obj b5 [I x.state, I x.iss, I x.una, I x.rcv, S x.wait, I x.sent, I x.fin, Bo x.peerFin, S x.in_, .w (sl 2 Late.c x.late) (g4 0 9), Bo x.owe, I 0, I 0])] rfl (Le.of rfl) ?_
        refine CW.seq ?_
        refine CW.region ?_
        refine RW.v rfl (V.loadAgg rfl rfl rfl rfl rfl (Nat.le_of_ble_eq_true rfl)) ?_
        refine RW.storeAgg (es := [I x.state, I x.iss, I x.una, I x.rcv, S x.wait, I x.sent, I x.fin, Bo x.peerFin, S x.in_, .al 5 (some 9) 2 x.late.length (g4 0 9) 0, Bo x.owe, I 0, I 0]) rfl rfl rfl rfl rfl rfl rfl rfl (Nat.le_of_ble_eq_true rfl) rfl ?_
        refine RW.le [(4, .obj b3 [I x.state, I x.iss, I x.una, I x.rcv, S x.wait, I x.sent, I x.fin, Bo x.peerFin, S x.in_, .al 5 (some 9) 2 x.late.length (g4 0 9) 0, Bo x.owe, I 0, I 0]), (5, .obj b5 [I x.state, I x.iss, I x.una, I x.rcv, S x.wait, I x.sent, I x.fin, Bo x.peerFin, S x.in_, .w (sl 2 Late.c x.late) (g4 0 9), Bo x.owe, I 0, I 0])] rfl (Le.of rfl) ?_
        refine RW.pullO (k := 4) (l := 5) (j := 9) 4 5 9 rfl rfl rfl (by decide) rfl rfl rfl rfl ?_
        refine RW.le [(4, .obj b3 [I x.state, I x.iss, I x.una, I x.rcv, S x.wait, I x.sent, I x.fin, Bo x.peerFin, S x.in_, .w (sl 2 Late.c x.late) (g4 0 9), Bo x.owe, I 0, I 0])] rfl (Le.of rfl) ?_
        refine RW.nil ?_
        refine CW.le [(4, .obj b3 [I x.state, I x.iss, I x.una, I x.rcv, S x.wait, I x.sent, I x.fin, Bo x.peerFin, S x.in_, .w (sl 2 Late.c x.late) (g4 0 9), Bo x.owe, I 0, I 0])] rfl (Le.of rfl) ?_
        refine CW.ret ?_
        exact Post.one (RV.c (f := fun e => (Stream.c e).map .w) (e' := (⟨x.state, x.iss, x.una, x.rcv, x.wait, x.sent, x.fin, x.peerFin, x.in_, x.late, x.owe, 0, 0⟩ : Stream)) rfl rfl rfl rfl (DT.v (DT.v (DT.v (DT.v (DT.v (DT.v (DT.v (DT.v (DT.v (DT.w (DT.v (DT.v (DT.v DT.e))))))))))))) (by clear hv10; simp only [hear, hxo, hso, hearN_heard]; first | (simp_all; done) | (simp_all; omega) | grind)) (AOs.a rfl (AOs.a rfl AOs.e))
      ·skip
       refine CW.seqJ 95 (fun (v39 : Bool) => [(2, .obj b1 ((Stream.c x).map .r)), (3, .obj b2 ((Seg.c s).map .r)), (4, .obj b3 [I 0, I 0, I 0, I 0, S (⟨#[]⟩), I 0, I 0, Bo false, S (⟨#[]⟩), .r (.v (.slice none 0 0)), Bo false, I 0, I 0]), (5, .obj b5 [I x.state, I x.iss, I x.una, I x.rcv, S x.wait, I x.sent, I x.fin, Bo x.peerFin, S x.in_, .w (sl 2 Late.c x.late) (g4 0 9), Bo x.owe, I x.due, I x.times]), (75, Bo v39)]) (fun v39 => v39 = ((hasB s.flags 2) && (s.ack == (addNum x.iss 1)))) ?_ ?_
       ·refine CW.drawn (by kernel_rfl) ?_
        refine RQ.v rfl (V.mv (d := Bo (hasB s.flags 2)) rfl rfl) ?_
        refine RQ.v rfl (V.mv (d := Bo (hasB s.flags 2)) rfl rfl) ?_
        refine RQ.gv rfl rfl rfl rfl (fun h40 => V.field rfl rfl rfl rfl (by decide) rfl) (fun h40 => ?_) (fun h40 => ?_)
        ·skip
         refine RQ.gt rfl rfl rfl rfl (V.loadPrim (d := I s.ack) rfl rfl (.inl rfl) rfl rfl rfl) ?_
         refine RQ.gt rfl rfl rfl rfl (V.field rfl rfl rfl rfl (by decide) rfl) ?_
         refine RQ.gt rfl rfl rfl rfl (V.loadPrim (d := I x.iss) rfl rfl (.inl rfl) rfl rfl rfl) ?_
         refine RQ.guardT rfl rfl rfl rfl (QOK.call (spec_AddNum_fn x.iss 1) rfl (.cons (.one (.r .r)) (.cons (.one (.r .r)) (.nil))) ?_)
         refine RQ.gt rfl rfl rfl rfl (V.cmpInt rfl rfl rfl rfl) ?_
         refine RQ.v rfl (V.pickT (d := Bo (s.ack == (addNum x.iss 1))) rfl rfl rfl) ?_
         refine RQ.nil ?_
         exact ⟨_, by first | rfl | (simp_all; done) | (simp_all; omega) | grind, rfl, Le.c rfl <| Le.c rfl <| Le.c rfl <| Le.c rfl <| Le.c rfl <| Le.e⟩
        ·skip
         refine RQ.guardF rfl rfl rfl rfl ?_
         refine RQ.guardF rfl rfl rfl rfl ?_
         refine RQ.guardF rfl rfl rfl rfl ?_
         refine RQ.guardF rfl rfl rfl rfl ?_
         refine RQ.guardF rfl rfl rfl rfl ?_
         refine RQ.v rfl (V.pickF (d := Bo false) rfl rfl rfl) ?_
         refine RQ.nil ?_
         exact ⟨_, by first | rfl | (simp_all; done) | (simp_all; omega) | grind, rfl, Le.c rfl <| Le.c rfl <| Le.c rfl <| Le.c rfl <| Le.c rfl <| Le.e⟩
       ·intro v39 hv41
        refine CW.cond rfl (fun h42 => ?_) (fun h42 => ?_)
        ·skip
         refine CW.seq ?_
         refine CW.region ?_
         refine RW.v rfl (V.field rfl rfl rfl rfl (by decide) rfl) ?_
         refine RW.v rfl (V.loadPrim (d := I s.ack) rfl rfl (.inl rfl) rfl rfl rfl) ?_
         refine RW.v rfl (V.field rfl rfl rfl rfl (by decide) rfl) ?_
         refine RW.store (d := I s.ack) rfl rfl rfl rfl rfl rfl rfl (Nat.le_of_ble_eq_true rfl) rfl rfl ?_
         refine RW.nil ?_
         refine CW.le [(2, .obj b1 ((Stream.c x).map .r)), (3, .obj b2 ((Seg.c s).map .r)), (4, .obj b3 [I 0, I 0, I 0, I 0, S (⟨#[]⟩), I 0, I 0, Bo false, S (⟨#[]⟩), .r (.v (.slice none 0 0)), Bo false, I 0, I 0]), (5, .obj b5 [I x.state, I x.iss, I s.ack, I x.rcv, S x.wait, I x.sent, I x.fin, Bo x.peerFin, S x.in_, .w (sl 2 Late.c x.late) (g4 0 9), Bo x.owe, I x.due, I x.times])] rfl (Le.of rfl) ?_
         refine CW.seq ?_
         refine CW.region ?_
         refine RW.v rfl (V.field rfl rfl rfl rfl (by decide) rfl) ?_
         refine RW.store (d := I 4) rfl rfl rfl rfl rfl rfl rfl (Nat.le_of_ble_eq_true rfl) rfl rfl ?_
         refine RW.nil ?_
         refine CW.le [(2, .obj b1 ((Stream.c x).map .r)), (3, .obj b2 ((Seg.c s).map .r)), (4, .obj b3 [I 0, I 0, I 0, I 0, S (⟨#[]⟩), I 0, I 0, Bo false, S (⟨#[]⟩), .r (.v (.slice none 0 0)), Bo false, I 0, I 0]), (5, .obj b5 [I 4, I x.iss, I s.ack, I x.rcv, S x.wait, I x.sent, I x.fin, Bo x.peerFin, S x.in_, .w (sl 2 Late.c x.late) (g4 0 9), Bo x.owe, I x.due, I x.times])] rfl (Le.of rfl) ?_
         refine CW.seq ?_
         refine CW.region ?_
         refine RW.v rfl (V.field rfl rfl rfl rfl (by decide) rfl) ?_
         refine RW.store (d := I 0) rfl rfl rfl rfl rfl rfl rfl (Nat.le_of_ble_eq_true rfl) rfl rfl ?_
         refine RW.nil ?_
         refine CW.le [(2, .obj b1 ((Stream.c x).map .r)), (3, .obj b2 ((Seg.c s).map .r)), (4, .obj b3 [I 0, I 0, I 0, I 0, S (⟨#[]⟩), I 0, I 0, Bo false, S (⟨#[]⟩), .r (.v (.slice none 0 0)), Bo false, I 0, I 0]), (5, .obj b5 [I 4, I x.iss, I s.ack, I x.rcv, S x.wait, I x.sent, I x.fin, Bo x.peerFin, S x.in_, .w (sl 2 Late.c x.late) (g4 0 9), Bo x.owe, I x.due, I 0])] rfl (Le.of rfl) ?_
         refine CW.seq ?_
         refine CW.region ?_
         refine RW.v rfl (V.field rfl rfl rfl rfl (by decide) rfl) ?_
         refine RW.store (d := I 0) rfl rfl rfl rfl rfl rfl rfl (Nat.le_of_ble_eq_true rfl) rfl rfl ?_
         refine RW.nil ?_
         refine CW.le [(2, .obj b1 ((Stream.c x).map .r)), (3, .obj b2 ((Seg.c s).map .r)), (4, .obj b3 [I 0, I 0, I 0, I 0, S (⟨#[]⟩), I 0, I 0, Bo false, S (⟨#[]⟩), .r (.v (.slice none 0 0)), Bo false, I 0, I 0]), (5, .obj b5 [I 4, I x.iss, I s.ack, I x.rcv, S x.wait, I x.sent, I x.fin, Bo x.peerFin, S x.in_, .w (sl 2 Late.c x.late) (g4 0 9), Bo x.owe, I 0, I 0])] rfl (Le.of rfl) ?_
         refine CW.region ?_
         refine RW.v rfl (V.loadAgg rfl rfl rfl rfl rfl (Nat.le_of_ble_eq_true rfl)) ?_
         refine RW.callW (k := 5) (spec_l13Heard_fn (⟨4, x.iss, s.ack, x.rcv, x.wait, x.sent, x.fin, x.peerFin, x.in_, x.late, x.owe, 0, 0⟩ : Stream) s (streamOk_sent (x := x) hxo) (streamOk_part (x := x) hxo) hso) rfl rfl (Nat.le_of_ble_eq_true rfl) (by decide) (.here (AsW.ob (DT.v (DT.v (DT.v (DT.v (DT.v (DT.v (DT.v (DT.v (DT.v (DT.w (DT.v (DT.v (DT.v DT.e))))))))))))) rfl) (.cons (.agg (.cons (.r .r) (.cons (.r .r) (.cons (.r .r) (.cons (.r .r) (.nil)))))) (.nil))) rfl fun g43 q44 => ?_
         refine RW.nil ?_
         refine CW.le [(2, .obj b1 ((Stream.c x).map .r)), (4, .obj b3 [I 0, I 0, I 0, I 0, S (⟨#[]⟩), I 0, I 0, Bo false, S (⟨#[]⟩), .r (.v (.slice none 0 0)), Bo false, I 0, I 0]), (5, .obj b5 [I ((heardN (⟨4, x.iss, s.ack, x.rcv, x.wait, x.sent, x.fin, x.peerFin, x.in_, x.late, x.owe, 0, 0⟩ : Stream) s).state), I ((heardN (⟨4, x.iss, s.ack, x.rcv, x.wait, x.sent, x.fin, x.peerFin, x.in_, x.late, x.owe, 0, 0⟩ : Stream) s).iss), I ((heardN (⟨4, x.iss, s.ack, x.rcv, x.wait, x.sent, x.fin, x.peerFin, x.in_, x.late, x.owe, 0, 0⟩ : Stream) s).una), I ((heardN (⟨4, x.iss, s.ack, x.rcv, x.wait, x.sent, x.fin, x.peerFin, x.in_, x.late, x.owe, 0, 0⟩ : Stream) s).rcv), S ((heardN (⟨4, x.iss, s.ack, x.rcv, x.wait, x.sent, x.fin, x.peerFin, x.in_, x.late, x.owe, 0, 0⟩ : Stream) s).wait), I ((heardN (⟨4, x.iss, s.ack, x.rcv, x.wait, x.sent, x.fin, x.peerFin, x.in_, x.late, x.owe, 0, 0⟩ : Stream) s).sent), I ((heardN (⟨4, x.iss, s.ack, x.rcv, x.wait, x.sent, x.fin, x.peerFin, x.in_, x.late, x.owe, 0, 0⟩ : Stream) s).fin), Bo ((heardN (⟨4, x.iss, s.ack, x.rcv, x.wait, x.sent, x.fin, x.peerFin, x.in_, x.late, x.owe, 0, 0⟩ : Stream) s).peerFin), S ((heardN (⟨4, x.iss, s.ack, x.rcv, x.wait, x.sent, x.fin, x.peerFin, x.in_, x.late, x.owe, 0, 0⟩ : Stream) s).in_), .w (sl 2 Late.c ((heardN (⟨4, x.iss, s.ack, x.rcv, x.wait, x.sent, x.fin, x.peerFin, x.in_, x.late, x.owe, 0, 0⟩ : Stream) s).late)) (q44 9), Bo ((heardN (⟨4, x.iss, s.ack, x.rcv, x.wait, x.sent, x.fin, x.peerFin, x.in_, x.late, x.owe, 0, 0⟩ : Stream) s).owe), I ((heardN (⟨4, x.iss, s.ack, x.rcv, x.wait, x.sent, x.fin, x.peerFin, x.in_, x.late, x.owe, 0, 0⟩ : Stream) s).due), I ((heardN (⟨4, x.iss, s.ack, x.rcv, x.wait, x.sent, x.fin, x.peerFin, x.in_, x.late, x.owe, 0, 0⟩ : Stream) s).times)])] rfl (Le.of rfl) ?_
         refine CW.seq ?_
         refine CW.seq ?_
         refine CW.region ?_
         refine RW.v rfl (V.field rfl rfl rfl rfl (by decide) rfl) ?_
         refine RW.v rfl (V.loadPrim (d := S ((heardN (⟨4, x.iss, s.ack, x.rcv, x.wait, x.sent, x.fin, x.peerFin, x.in_, x.late, x.owe, 0, 0⟩ : Stream) s).in_)) rfl rfl (.inl rfl) rfl rfl rfl) ?_
         refine RW.v rfl (V.lenStr rfl (by kernel_rfl) rfl) ?_
         refine RW.v rfl (V.cmpInt rfl rfl rfl rfl) ?_
         refine RW.nil ?_
         refine CW.le [(2, .obj b1 ((Stream.c x).map .r)), (4, .obj b3 [I 0, I 0, I 0, I 0, S (⟨#[]⟩), I 0, I 0, Bo false, S (⟨#[]⟩), .r (.v (.slice none 0 0)), Bo false, I 0, I 0]), (5, .obj b5 [I ((heardN (⟨4, x.iss, s.ack, x.rcv, x.wait, x.sent, x.fin, x.peerFin, x.in_, x.late, x.owe, 0, 0⟩ : Stream) s).state), I ((heardN (⟨4, x.iss, s.ack, x.rcv, x.wait, x.sent, x.fin, x.peerFin, x.in_, x.late, x.owe, 0, 0⟩ : Stream) s).iss), I ((heardN (⟨4, x.iss, s.ack, x.rcv, x.wait, x.sent, x.fin, x.peerFin, x.in_, x.late, x.owe, 0, 0⟩ : Stream) s).una), I ((heardN (⟨4, x.iss, s.ack, x.rcv, x.wait, x.sent, x.fin, x.peerFin, x.in_, x.late, x.owe, 0, 0⟩ : Stream) s).rcv), S ((heardN (⟨4, x.iss, s.ack, x.rcv, x.wait, x.sent, x.fin, x.peerFin, x.in_, x.late, x.owe, 0, 0⟩ : Stream) s).wait), I ((heardN (⟨4, x.iss, s.ack, x.rcv, x.wait, x.sent, x.fin, x.peerFin, x.in_, x.late, x.owe, 0, 0⟩ : Stream) s).sent), I ((heardN (⟨4, x.iss, s.ack, x.rcv, x.wait, x.sent, x.fin, x.peerFin, x.in_, x.late, x.owe, 0, 0⟩ : Stream) s).fin), Bo ((heardN (⟨4, x.iss, s.ack, x.rcv, x.wait, x.sent, x.fin, x.peerFin, x.in_, x.late, x.owe, 0, 0⟩ : Stream) s).peerFin), S ((heardN (⟨4, x.iss, s.ack, x.rcv, x.wait, x.sent, x.fin, x.peerFin, x.in_, x.late, x.owe, 0, 0⟩ : Stream) s).in_), .w (sl 2 Late.c ((heardN (⟨4, x.iss, s.ack, x.rcv, x.wait, x.sent, x.fin, x.peerFin, x.in_, x.late, x.owe, 0, 0⟩ : Stream) s).late)) (q44 9), Bo ((heardN (⟨4, x.iss, s.ack, x.rcv, x.wait, x.sent, x.fin, x.peerFin, x.in_, x.late, x.owe, 0, 0⟩ : Stream) s).owe), I ((heardN (⟨4, x.iss, s.ack, x.rcv, x.wait, x.sent, x.fin, x.peerFin, x.in_, x.late, x.owe, 0, 0⟩ : Stream) s).due), I ((heardN (⟨4, x.iss, s.ack, x.rcv, x.wait, x.sent, x.fin, x.peerFin, x.in_, x.late, x.owe, 0, 0⟩ : Stream) s).times)]), (91, Bo (decide ((((heardN (⟨4, x.iss, s.ack, x.rcv, x.wait, x.sent, x.fin, x.peerFin, x.in_, x.late, x.owe, 0, 0⟩ : Stream) s).in_).size : Int) > 1000)))] rfl (Le.of rfl) ?_
         refine CW.cond rfl (fun h45 => ?_) (fun h45 => ?_)
         ·skip
          refine CW.seq ?_
          refine CW.region ?_
          refine RW.v rfl (V.loadAgg rfl rfl rfl rfl rfl (Nat.le_of_ble_eq_true rfl)) ?_
          refine RW.call rfl (spec_l13Copy_fn x hm) rfl (.cons (.agg (.cons (.r .r) (.cons (.r .r) (.cons (.r .r) (.cons (.r .r) (.cons (.r .r) (.cons (.r .r) (.cons (.r .r) (.cons (.r .r) (.cons (.r .r) (.cons (.r .r) (.cons (.r .r) (.cons (.r .r) (.cons (.r .r) (.nil))))))))))))))) (.nil)) fun g46 => ?_
          refine RW.storeAgg (es := [I x.state, I x.iss, I x.una, I x.rcv, S x.wait, I x.sent, I x.fin, Bo x.peerFin, S x.in_, .al 93 (some 9) 2 x.late.length (g46 0 9) 0, Bo x.owe, I x.due, I x.times]) rfl rfl rfl rfl rfl rfl rfl rfl (Nat.le_of_ble_eq_true rfl) rfl ?_
          refine RW.le [(4, .obj b3 [I x.state, I x.iss, I x.una, I x.rcv, S x.wait, I x.sent, I x.fin, Bo x.peerFin, S x.in_, .al 93 (some 9) 2 x.late.length (g46 0 9) 0, Bo x.owe, I x.due, I x.times]), (93, .agg [I x.state, I x.iss, I x.una, I x.rcv, S x.wait, I x.sent, I x.fin, Bo x.peerFin, S x.in_, .w (sl 2 Late.c x.late) (g46 0 9), Bo x.owe, I x.due, I x.times])] rfl (Le.of rfl) ?_
          refine RW.pullA (k := 4) (l := 93) (j := 9) 4 93 9 rfl rfl rfl (by decide) rfl rfl rfl rfl ?_
          refine RW.le [(4, .obj b3 [I x.state, I x.iss, I x.una, I x.rcv, S x.wait, I x.sent, I x.fin, Bo x.peerFin, S x.in_, .w (sl 2 Late.c x.late) (g46 0 9), Bo x.owe, I x.due, I x.times])] rfl (Le.of rfl) ?_
          refine RW.nil ?_
          refine CW.le [(4, .obj b3 [I x.state, I x.iss, I x.una, I x.rcv, S x.wait, I x.sent, I x.fin, Bo x.peerFin, S x.in_, .w (sl 2 Late.c x.late) (g46 0 9), Bo x.owe, I x.due, I x.times])] rfl (Le.of rfl) ?_
          refine CW.ret ?_
          exact Post.one (RV.c (f := fun e => (Stream.c e).map .w) (e' := x) rfl rfl rfl rfl (DT.v (DT.v (DT.v (DT.v (DT.v (DT.v (DT.v (DT.v (DT.v (DT.w (DT.v (DT.v (DT.v DT.e))))))))))))) (by clear hv10; simp only [hear, hxo, hso, hearN_heard]; first | (simp_all; done) | (simp_all; omega) | grind)) (AOs.a rfl (AOs.a rfl AOs.e))
         ·skip
          refine CW.skip ?_
          refine CW.le [(4, .obj b3 [I 0, I 0, I 0, I 0, S (⟨#[]⟩), I 0, I 0, Bo false, S (⟨#[]⟩), .r (.v (.slice none 0 0)), Bo false, I 0, I 0]), (5, .obj b5 [I ((heardN (⟨4, x.iss, s.ack, x.rcv, x.wait, x.sent, x.fin, x.peerFin, x.in_, x.late, x.owe, 0, 0⟩ : Stream) s).state), I ((heardN (⟨4, x.iss, s.ack, x.rcv, x.wait, x.sent, x.fin, x.peerFin, x.in_, x.late, x.owe, 0, 0⟩ : Stream) s).iss), I ((heardN (⟨4, x.iss, s.ack, x.rcv, x.wait, x.sent, x.fin, x.peerFin, x.in_, x.late, x.owe, 0, 0⟩ : Stream) s).una), I ((heardN (⟨4, x.iss, s.ack, x.rcv, x.wait, x.sent, x.fin, x.peerFin, x.in_, x.late, x.owe, 0, 0⟩ : Stream) s).rcv), S ((heardN (⟨4, x.iss, s.ack, x.rcv, x.wait, x.sent, x.fin, x.peerFin, x.in_, x.late, x.owe, 0, 0⟩ : Stream) s).wait), I ((heardN (⟨4, x.iss, s.ack, x.rcv, x.wait, x.sent, x.fin, x.peerFin, x.in_, x.late, x.owe, 0, 0⟩ : Stream) s).sent), I ((heardN (⟨4, x.iss, s.ack, x.rcv, x.wait, x.sent, x.fin, x.peerFin, x.in_, x.late, x.owe, 0, 0⟩ : Stream) s).fin), Bo ((heardN (⟨4, x.iss, s.ack, x.rcv, x.wait, x.sent, x.fin, x.peerFin, x.in_, x.late, x.owe, 0, 0⟩ : Stream) s).peerFin), S ((heardN (⟨4, x.iss, s.ack, x.rcv, x.wait, x.sent, x.fin, x.peerFin, x.in_, x.late, x.owe, 0, 0⟩ : Stream) s).in_), .w (sl 2 Late.c ((heardN (⟨4, x.iss, s.ack, x.rcv, x.wait, x.sent, x.fin, x.peerFin, x.in_, x.late, x.owe, 0, 0⟩ : Stream) s).late)) (q44 9), Bo ((heardN (⟨4, x.iss, s.ack, x.rcv, x.wait, x.sent, x.fin, x.peerFin, x.in_, x.late, x.owe, 0, 0⟩ : Stream) s).owe), I ((heardN (⟨4, x.iss, s.ack, x.rcv, x.wait, x.sent, x.fin, x.peerFin, x.in_, x.late, x.owe, 0, 0⟩ : Stream) s).due), I ((heardN (⟨4, x.iss, s.ack, x.rcv, x.wait, x.sent, x.fin, x.peerFin, x.in_, x.late, x.owe, 0, 0⟩ : Stream) s).times)])] rfl (Le.of rfl) ?_
          refine CW.seq ?_
          refine CW.region ?_
          refine RW.v rfl (V.loadAgg rfl rfl rfl rfl rfl (Nat.le_of_ble_eq_true rfl)) ?_
          refine RW.storeAgg (es := [I ((heardN (⟨4, x.iss, s.ack, x.rcv, x.wait, x.sent, x.fin, x.peerFin, x.in_, x.late, x.owe, 0, 0⟩ : Stream) s).state), I ((heardN (⟨4, x.iss, s.ack, x.rcv, x.wait, x.sent, x.fin, x.peerFin, x.in_, x.late, x.owe, 0, 0⟩ : Stream) s).iss), I ((heardN (⟨4, x.iss, s.ack, x.rcv, x.wait, x.sent, x.fin, x.peerFin, x.in_, x.late, x.owe, 0, 0⟩ : Stream) s).una), I ((heardN (⟨4, x.iss, s.ack, x.rcv, x.wait, x.sent, x.fin, x.peerFin, x.in_, x.late, x.owe, 0, 0⟩ : Stream) s).rcv), S ((heardN (⟨4, x.iss, s.ack, x.rcv, x.wait, x.sent, x.fin, x.peerFin, x.in_, x.late, x.owe, 0, 0⟩ : Stream) s).wait), I ((heardN (⟨4, x.iss, s.ack, x.rcv, x.wait, x.sent, x.fin, x.peerFin, x.in_, x.late, x.owe, 0, 0⟩ : Stream) s).sent), I ((heardN (⟨4, x.iss, s.ack, x.rcv, x.wait, x.sent, x.fin, x.peerFin, x.in_, x.late, x.owe, 0, 0⟩ : Stream) s).fin), Bo ((heardN (⟨4, x.iss, s.ack, x.rcv, x.wait, x.sent, x.fin, x.peerFin, x.in_, x.late, x.owe, 0, 0⟩ : Stream) s).peerFin), S ((heardN (⟨4, x.iss, s.ack, x.rcv, x.wait, x.sent, x.fin, x.peerFin, x.in_, x.late, x.owe, 0, 0⟩ : Stream) s).in_), .al 5 (some 9) 2 (((heardN (⟨4, x.iss, s.ack, x.rcv, x.wait, x.sent, x.fin, x.peerFin, x.in_, x.late, x.owe, 0, 0⟩ : Stream) s).late).length) (q44 9) 0, Bo ((heardN (⟨4, x.iss, s.ack, x.rcv, x.wait, x.sent, x.fin, x.peerFin, x.in_, x.late, x.owe, 0, 0⟩ : Stream) s).owe), I ((heardN (⟨4, x.iss, s.ack, x.rcv, x.wait, x.sent, x.fin, x.peerFin, x.in_, x.late, x.owe, 0, 0⟩ : Stream) s).due), I ((heardN (⟨4, x.iss, s.ack, x.rcv, x.wait, x.sent, x.fin, x.peerFin, x.in_, x.late, x.owe, 0, 0⟩ : Stream) s).times)]) rfl rfl rfl rfl rfl rfl rfl rfl (Nat.le_of_ble_eq_true rfl) rfl ?_
          refine RW.le [(4, .obj b3 [I ((heardN (⟨4, x.iss, s.ack, x.rcv, x.wait, x.sent, x.fin, x.peerFin, x.in_, x.late, x.owe, 0, 0⟩ : Stream) s).state), I ((heardN (⟨4, x.iss, s.ack, x.rcv, x.wait, x.sent, x.fin, x.peerFin, x.in_, x.late, x.owe, 0, 0⟩ : Stream) s).iss), I ((heardN (⟨4, x.iss, s.ack, x.rcv, x.wait, x.sent, x.fin, x.peerFin, x.in_, x.late, x.owe, 0, 0⟩ : Stream) s).una), I ((heardN (⟨4, x.iss, s.ack, x.rcv, x.wait, x.sent, x.fin, x.peerFin, x.in_, x.late, x.owe, 0, 0⟩ : Stream) s).rcv), S ((heardN (⟨4, x.iss, s.ack, x.rcv, x.wait, x.sent, x.fin, x.peerFin, x.in_, x.late, x.owe, 0, 0⟩ : Stream) s).wait), I ((heardN (⟨4, x.iss, s.ack, x.rcv, x.wait, x.sent, x.fin, x.peerFin, x.in_, x.late, x.owe, 0, 0⟩ : Stream) s).sent), I ((heardN (⟨4, x.iss, s.ack, x.rcv, x.wait, x.sent, x.fin, x.peerFin, x.in_, x.late, x.owe, 0, 0⟩ : Stream) s).fin), Bo ((heardN (⟨4, x.iss, s.ack, x.rcv, x.wait, x.sent, x.fin, x.peerFin, x.in_, x.late, x.owe, 0, 0⟩ : Stream) s).peerFin), S ((heardN (⟨4, x.iss, s.ack, x.rcv, x.wait, x.sent, x.fin, x.peerFin, x.in_, x.late, x.owe, 0, 0⟩ : Stream) s).in_), .al 5 (some 9) 2 (((heardN (⟨4, x.iss, s.ack, x.rcv, x.wait, x.sent, x.fin, x.peerFin, x.in_, x.late, x.owe, 0, 0⟩ : Stream) s).late).length) (q44 9) 0, Bo ((heardN (⟨4, x.iss, s.ack, x.rcv, x.wait, x.sent, x.fin, x.peerFin, x.in_, x.late, x.owe, 0, 0⟩ : Stream) s).owe), I ((heardN (⟨4, x.iss, s.ack, x.rcv, x.wait, x.sent, x.fin, x.peerFin, x.in_, x.late, x.owe, 0, 0⟩ : Stream) s).due), I ((heardN (⟨4, x.iss, s.ack, x.rcv, x.wait, x.sent, x.fin, x.peerFin, x.in_, x.late, x.owe, 0, 0⟩ : Stream) s).times)]), (5, .obj b5 [I ((heardN (⟨4, x.iss, s.ack, x.rcv, x.wait, x.sent, x.fin, x.peerFin, x.in_, x.late, x.owe, 0, 0⟩ : Stream) s).state), I ((heardN (⟨4, x.iss, s.ack, x.rcv, x.wait, x.sent, x.fin, x.peerFin, x.in_, x.late, x.owe, 0, 0⟩ : Stream) s).iss), I ((heardN (⟨4, x.iss, s.ack, x.rcv, x.wait, x.sent, x.fin, x.peerFin, x.in_, x.late, x.owe, 0, 0⟩ : Stream) s).una), I ((heardN (⟨4, x.iss, s.ack, x.rcv, x.wait, x.sent, x.fin, x.peerFin, x.in_, x.late, x.owe, 0, 0⟩ : Stream) s).rcv), S ((heardN (⟨4, x.iss, s.ack, x.rcv, x.wait, x.sent, x.fin, x.peerFin, x.in_, x.late, x.owe, 0, 0⟩ : Stream) s).wait), I ((heardN (⟨4, x.iss, s.ack, x.rcv, x.wait, x.sent, x.fin, x.peerFin, x.in_, x.late, x.owe, 0, 0⟩ : Stream) s).sent), I ((heardN (⟨4, x.iss, s.ack, x.rcv, x.wait, x.sent, x.fin, x.peerFin, x.in_, x.late, x.owe, 0, 0⟩ : Stream) s).fin), Bo ((heardN (⟨4, x.iss, s.ack, x.rcv, x.wait, x.sent, x.fin, x.peerFin, x.in_, x.late, x.owe, 0, 0⟩ : Stream) s).peerFin), S ((heardN (⟨4, x.iss, s.ack, x.rcv, x.wait, x.sent, x.fin, x.peerFin, x.in_, x.late, x.owe, 0, 0⟩ : Stream) s).in_), .w (sl 2 Late.c ((heardN (⟨4, x.iss, s.ack, x.rcv, x.wait, x.sent, x.fin, x.peerFin, x.in_, x.late, x.owe, 0, 0⟩ : Stream) s).late)) (q44 9), Bo ((heardN (⟨4, x.iss, s.ack, x.rcv, x.wait, x.sent, x.fin, x.peerFin, x.in_, x.late, x.owe, 0, 0⟩ : Stream) s).owe), I ((heardN (⟨4, x.iss, s.ack, x.rcv, x.wait, x.sent, x.fin, x.peerFin, x.in_, x.late, x.owe, 0, 0⟩ : Stream) s).due), I ((heardN (⟨4, x.iss, s.ack, x.rcv, x.wait, x.sent, x.fin, x.peerFin, x.in_, x.late, x.owe, 0, 0⟩ : Stream) s).times)])] rfl (Le.of rfl) ?_
          refine RW.pullO (k := 4) (l := 5) (j := 9) 4 5 9 rfl rfl rfl (by decide) rfl rfl rfl rfl ?_
          refine RW.le [(4, .obj b3 [I ((heardN (⟨4, x.iss, s.ack, x.rcv, x.wait, x.sent, x.fin, x.peerFin, x.in_, x.late, x.owe, 0, 0⟩ : Stream) s).state), I ((heardN (⟨4, x.iss, s.ack, x.rcv, x.wait, x.sent, x.fin, x.peerFin, x.in_, x.late, x.owe, 0, 0⟩ : Stream) s).iss), I ((heardN (⟨4, x.iss, s.ack, x.rcv, x.wait, x.sent, x.fin, x.peerFin, x.in_, x.late, x.owe, 0, 0⟩ : Stream) s).una), I ((heardN (⟨4, x.iss, s.ack, x.rcv, x.wait, x.sent, x.fin, x.peerFin, x.in_, x.late, x.owe, 0, 0⟩ : Stream) s).rcv), S ((heardN (⟨4, x.iss, s.ack, x.rcv, x.wait, x.sent, x.fin, x.peerFin, x.in_, x.late, x.owe, 0, 0⟩ : Stream) s).wait), I ((heardN (⟨4, x.iss, s.ack, x.rcv, x.wait, x.sent, x.fin, x.peerFin, x.in_, x.late, x.owe, 0, 0⟩ : Stream) s).sent), I ((heardN (⟨4, x.iss, s.ack, x.rcv, x.wait, x.sent, x.fin, x.peerFin, x.in_, x.late, x.owe, 0, 0⟩ : Stream) s).fin), Bo ((heardN (⟨4, x.iss, s.ack, x.rcv, x.wait, x.sent, x.fin, x.peerFin, x.in_, x.late, x.owe, 0, 0⟩ : Stream) s).peerFin), S ((heardN (⟨4, x.iss, s.ack, x.rcv, x.wait, x.sent, x.fin, x.peerFin, x.in_, x.late, x.owe, 0, 0⟩ : Stream) s).in_), .w (sl 2 Late.c ((heardN (⟨4, x.iss, s.ack, x.rcv, x.wait, x.sent, x.fin, x.peerFin, x.in_, x.late, x.owe, 0, 0⟩ : Stream) s).late)) (q44 9), Bo ((heardN (⟨4, x.iss, s.ack, x.rcv, x.wait, x.sent, x.fin, x.peerFin, x.in_, x.late, x.owe, 0, 0⟩ : Stream) s).owe), I ((heardN (⟨4, x.iss, s.ack, x.rcv, x.wait, x.sent, x.fin, x.peerFin, x.in_, x.late, x.owe, 0, 0⟩ : Stream) s).due), I ((heardN (⟨4, x.iss, s.ack, x.rcv, x.wait, x.sent, x.fin, x.peerFin, x.in_, x.late, x.owe, 0, 0⟩ : Stream) s).times)])] rfl (Le.of rfl) ?_
          refine RW.nil ?_
          refine CW.le [(4, .obj b3 [I ((heardN (⟨4, x.iss, s.ack, x.rcv, x.wait, x.sent, x.fin, x.peerFin, x.in_, x.late, x.owe, 0, 0⟩ : Stream) s).state), I ((heardN (⟨4, x.iss, s.ack, x.rcv, x.wait, x.sent, x.fin, x.peerFin, x.in_, x.late, x.owe, 0, 0⟩ : Stream) s).iss), I ((heardN (⟨4, x.iss, s.ack, x.rcv, x.wait, x.sent, x.fin, x.peerFin, x.in_, x.late, x.owe, 0, 0⟩ : Stream) s).una), I ((heardN (⟨4, x.iss, s.ack, x.rcv, x.wait, x.sent, x.fin, x.peerFin, x.in_, x.late, x.owe, 0, 0⟩ : Stream) s).rcv), S ((heardN (⟨4, x.iss, s.ack, x.rcv, x.wait, x.sent, x.fin, x.peerFin, x.in_, x.late, x.owe, 0, 0⟩ : Stream) s).wait), I ((heardN (⟨4, x.iss, s.ack, x.rcv, x.wait, x.sent, x.fin, x.peerFin, x.in_, x.late, x.owe, 0, 0⟩ : Stream) s).sent), I ((heardN (⟨4, x.iss, s.ack, x.rcv, x.wait, x.sent, x.fin, x.peerFin, x.in_, x.late, x.owe, 0, 0⟩ : Stream) s).fin), Bo ((heardN (⟨4, x.iss, s.ack, x.rcv, x.wait, x.sent, x.fin, x.peerFin, x.in_, x.late, x.owe, 0, 0⟩ : Stream) s).peerFin), S ((heardN (⟨4, x.iss, s.ack, x.rcv, x.wait, x.sent, x.fin, x.peerFin, x.in_, x.late, x.owe, 0, 0⟩ : Stream) s).in_), .w (sl 2 Late.c ((heardN (⟨4, x.iss, s.ack, x.rcv, x.wait, x.sent, x.fin, x.peerFin, x.in_, x.late, x.owe, 0, 0⟩ : Stream) s).late)) (q44 9), Bo ((heardN (⟨4, x.iss, s.ack, x.rcv, x.wait, x.sent, x.fin, x.peerFin, x.in_, x.late, x.owe, 0, 0⟩ : Stream) s).owe), I ((heardN (⟨4, x.iss, s.ack, x.rcv, x.wait, x.sent, x.fin, x.peerFin, x.in_, x.late, x.owe, 0, 0⟩ : Stream) s).due), I ((heardN (⟨4, x.iss, s.ack, x.rcv, x.wait, x.sent, x.fin, x.peerFin, x.in_, x.late, x.owe, 0, 0⟩ : Stream) s).times)])] rfl (Le.of rfl) ?_
          refine CW.ret ?_
          exact Post.one (RV.c (f := fun e => (Stream.c e).map .w) (e' := (heardN (⟨4, x.iss, s.ack, x.rcv, x.wait, x.sent, x.fin, x.peerFin, x.in_, x.late, x.owe, 0, 0⟩ : Stream) s)) rfl rfl rfl rfl (DT.v (DT.v (DT.v (DT.v (DT.v (DT.v (DT.v (DT.v (DT.v (DT.w (DT.v (DT.v (DT.v DT.e))))))))))))) (by clear hv10; simp only [hear, hxo, hso, hearN_heard]; first | (simp_all; done) | (simp_all; omega) | grind)) (AOs.a rfl (AOs.a rfl AOs.e))
        ·skip
         refine CW.skip ?_
         refine CW.le [(2, .obj b1 ((Stream.c x).map .r)), (4, .obj b3 [I 0, I 0, I 0, I 0, S (⟨#[]⟩), I 0, I 0, Bo false, S (⟨#[]⟩), .r (.v (.slice none 0 0)), Bo false, I 0, I 0]), (5, .obj b5 [I x.state, I x.iss, I x.una, I x.rcv, S x.wait, I x.sent, I x.fin, Bo x.peerFin, S x.in_, .w (sl 2 Late.c x.late) (g4 0 9), Bo x.owe, I x.due, I x.times])] rfl (Le.of rfl) ?_
         refine CW.seq ?_
         refine CW.seq ?_
         refine CW.region ?_
         refine RW.v rfl (V.field rfl rfl rfl rfl (by decide) rfl) ?_
         refine RW.v rfl (V.loadPrim (d := S x.in_) rfl rfl (.inl rfl) rfl rfl rfl) ?_
         refine RW.v rfl (V.lenStr rfl (by kernel_rfl) rfl) ?_
         refine RW.v rfl (V.cmpInt rfl rfl rfl rfl) ?_
         refine RW.nil ?_
         refine CW.le [(2, .obj b1 ((Stream.c x).map .r)), (4, .obj b3 [I 0, I 0, I 0, I 0, S (⟨#[]⟩), I 0, I 0, Bo false, S (⟨#[]⟩), .r (.v (.slice none 0 0)), Bo false, I 0, I 0]), (5, .obj b5 [I x.state, I x.iss, I x.una, I x.rcv, S x.wait, I x.sent, I x.fin, Bo x.peerFin, S x.in_, .w (sl 2 Late.c x.late) (g4 0 9), Bo x.owe, I x.due, I x.times]), (91, Bo (decide ((x.in_.size : Int) > 1000)))] rfl (Le.of rfl) ?_
         refine CW.cond rfl (fun h47 => ?_) (fun h47 => ?_)
         ·skip
          refine CW.seq ?_
          refine CW.region ?_
          refine RW.v rfl (V.loadAgg rfl rfl rfl rfl rfl (Nat.le_of_ble_eq_true rfl)) ?_
          refine RW.call rfl (spec_l13Copy_fn x hm) rfl (.cons (.agg (.cons (.r .r) (.cons (.r .r) (.cons (.r .r) (.cons (.r .r) (.cons (.r .r) (.cons (.r .r) (.cons (.r .r) (.cons (.r .r) (.cons (.r .r) (.cons (.r .r) (.cons (.r .r) (.cons (.r .r) (.cons (.r .r) (.nil))))))))))))))) (.nil)) fun g48 => ?_
          refine RW.storeAgg (es := [I x.state, I x.iss, I x.una, I x.rcv, S x.wait, I x.sent, I x.fin, Bo x.peerFin, S x.in_, .al 93 (some 9) 2 x.late.length (g48 0 9) 0, Bo x.owe, I x.due, I x.times]) rfl rfl rfl rfl rfl rfl rfl rfl (Nat.le_of_ble_eq_true rfl) rfl ?_
          refine RW.le [(4, .obj b3 [I x.state, I x.iss, I x.una, I x.rcv, S x.wait, I x.sent, I x.fin, Bo x.peerFin, S x.in_, .al 93 (some 9) 2 x.late.length (g48 0 9) 0, Bo x.owe, I x.due, I x.times]), (93, .agg [I x.state, I x.iss, I x.una, I x.rcv, S x.wait, I x.sent, I x.fin, Bo x.peerFin, S x.in_, .w (sl 2 Late.c x.late) (g48 0 9), Bo x.owe, I x.due, I x.times])] rfl (Le.of rfl) ?_
          refine RW.pullA (k := 4) (l := 93) (j := 9) 4 93 9 rfl rfl rfl (by decide) rfl rfl rfl rfl ?_
          refine RW.le [(4, .obj b3 [I x.state, I x.iss, I x.una, I x.rcv, S x.wait, I x.sent, I x.fin, Bo x.peerFin, S x.in_, .w (sl 2 Late.c x.late) (g48 0 9), Bo x.owe, I x.due, I x.times])] rfl (Le.of rfl) ?_
          refine RW.nil ?_
          refine CW.le [(4, .obj b3 [I x.state, I x.iss, I x.una, I x.rcv, S x.wait, I x.sent, I x.fin, Bo x.peerFin, S x.in_, .w (sl 2 Late.c x.late) (g48 0 9), Bo x.owe, I x.due, I x.times])] rfl (Le.of rfl) ?_
          refine CW.ret ?_
          exact Post.one (RV.c (f := fun e => (Stream.c e).map .w) (e' := x) rfl rfl rfl rfl (DT.v (DT.v (DT.v (DT.v (DT.v (DT.v (DT.v (DT.v (DT.v (DT.w (DT.v (DT.v (DT.v DT.e))))))))))))) (by clear hv10; simp only [hear, hxo, hso, hearN_heard]; first | (simp_all; done) | (simp_all; omega) | grind)) (AOs.a rfl (AOs.a rfl AOs.e))
         ·skip
          refine CW.skip ?_
          refine CW.le [(4, .obj b3 [I 0, I 0, I 0, I 0, S (⟨#[]⟩), I 0, I 0, Bo false, S (⟨#[]⟩), .r (.v (.slice none 0 0)), Bo false, I 0, I 0]), (5, .obj b5 [I x.state, I x.iss, I x.una, I x.rcv, S x.wait, I x.sent, I x.fin, Bo x.peerFin, S x.in_, .w (sl 2 Late.c x.late) (g4 0 9), Bo x.owe, I x.due, I x.times])] rfl (Le.of rfl) ?_
          refine CW.seq ?_
          refine CW.region ?_
          refine RW.v rfl (V.loadAgg rfl rfl rfl rfl rfl (Nat.le_of_ble_eq_true rfl)) ?_
          refine RW.storeAgg (es := [I x.state, I x.iss, I x.una, I x.rcv, S x.wait, I x.sent, I x.fin, Bo x.peerFin, S x.in_, .al 5 (some 9) 2 x.late.length (g4 0 9) 0, Bo x.owe, I x.due, I x.times]) rfl rfl rfl rfl rfl rfl rfl rfl (Nat.le_of_ble_eq_true rfl) rfl ?_
          refine RW.le [(4, .obj b3 [I x.state, I x.iss, I x.una, I x.rcv, S x.wait, I x.sent, I x.fin, Bo x.peerFin, S x.in_, .al 5 (some 9) 2 x.late.length (g4 0 9) 0, Bo x.owe, I x.due, I x.times]), (5, .obj b5 [I x.state, I x.iss, I x.una, I x.rcv, S x.wait, I x.sent, I x.fin, Bo x.peerFin, S x.in_, .w (sl 2 Late.c x.late) (g4 0 9), Bo x.owe, I x.due, I x.times])] rfl (Le.of rfl) ?_
          refine RW.pullO (k := 4) (l := 5) (j := 9) 4 5 9 rfl rfl rfl (by decide) rfl rfl rfl rfl ?_
          refine RW.le [(4, .obj b3 [I x.state, I x.iss, I x.una, I x.rcv, S x.wait, I x.sent, I x.fin, Bo x.peerFin, S x.in_, .w (sl 2 Late.c x.late) (g4 0 9), Bo x.owe, I x.due, I x.times])] rfl (Le.of rfl) ?_
          refine RW.nil ?_
          refine CW.le [(4, .obj b3 [I x.state, I x.iss, I x.una, I x.rcv, S x.wait, I x.sent, I x.fin, Bo x.peerFin, S x.in_, .w (sl 2 Late.c x.late) (g4 0 9), Bo x.owe, I x.due, I x.times])] rfl (Le.of rfl) ?_
          refine CW.ret ?_
          exact Post.one (RV.c (f := fun e => (Stream.c e).map .w) (e' := x) rfl rfl rfl rfl (DT.v (DT.v (DT.v (DT.v (DT.v (DT.v (DT.v (DT.v (DT.v (DT.w (DT.v (DT.v (DT.v DT.e))))))))))))) (by clear hv10; simp only [hear, hxo, hso, hearN_heard]; first | (simp_all; done) | (simp_all; omega) | grind)) (AOs.a rfl (AOs.a rfl AOs.e))
     ·skip
      refine CW.seq ?_
      refine CW.region ?_
      refine RW.v rfl (V.cmpInt rfl rfl rfl rfl) ?_
      refine RW.v rfl (V.as (d := Bo (x.state == 4)) rfl rfl) ?_
      refine RW.nil ?_
      refine CW.le [(2, .obj b1 ((Stream.c x).map .r)), (3, .obj b2 ((Seg.c s).map .r)), (4, .obj b3 [I 0, I 0, I 0, I 0, S (⟨#[]⟩), I 0, I 0, Bo false, S (⟨#[]⟩), .r (.v (.slice none 0 0)), Bo false, I 0, I 0]), (5, .obj b5 [I x.state, I x.iss, I x.una, I x.rcv, S x.wait, I x.sent, I x.fin, Bo x.peerFin, S x.in_, .w (sl 2 Late.c x.late) (g4 0 9), Bo x.owe, I x.due, I x.times]), (84, Bo (x.state == 4))] rfl (Le.of rfl) ?_
      refine CW.cond rfl (fun h49 => ?_) (fun h49 => ?_)
      ·skip
       refine CW.region ?_
       refine RW.v rfl (V.loadAgg rfl rfl rfl rfl rfl (Nat.le_of_ble_eq_true rfl)) ?_
       refine RW.callW (k := 5) (spec_l13Heard_fn x s (streamOk_sent (x := x) hxo) (streamOk_part (x := x) hxo) hso) rfl rfl (Nat.le_of_ble_eq_true rfl) (by decide) (.here (AsW.ob (DT.v (DT.v (DT.v (DT.v (DT.v (DT.v (DT.v (DT.v (DT.v (DT.w (DT.v (DT.v (DT.v DT.e))))))))))))) rfl) (.cons (.agg (.cons (.r .r) (.cons (.r .r) (.cons (.r .r) (.cons (.r .r) (.nil)))))) (.nil))) rfl fun g50 q51 => ?_
       refine RW.nil ?_
       refine CW.le [(2, .obj b1 ((Stream.c x).map .r)), (4, .obj b3 [I 0, I 0, I 0, I 0, S (⟨#[]⟩), I 0, I 0, Bo false, S (⟨#[]⟩), .r (.v (.slice none 0 0)), Bo false, I 0, I 0]), (5, .obj b5 [I ((heardN x s).state), I ((heardN x s).iss), I ((heardN x s).una), I ((heardN x s).rcv), S ((heardN x s).wait), I ((heardN x s).sent), I ((heardN x s).fin), Bo ((heardN x s).peerFin), S ((heardN x s).in_), .w (sl 2 Late.c ((heardN x s).late)) (q51 9), Bo ((heardN x s).owe), I ((heardN x s).due), I ((heardN x s).times)])] rfl (Le.of rfl) ?_
       refine CW.seq ?_
       refine CW.seq ?_
       refine CW.region ?_
       refine RW.v rfl (V.field rfl rfl rfl rfl (by decide) rfl) ?_
       refine RW.v rfl (V.loadPrim (d := S ((heardN x s).in_)) rfl rfl (.inl rfl) rfl rfl rfl) ?_
       refine RW.v rfl (V.lenStr rfl (by kernel_rfl) rfl) ?_
       refine RW.v rfl (V.cmpInt rfl rfl rfl rfl) ?_
       refine RW.nil ?_
       refine CW.le [(2, .obj b1 ((Stream.c x).map .r)), (4, .obj b3 [I 0, I 0, I 0, I 0, S (⟨#[]⟩), I 0, I 0, Bo false, S (⟨#[]⟩), .r (.v (.slice none 0 0)), Bo false, I 0, I 0]), (5, .obj b5 [I ((heardN x s).state), I ((heardN x s).iss), I ((heardN x s).una), I ((heardN x s).rcv), S ((heardN x s).wait), I ((heardN x s).sent), I ((heardN x s).fin), Bo ((heardN x s).peerFin), S ((heardN x s).in_), .w (sl 2 Late.c ((heardN x s).late)) (q51 9), Bo ((heardN x s).owe), I ((heardN x s).due), I ((heardN x s).times)]), (91, Bo (decide ((((heardN x s).in_).size : Int) > 1000)))] rfl (Le.of rfl) ?_
       refine CW.cond rfl (fun h52 => ?_) (fun h52 => ?_)
       ·skip
        refine CW.seq ?_
        refine CW.region ?_
        refine RW.v rfl (V.loadAgg rfl rfl rfl rfl rfl (Nat.le_of_ble_eq_true rfl)) ?_
        refine RW.call rfl (spec_l13Copy_fn x hm) rfl (.cons (.agg (.cons (.r .r) (.cons (.r .r) (.cons (.r .r) (.cons (.r .r) (.cons (.r .r) (.cons (.r .r) (.cons (.r .r) (.cons (.r .r) (.cons (.r .r) (.cons (.r .r) (.cons (.r .r) (.cons (.r .r) (.cons (.r .r) (.nil))))))))))))))) (.nil)) fun g53 => ?_
        refine RW.storeAgg (es := [I x.state, I x.iss, I x.una, I x.rcv, S x.wait, I x.sent, I x.fin, Bo x.peerFin, S x.in_, .al 93 (some 9) 2 x.late.length (g53 0 9) 0, Bo x.owe, I x.due, I x.times]) rfl rfl rfl rfl rfl rfl rfl rfl (Nat.le_of_ble_eq_true rfl) rfl ?_
        refine RW.le [(4, .obj b3 [I x.state, I x.iss, I x.una, I x.rcv, S x.wait, I x.sent, I x.fin, Bo x.peerFin, S x.in_, .al 93 (some 9) 2 x.late.length (g53 0 9) 0, Bo x.owe, I x.due, I x.times]), (93, .agg [I x.state, I x.iss, I x.una, I x.rcv, S x.wait, I x.sent, I x.fin, Bo x.peerFin, S x.in_, .w (sl 2 Late.c x.late) (g53 0 9), Bo x.owe, I x.due, I x.times])] rfl (Le.of rfl) ?_
        refine RW.pullA (k := 4) (l := 93) (j := 9) 4 93 9 rfl rfl rfl (by decide) rfl rfl rfl rfl ?_
        refine RW.le [(4, .obj b3 [I x.state, I x.iss, I x.una, I x.rcv, S x.wait, I x.sent, I x.fin, Bo x.peerFin, S x.in_, .w (sl 2 Late.c x.late) (g53 0 9), Bo x.owe, I x.due, I x.times])] rfl (Le.of rfl) ?_
        refine RW.nil ?_
        refine CW.le [(4, .obj b3 [I x.state, I x.iss, I x.una, I x.rcv, S x.wait, I x.sent, I x.fin, Bo x.peerFin, S x.in_, .w (sl 2 Late.c x.late) (g53 0 9), Bo x.owe, I x.due, I x.times])] rfl (Le.of rfl) ?_
        refine CW.ret ?_
        exact Post.one (RV.c (f := fun e => (Stream.c e).map .w) (e' := x) rfl rfl rfl rfl (DT.v (DT.v (DT.v (DT.v (DT.v (DT.v (DT.v (DT.v (DT.v (DT.w (DT.v (DT.v (DT.v DT.e))))))))))))) (by clear hv10; simp only [hear, hxo, hso, hearN_heard]; first | (simp_all; done) | (simp_all; omega) | grind)) (AOs.a rfl (AOs.a rfl AOs.e))
       ·skip
        refine CW.skip ?_
        refine CW.le [(4, .obj b3 [I 0, I 0, I 0, I 0, S (⟨#[]⟩), I 0, I 0, Bo false, S (⟨#[]⟩), .r (.v (.slice none 0 0)), Bo false, I 0, I 0]), (5, .obj b5 [I ((heardN x s).state), I ((heardN x s).iss), I ((heardN x s).una), I ((heardN x s).rcv), S ((heardN x s).wait), I ((heardN x s).sent), I ((heardN x s).fin), Bo ((heardN x s).peerFin), S ((heardN x s).in_), .w (sl 2 Late.c ((heardN x s).late)) (q51 9), Bo ((heardN x s).owe), I ((heardN x s).due), I ((heardN x s).times)])] rfl (Le.of rfl) ?_
        refine CW.seq ?_
        refine CW.region ?_
        refine RW.v rfl (V.loadAgg rfl rfl rfl rfl rfl (Nat.le_of_ble_eq_true rfl)) ?_
        refine RW.storeAgg (es := [I ((heardN x s).state), I ((heardN x s).iss), I ((heardN x s).una), I ((heardN x s).rcv), S ((heardN x s).wait), I ((heardN x s).sent), I ((heardN x s).fin), Bo ((heardN x s).peerFin), S ((heardN x s).in_), .al 5 (some 9) 2 (((heardN x s).late).length) (q51 9) 0, Bo ((heardN x s).owe), I ((heardN x s).due), I ((heardN x s).times)]) rfl rfl rfl rfl rfl rfl rfl rfl (Nat.le_of_ble_eq_true rfl) rfl ?_
        refine RW.le [(4, .obj b3 [I ((heardN x s).state), I ((heardN x s).iss), I ((heardN x s).una), I ((heardN x s).rcv), S ((heardN x s).wait), I ((heardN x s).sent), I ((heardN x s).fin), Bo ((heardN x s).peerFin), S ((heardN x s).in_), .al 5 (some 9) 2 (((heardN x s).late).length) (q51 9) 0, Bo ((heardN x s).owe), I ((heardN x s).due), I ((heardN x s).times)]), (5, .obj b5 [I ((heardN x s).state), I ((heardN x s).iss), I ((heardN x s).una), I ((heardN x s).rcv), S ((heardN x s).wait), I ((heardN x s).sent), I ((heardN x s).fin), Bo ((heardN x s).peerFin), S ((heardN x s).in_), .w (sl 2 Late.c ((heardN x s).late)) (q51 9), Bo ((heardN x s).owe), I ((heardN x s).due), I ((heardN x s).times)])] rfl (Le.of rfl) ?_
        refine RW.pullO (k := 4) (l := 5) (j := 9) 4 5 9 rfl rfl rfl (by decide) rfl rfl rfl rfl ?_
        refine RW.le [(4, .obj b3 [I ((heardN x s).state), I ((heardN x s).iss), I ((heardN x s).una), I ((heardN x s).rcv), S ((heardN x s).wait), I ((heardN x s).sent), I ((heardN x s).fin), Bo ((heardN x s).peerFin), S ((heardN x s).in_), .w (sl 2 Late.c ((heardN x s).late)) (q51 9), Bo ((heardN x s).owe), I ((heardN x s).due), I ((heardN x s).times)])] rfl (Le.of rfl) ?_
        refine RW.nil ?_
        refine CW.le [(4, .obj b3 [I ((heardN x s).state), I ((heardN x s).iss), I ((heardN x s).una), I ((heardN x s).rcv), S ((heardN x s).wait), I ((heardN x s).sent), I ((heardN x s).fin), Bo ((heardN x s).peerFin), S ((heardN x s).in_), .w (sl 2 Late.c ((heardN x s).late)) (q51 9), Bo ((heardN x s).owe), I ((heardN x s).due), I ((heardN x s).times)])] rfl (Le.of rfl) ?_
        refine CW.ret ?_
        exact Post.one (RV.c (f := fun e => (Stream.c e).map .w) (e' := (heardN x s)) rfl rfl rfl rfl (DT.v (DT.v (DT.v (DT.v (DT.v (DT.v (DT.v (DT.v (DT.v (DT.w (DT.v (DT.v (DT.v DT.e))))))))))))) (by clear hv10; simp only [hear, hxo, hso, hearN_heard]; first | (simp_all; done) | (simp_all; omega) | grind)) (AOs.a rfl (AOs.a rfl AOs.e))
      ·skip
       refine CW.skip ?_
       refine CW.le [(2, .obj b1 ((Stream.c x).map .r)), (4, .obj b3 [I 0, I 0, I 0, I 0, S (⟨#[]⟩), I 0, I 0, Bo false, S (⟨#[]⟩), .r (.v (.slice none 0 0)), Bo false, I 0, I 0]), (5, .obj b5 [I x.state, I x.iss, I x.una, I x.rcv, S x.wait, I x.sent, I x.fin, Bo x.peerFin, S x.in_, .w (sl 2 Late.c x.late) (g4 0 9), Bo x.owe, I x.due, I x.times])] rfl (Le.of rfl) ?_
       refine CW.seq ?_
       refine CW.seq ?_
       refine CW.region ?_
       refine RW.v rfl (V.field rfl rfl rfl rfl (by decide) rfl) ?_
       refine RW.v rfl (V.loadPrim (d := S x.in_) rfl rfl (.inl rfl) rfl rfl rfl) ?_
       refine RW.v rfl (V.lenStr rfl (by kernel_rfl) rfl) ?_
       refine RW.v rfl (V.cmpInt rfl rfl rfl rfl) ?_
       refine RW.nil ?_
       refine CW.le [(2, .obj b1 ((Stream.c x).map .r)), (4, .obj b3 [I 0, I 0, I 0, I 0, S (⟨#[]⟩), I 0, I 0, Bo false, S (⟨#[]⟩), .r (.v (.slice none 0 0)), Bo false, I 0, I 0]), (5, .obj b5 [I x.state, I x.iss, I x.una, I x.rcv, S x.wait, I x.sent, I x.fin, Bo x.peerFin, S x.in_, .w (sl 2 Late.c x.late) (g4 0 9), Bo x.owe, I x.due, I x.times]), (91, Bo (decide ((x.in_.size : Int) > 1000)))] rfl (Le.of rfl) ?_
       refine CW.cond rfl (fun h54 => ?_) (fun h54 => ?_)
       ·skip
        refine CW.seq ?_
        refine CW.region ?_
        refine RW.v rfl (V.loadAgg rfl rfl rfl rfl rfl (Nat.le_of_ble_eq_true rfl)) ?_
        refine RW.call rfl (spec_l13Copy_fn x hm) rfl (.cons (.agg (.cons (.r .r) (.cons (.r .r) (.cons (.r .r) (.cons (.r .r) (.cons (.r .r) (.cons (.r .r) (.cons (.r .r) (.cons (.r .r) (.cons (.r .r) (.cons (.r .r) (.cons (.r .r) (.cons (.r .r) (.cons (.r .r) (.nil))))))))))))))) (.nil)) fun g55 => ?_
        refine RW.storeAgg (es := [I x.state, I x.iss, I x.una, I x.rcv, S x.wait, I x.sent, I x.fin, Bo x.peerFin, S x.in_, .al 93 (some 9) 2 x.late.length (g55 0 9) 0, Bo x.owe, I x.due, I x.times]) rfl rfl rfl rfl rfl rfl rfl rfl (Nat.le_of_ble_eq_true rfl) rfl ?_
        refine RW.le [(4, .obj b3 [I x.state, I x.iss, I x.una, I x.rcv, S x.wait, I x.sent, I x.fin, Bo x.peerFin, S x.in_, .al 93 (some 9) 2 x.late.length (g55 0 9) 0, Bo x.owe, I x.due, I x.times]), (93, .agg [I x.state, I x.iss, I x.una, I x.rcv, S x.wait, I x.sent, I x.fin, Bo x.peerFin, S x.in_, .w (sl 2 Late.c x.late) (g55 0 9), Bo x.owe, I x.due, I x.times])] rfl (Le.of rfl) ?_
        refine RW.pullA (k := 4) (l := 93) (j := 9) 4 93 9 rfl rfl rfl (by decide) rfl rfl rfl rfl ?_
        refine RW.le [(4, .obj b3 [I x.state, I x.iss, I x.una, I x.rcv, S x.wait, I x.sent, I x.fin, Bo x.peerFin, S x.in_, .w (sl 2 Late.c x.late) (g55 0 9), Bo x.owe, I x.due, I x.times])] rfl (Le.of rfl) ?_
        refine RW.nil ?_
        refine CW.le [(4, .obj b3 [I x.state, I x.iss, I x.una, I x.rcv, S x.wait, I x.sent, I x.fin, Bo x.peerFin, S x.in_, .w (sl 2 Late.c x.late) (g55 0 9), Bo x.owe, I x.due, I x.times])] rfl (Le.of rfl) ?_
        refine CW.ret ?_
        exact Post.one (RV.c (f := fun e => (Stream.c e).map .w) (e' := x) rfl rfl rfl rfl (DT.v (DT.v (DT.v (DT.v (DT.v (DT.v (DT.v (DT.v (DT.v (DT.w (DT.v (DT.v (DT.v DT.e))))))))))))) (by clear hv10; simp only [hear, hxo, hso, hearN_heard]; first | (simp_all; done) | (simp_all; omega) | grind)) (AOs.a rfl (AOs.a rfl AOs.e))
       ·skip
        refine CW.skip ?_
        refine CW.le [(4, .obj b3 [I 0, I 0, I 0, I 0, S (⟨#[]⟩), I 0, I 0, Bo false, S (⟨#[]⟩), .r (.v (.slice none 0 0)), Bo false, I 0, I 0]), (5, .obj b5 [I x.state, I x.iss, I x.una, I x.rcv, S x.wait, I x.sent, I x.fin, Bo x.peerFin, S x.in_, .w (sl 2 Late.c x.late) (g4 0 9), Bo x.owe, I x.due, I x.times])] rfl (Le.of rfl) ?_
        refine CW.seq ?_
        refine CW.region ?_
        refine RW.v rfl (V.loadAgg rfl rfl rfl rfl rfl (Nat.le_of_ble_eq_true rfl)) ?_
        refine RW.storeAgg (es := [I x.state, I x.iss, I x.una, I x.rcv, S x.wait, I x.sent, I x.fin, Bo x.peerFin, S x.in_, .al 5 (some 9) 2 x.late.length (g4 0 9) 0, Bo x.owe, I x.due, I x.times]) rfl rfl rfl rfl rfl rfl rfl rfl (Nat.le_of_ble_eq_true rfl) rfl ?_
        refine RW.le [(4, .obj b3 [I x.state, I x.iss, I x.una, I x.rcv, S x.wait, I x.sent, I x.fin, Bo x.peerFin, S x.in_, .al 5 (some 9) 2 x.late.length (g4 0 9) 0, Bo x.owe, I x.due, I x.times]), (5, .obj b5 [I x.state, I x.iss, I x.una, I x.rcv, S x.wait, I x.sent, I x.fin, Bo x.peerFin, S x.in_, .w (sl 2 Late.c x.late) (g4 0 9), Bo x.owe, I x.due, I x.times])] rfl (Le.of rfl) ?_
        refine RW.pullO (k := 4) (l := 5) (j := 9) 4 5 9 rfl rfl rfl (by decide) rfl rfl rfl rfl ?_
        refine RW.le [(4, .obj b3 [I x.state, I x.iss, I x.una, I x.rcv, S x.wait, I x.sent, I x.fin, Bo x.peerFin, S x.in_, .w (sl 2 Late.c x.late) (g4 0 9), Bo x.owe, I x.due, I x.times])] rfl (Le.of rfl) ?_
        refine RW.nil ?_
        refine CW.le [(4, .obj b3 [I x.state, I x.iss, I x.una, I x.rcv, S x.wait, I x.sent, I x.fin, Bo x.peerFin, S x.in_, .w (sl 2 Late.c x.late) (g4 0 9), Bo x.owe, I x.due, I x.times])] rfl (Le.of rfl) ?_
        refine CW.ret ?_
        exact Post.one (RV.c (f := fun e => (Stream.c e).map .w) (e' := x) rfl rfl rfl rfl (DT.v (DT.v (DT.v (DT.v (DT.v (DT.v (DT.v (DT.v (DT.v (DT.w (DT.v (DT.v (DT.v DT.e))))))))))))) (by clear hv10; simp only [hear, hxo, hso, hearN_heard]; first | (simp_all; done) | (simp_all; omega) | grind)) (AOs.a rfl (AOs.a rfl AOs.e))
set_option maxHeartbeats 4000000 in
theorem laws_szLate_fn (a : Late) (left : Int) : Eng.Fn E.P 72 [.agg ((Late.c a).map .r), .one (.r (.v (.int .i64 left)))] (.one (.one (.w (.v (.int .i64 (szLate a left)))))) [.agg ((Late.c a).map .r), .one (.r (.v (.int .i64 left)))] := by
 refine Eng.Fn.intro (E := E) (rvs := [.tmp 4]) Try.func72 rfl rfl rfl (by simp [outSlots, moved, rvSlot, sl]) ?_
 intro B g bo
 refine CW.le [(0, .agg ((Late.c a).map .r)), (1, I left)] rfl (Le.of rfl) ?_
 refine CW.seq ?_
 refine CW.region ?_
 refine RW.box (ds := ((Late.c a).map .r)) rfl rfl rfl fun b1 => ?_
 refine RW.v rfl (V.as (d := I 0) rfl rfl) ?_
 refine RW.nil ?_
 refine CW.le [(1, I left), (2, .obj b1 ((Late.c a).map .r))] rfl (Le.of rfl) ?_
 refine CW.seq ?_
 refine CW.region ?_
 refine RW.v rfl (V.mv (d := I left) rfl rfl) ?_
 refine RW.v rfl (V.field rfl rfl rfl rfl (by decide) rfl) ?_
 refine RW.v rfl (V.loadPrim (d := S a.text) rfl rfl (.inl rfl) rfl rfl rfl) ?_
 refine RW.v rfl (V.lenStr rfl (by kernel_rfl) rfl) ?_
 refine RW.v rfl (V.arInt rfl rfl rfl rfl) ?_
 refine RW.v rfl (V.as (d := I (IntKind.i64.wrap (left - (a.text.size : Int)))) rfl rfl) ?_
 refine RW.nil ?_
 refine CW.le [(1, I (IntKind.i64.wrap (left - (a.text.size : Int))))] rfl (Le.of rfl) ?_
 refine CW.seq ?_
 refine CW.seq ?_
 refine CW.region ?_
 refine RW.v rfl (V.mv (d := I (IntKind.i64.wrap (left - (a.text.size : Int)))) rfl rfl) ?_
 refine RW.v rfl (V.cmpInt rfl rfl rfl rfl) ?_
 refine RW.nil ?_
 refine CW.le [(1, I (IntKind.i64.wrap (left - (a.text.size : Int)))), (11, Bo (decide ((IntKind.i64.wrap (left - (a.text.size : Int))) < 0)))] rfl (Le.of rfl) ?_
 refine CW.cond rfl (fun h2 => ?_) (fun h2 => ?_)
 ·skip
  refine CW.seq ?_
  refine CW.region ?_
  refine RW.v rfl (V.as (d := I (-1)) rfl rfl) ?_
  refine RW.nil ?_
  refine CW.le [(4, I (-1))] rfl (Le.of rfl) ?_
  refine CW.ret ?_
  exact Post.one (RV.i rfl (by first | (simp_all [szLate]; done) | (simp_all [szLate]; omega) | grind [szLate])) (AOs.a rfl (AOs.r AOs.e))
 ·skip
  refine CW.skip ?_
  refine CW.le [(1, I (IntKind.i64.wrap (left - (a.text.size : Int))))] rfl (Le.of rfl) ?_
  refine CW.seq ?_
  refine CW.region ?_
  refine RW.v rfl (V.mv (d := I (IntKind.i64.wrap (left - (a.text.size : Int)))) rfl rfl) ?_
  refine RW.v rfl (V.as (d := I (IntKind.i64.wrap (left - (a.text.size : Int)))) rfl rfl) ?_
  refine RW.nil ?_
  refine CW.le [(4, I (IntKind.i64.wrap (left - (a.text.size : Int))))] rfl (Le.of rfl) ?_
  refine CW.ret ?_
  exact Post.one (RV.i rfl (by first | (simp_all [szLate]; done) | (simp_all [szLate]; omega) | grind [szLate])) (AOs.a rfl (AOs.r AOs.e))
set_option maxHeartbeats 4000000 in
theorem laws_szLateS_fn (a : List Late) (left : Int) : Eng.Fn E.P 41 [.one (.r (sl 2 Late.c a)), .one (.r (.v (.int .i64 left)))] (.one (.one (.w (.v (.int .i64 (szS szLate a left)))))) [.one (.r (sl 2 Late.c a)), .one (.r (.v (.int .i64 left)))] := by
 refine Eng.Fn.intro (E := E) (rvs := [.tmp 4]) Try.func41 rfl rfl rfl (by simp [outSlots, moved, rvSlot, sl]) ?_
 intro B g bo
 refine CW.bound (x := .tmp 0) (n := a.length) (AsT.r) (fun hl0 => ?_)
 refine CW.le [(0, .r (sl 2 Late.c a)), (1, I left)] rfl (Le.of rfl) ?_
 refine CW.seq ?_
 refine CW.region ?_
 refine RW.v rfl (V.as (d := I 0) rfl rfl) ?_
 refine RW.nil ?_
 refine CW.le [(0, .r (sl 2 Late.c a)), (1, I left)] rfl (Le.of rfl) ?_
 refine CW.seq ?_
 refine CW.region ?_
 refine RW.v rfl (V.mv (d := I left) rfl rfl) ?_
 refine RW.v rfl (V.mv (d := .r (sl 2 Late.c a)) rfl rfl) ?_
 refine RW.v rfl (V.lenT (n := a.length) rfl rfl rfl .r) ?_
 refine RW.v rfl (V.arInt rfl rfl rfl rfl) ?_
 refine RW.v rfl (V.as (d := I (IntKind.i64.wrap (left - (a.length : Int)))) rfl rfl) ?_
 refine RW.nil ?_
 refine CW.le [(0, .r (sl 2 Late.c a)), (1, I (IntKind.i64.wrap (left - (a.length : Int))))] rfl (Le.of rfl) ?_
 refine CW.seq ?_
 refine CW.seq ?_
 refine CW.region ?_
 refine RW.v rfl (V.mv (d := I (IntKind.i64.wrap (left - (a.length : Int)))) rfl rfl) ?_
 refine RW.v rfl (V.cmpInt rfl rfl rfl rfl) ?_
 refine RW.nil ?_
 refine CW.le [(0, .r (sl 2 Late.c a)), (1, I (IntKind.i64.wrap (left - (a.length : Int)))), (11, Bo (decide ((IntKind.i64.wrap (left - (a.length : Int))) < 0)))] rfl (Le.of rfl) ?_
 refine CW.cond rfl (fun h1 => ?_) (fun h1 => ?_)
 ·skip
  refine CW.seq ?_
  refine CW.region ?_
  refine RW.v rfl (V.as (d := I (-1)) rfl rfl) ?_
  refine RW.nil ?_
  refine CW.le [(4, I (-1))] rfl (Le.of rfl) ?_
  refine CW.ret ?_
  exact Post.one (RV.i rfl (by first | (simp_all [szS, szL, szStr, szI]; done) | grind [szS, szL, szStr, szI])) (AOs.r (AOs.r AOs.e))
 ·skip
  refine CW.skip ?_
  refine CW.le [(0, .r (sl 2 Late.c a)), (1, I (IntKind.i64.wrap (left - (a.length : Int))))] rfl (Le.of rfl) ?_
  refine CW.seq ?_
  refine CW.seq ?_
  refine CW.region ?_
  refine RW.v rfl (V.as (d := I 0) rfl rfl) ?_
  refine RW.nil ?_
  refine CW.le [(0, .r (sl 2 Late.c a)), (1, I (IntKind.i64.wrap (left - (a.length : Int)))), (5, I 0)] rfl (Le.of rfl) ?_
  refine CW.block ?_
  refine CW.loopI 27 (fun (zz : Nat × Int) => match zz with | (i, l) => [(0, .r (sl 2 Late.c a)), (1, I l), (5, I (i : Int))]) (fun (zz : Nat × Int) => match zz with | (i, l) => i ≤ a.length ∧ szL szLate (a.drop i) l = szS szLate a left) (fun (zz : Nat × Int) => match zz with | (i, l) => a.length - i) (0, _) rfl (Le.c rfl <| Le.c rfl <| Le.c rfl <| Le.e) ⟨by omega, by first | (simp_all [szS]; done) | grind [szS]⟩ ?_
  rintro ⟨i, l⟩ ⟨hb, hr⟩
  refine CW.seq ?_
  refine CW.seq ?_
  refine CW.region ?_
  refine RW.v rfl (V.mv (d := I (i : Int)) rfl rfl) ?_
  refine RW.v rfl (V.mv (d := .r (sl 2 Late.c a)) rfl rfl) ?_
  refine RW.v rfl (V.lenT (n := a.length) rfl rfl rfl .r) ?_
  refine RW.v rfl (V.cmpInt rfl rfl rfl rfl) ?_
  refine RW.nil ?_
  refine CW.le [(0, .r (sl 2 Late.c a)), (1, I l), (5, I (i : Int)), (15, Bo (decide ((i : Int) < (a.length : Int))))] rfl (Le.of rfl) ?_
  refine CW.cond rfl (fun h2 => ?_) (fun h2 => ?_)
  ·skip
   have hii : i < a.length := by have := h2; simp at this; first | exact this | omega | (simp; done) | (simp; omega)
   obtain ⟨ei, hei⟩ : ∃ e, a[i]? = some e := ⟨_, List.getElem?_eq_getElem hii⟩
   have hdi := drop_get hei
   refine CW.skip ?_
   refine CW.le [(0, .r (sl 2 Late.c a)), (1, I l), (5, I (i : Int))] rfl (Le.of rfl) ?_
   refine CW.seq ?_
   refine CW.block ?_
   refine CW.seq ?_
   refine CW.region ?_
   refine RW.v rfl (V.mv (d := .r (sl 2 Late.c a)) rfl rfl) ?_
   refine RW.v rfl (V.mv (d := I (i : Int)) rfl rfl) ?_
   refine RW.v rfl (V.indexS rfl rfl rfl rfl rfl rfl Late.len hei) ?_
   refine RW.v rfl (V.loadAggR rfl rfl rfl rfl (Nat.le_of_ble_eq_true rfl)) ?_
   refine RW.v rfl (V.mv (d := I l) rfl rfl) ?_
   refine RW.call rfl (laws_szLate_fn ei l) rfl (.cons (.agg (.cons (.r .r) (.cons (.r .r) (.nil)))) (.cons (.one (.r .r)) (.nil))) fun g3 => ?_
   refine RW.v rfl (V.as (d := I (szLate ei l)) rfl rfl) ?_
   refine RW.nil ?_
   refine CW.le [(0, .r (sl 2 Late.c a)), (1, I (szLate ei l)), (5, I (i : Int))] rfl (Le.of rfl) ?_
   refine CW.seq ?_
   refine CW.region ?_
   refine RW.v rfl (V.mv (d := I (szLate ei l)) rfl rfl) ?_
   refine RW.v rfl (V.cmpInt rfl rfl rfl rfl) ?_
   refine RW.nil ?_
   refine CW.le [(0, .r (sl 2 Late.c a)), (1, I (szLate ei l)), (5, I (i : Int)), (25, Bo (decide ((szLate ei l) < 0)))] rfl (Le.of rfl) ?_
   refine CW.cond rfl (fun h4 => ?_) (fun h4 => ?_)
   ·skip
    refine CW.seq ?_
    refine CW.region ?_
    refine RW.v rfl (V.as (d := I (-1)) rfl rfl) ?_
    refine RW.nil ?_
    refine CW.le [(4, I (-1))] rfl (Le.of rfl) ?_
    refine CW.ret ?_
    exact Post.one (RV.i rfl (by first | (simp_all [szS, szL, szStr, szI]; done) | grind [szS, szL, szStr, szI])) (AOs.r (AOs.r AOs.e))
   ·skip
    refine CW.skip ?_
    refine CW.le [(0, .r (sl 2 Late.c a)), (1, I (szLate ei l)), (5, I (i : Int))] rfl (Le.of rfl) ?_
    refine CW.region ?_
    refine RW.v rfl (V.mv (d := I (i : Int)) rfl rfl) ?_
    refine RW.v rfl (V.inc rfl rfl rfl hii hl0) ?_
    refine RW.v rfl (V.as (d := I ((i + 1 : Nat) : Int)) rfl rfl) ?_
    refine RW.nil ?_
    exact ⟨(i + 1, _), by simp only []; omega, ⟨by omega, by first | (simp_all [szL, szStr, szI]; done) | grind [szL, szStr, szI]⟩, rfl, Le.c rfl <| Le.c rfl <| Le.c rfl <| Le.e⟩
  ·skip
   have hii : a.length ≤ i := by have := h2; simp at this; first | exact this | omega | (simp; done) | (simp; omega)
   have hdi : a.drop i = [] := List.drop_eq_nil_of_le hii
   refine CW.exit ?_
   refine CW.le [(1, I l)] rfl (Le.of rfl) ?_
   refine CW.seq ?_
   refine CW.region ?_
   refine RW.v rfl (V.mv (d := I l) rfl rfl) ?_
   refine RW.v rfl (V.as (d := I l) rfl rfl) ?_
   refine RW.nil ?_
   refine CW.le [(4, I l)] rfl (Le.of rfl) ?_
   refine CW.ret ?_
   exact Post.one (RV.i rfl (by first | (simp_all [szS, szL, szStr, szI]; done) | grind [szS, szL, szStr, szI])) (AOs.r (AOs.r AOs.e))
set_option maxHeartbeats 4000000 in
theorem laws_szStream_fn (a : Stream) (left : Int) : Eng.Fn E.P 13 [.agg ((Stream.c a).map .r), .one (.r (.v (.int .i64 left)))] (.one (.one (.w (.v (.int .i64 (szStream a left)))))) [.agg ((Stream.c a).map .r), .one (.r (.v (.int .i64 left)))] := by
 refine Eng.Fn.intro (E := E) (rvs := [.tmp 4]) Try.func13 rfl rfl rfl (by simp [outSlots, moved, rvSlot, sl]) ?_
 intro B g bo
 refine CW.le [(0, .agg ((Stream.c a).map .r)), (1, I left)] rfl (Le.of rfl) ?_
 refine CW.seq ?_
 refine CW.region ?_
 refine RW.box (ds := ((Stream.c a).map .r)) rfl rfl rfl fun b1 => ?_
 refine RW.v rfl (V.as (d := I 0) rfl rfl) ?_
 refine RW.nil ?_
 refine CW.le [(1, I left), (2, .obj b1 ((Stream.c a).map .r))] rfl (Le.of rfl) ?_
 refine CW.seq ?_
 refine CW.region ?_
 refine RW.v rfl (V.mv (d := I left) rfl rfl) ?_
 refine RW.v rfl (V.field rfl rfl rfl rfl (by decide) rfl) ?_
 refine RW.v rfl (V.loadPrim (d := S a.wait) rfl rfl (.inl rfl) rfl rfl rfl) ?_
 refine RW.v rfl (V.lenStr rfl (by kernel_rfl) rfl) ?_
 refine RW.v rfl (V.arInt rfl rfl rfl rfl) ?_
 refine RW.v rfl (V.as (d := I (IntKind.i64.wrap (left - (a.wait.size : Int)))) rfl rfl) ?_
 refine RW.nil ?_
 refine CW.le [(1, I (IntKind.i64.wrap (left - (a.wait.size : Int)))), (2, .obj b1 ((Stream.c a).map .r))] rfl (Le.of rfl) ?_
 refine CW.seq ?_
 refine CW.seq ?_
 refine CW.region ?_
 refine RW.v rfl (V.mv (d := I (IntKind.i64.wrap (left - (a.wait.size : Int)))) rfl rfl) ?_
 refine RW.v rfl (V.cmpInt rfl rfl rfl rfl) ?_
 refine RW.nil ?_
 refine CW.le [(1, I (IntKind.i64.wrap (left - (a.wait.size : Int)))), (2, .obj b1 ((Stream.c a).map .r)), (11, Bo (decide ((IntKind.i64.wrap (left - (a.wait.size : Int))) < 0)))] rfl (Le.of rfl) ?_
 refine CW.cond rfl (fun h2 => ?_) (fun h2 => ?_)
 ·skip
  refine CW.seq ?_
  refine CW.region ?_
  refine RW.v rfl (V.as (d := I (-1)) rfl rfl) ?_
  refine RW.nil ?_
  refine CW.le [(4, I (-1))] rfl (Le.of rfl) ?_
  refine CW.ret ?_
  exact Post.one (RV.i rfl (by first | (simp_all [szStream]; done) | (simp_all [szStream]; omega) | grind [szStream])) (AOs.a rfl (AOs.r AOs.e))
 ·skip
  refine CW.skip ?_
  refine CW.le [(1, I (IntKind.i64.wrap (left - (a.wait.size : Int)))), (2, .obj b1 ((Stream.c a).map .r))] rfl (Le.of rfl) ?_
  refine CW.seq ?_
  refine CW.region ?_
  refine RW.v rfl (V.mv (d := I (IntKind.i64.wrap (left - (a.wait.size : Int)))) rfl rfl) ?_
  refine RW.v rfl (V.field rfl rfl rfl rfl (by decide) rfl) ?_
  refine RW.v rfl (V.loadPrim (d := S a.in_) rfl rfl (.inl rfl) rfl rfl rfl) ?_
  refine RW.v rfl (V.lenStr rfl (by kernel_rfl) rfl) ?_
  refine RW.v rfl (V.arInt rfl rfl rfl rfl) ?_
  refine RW.v rfl (V.as (d := I (IntKind.i64.wrap ((IntKind.i64.wrap (left - (a.wait.size : Int))) - (a.in_.size : Int)))) rfl rfl) ?_
  refine RW.nil ?_
  refine CW.le [(1, I (IntKind.i64.wrap ((IntKind.i64.wrap (left - (a.wait.size : Int))) - (a.in_.size : Int)))), (2, .obj b1 ((Stream.c a).map .r))] rfl (Le.of rfl) ?_
  refine CW.seq ?_
  refine CW.seq ?_
  refine CW.region ?_
  refine RW.v rfl (V.mv (d := I (IntKind.i64.wrap ((IntKind.i64.wrap (left - (a.wait.size : Int))) - (a.in_.size : Int)))) rfl rfl) ?_
  refine RW.v rfl (V.cmpInt rfl rfl rfl rfl) ?_
  refine RW.nil ?_
  refine CW.le [(1, I (IntKind.i64.wrap ((IntKind.i64.wrap (left - (a.wait.size : Int))) - (a.in_.size : Int)))), (2, .obj b1 ((Stream.c a).map .r)), (18, Bo (decide ((IntKind.i64.wrap ((IntKind.i64.wrap (left - (a.wait.size : Int))) - (a.in_.size : Int))) < 0)))] rfl (Le.of rfl) ?_
  refine CW.cond rfl (fun h3 => ?_) (fun h3 => ?_)
  ·skip
   refine CW.seq ?_
   refine CW.region ?_
   refine RW.v rfl (V.as (d := I (-1)) rfl rfl) ?_
   refine RW.nil ?_
   refine CW.le [(4, I (-1))] rfl (Le.of rfl) ?_
   refine CW.ret ?_
   exact Post.one (RV.i rfl (by first | (simp_all [szStream]; done) | (simp_all [szStream]; omega) | grind [szStream])) (AOs.a rfl (AOs.r AOs.e))
  ·skip
   refine CW.skip ?_
   refine CW.le [(1, I (IntKind.i64.wrap ((IntKind.i64.wrap (left - (a.wait.size : Int))) - (a.in_.size : Int)))), (2, .obj b1 ((Stream.c a).map .r))] rfl (Le.of rfl) ?_
   refine CW.seq ?_
   refine CW.region ?_
   refine RW.v rfl (V.field rfl rfl rfl rfl (by decide) rfl) ?_
   refine RW.v rfl (V.loadPrim (d := .r (sl 2 Late.c a.late)) rfl rfl (.inr ⟨_, rfl⟩) rfl rfl rfl) ?_
   refine RW.v rfl (V.mv (d := I (IntKind.i64.wrap ((IntKind.i64.wrap (left - (a.wait.size : Int))) - (a.in_.size : Int)))) rfl rfl) ?_
   refine RW.call rfl (laws_szLateS_fn a.late (IntKind.i64.wrap ((IntKind.i64.wrap (left - (a.wait.size : Int))) - (a.in_.size : Int)))) rfl (.cons (.one (.r .r)) (.cons (.one (.r .r)) (.nil))) fun g4 => ?_
   refine RW.v rfl (V.as (d := I (szS szLate a.late (IntKind.i64.wrap ((IntKind.i64.wrap (left - (a.wait.size : Int))) - (a.in_.size : Int))))) rfl rfl) ?_
   refine RW.nil ?_
   refine CW.le [(1, I (szS szLate a.late (IntKind.i64.wrap ((IntKind.i64.wrap (left - (a.wait.size : Int))) - (a.in_.size : Int)))))] rfl (Le.of rfl) ?_
   refine CW.seq ?_
   refine CW.seq ?_
   refine CW.region ?_
   refine RW.v rfl (V.mv (d := I (szS szLate a.late (IntKind.i64.wrap ((IntKind.i64.wrap (left - (a.wait.size : Int))) - (a.in_.size : Int))))) rfl rfl) ?_
   refine RW.v rfl (V.cmpInt rfl rfl rfl rfl) ?_
   refine RW.nil ?_
   refine CW.le [(1, I (szS szLate a.late (IntKind.i64.wrap ((IntKind.i64.wrap (left - (a.wait.size : Int))) - (a.in_.size : Int))))), (24, Bo (decide ((szS szLate a.late (IntKind.i64.wrap ((IntKind.i64.wrap (left - (a.wait.size : Int))) - (a.in_.size : Int)))) < 0)))] rfl (Le.of rfl) ?_
   refine CW.cond rfl (fun h5 => ?_) (fun h5 => ?_)
   ·skip
    refine CW.seq ?_
    refine CW.region ?_
    refine RW.v rfl (V.as (d := I (-1)) rfl rfl) ?_
    refine RW.nil ?_
    refine CW.le [(4, I (-1))] rfl (Le.of rfl) ?_
    refine CW.ret ?_
    exact Post.one (RV.i rfl (by first | (simp_all [szStream]; done) | (simp_all [szStream]; omega) | grind [szStream])) (AOs.a rfl (AOs.r AOs.e))
   ·skip
    refine CW.skip ?_
    refine CW.le [(1, I (szS szLate a.late (IntKind.i64.wrap ((IntKind.i64.wrap (left - (a.wait.size : Int))) - (a.in_.size : Int)))))] rfl (Le.of rfl) ?_
    refine CW.seq ?_
    refine CW.region ?_
    refine RW.v rfl (V.mv (d := I (szS szLate a.late (IntKind.i64.wrap ((IntKind.i64.wrap (left - (a.wait.size : Int))) - (a.in_.size : Int))))) rfl rfl) ?_
    refine RW.v rfl (V.as (d := I (szS szLate a.late (IntKind.i64.wrap ((IntKind.i64.wrap (left - (a.wait.size : Int))) - (a.in_.size : Int))))) rfl rfl) ?_
    refine RW.nil ?_
    refine CW.le [(4, I (szS szLate a.late (IntKind.i64.wrap ((IntKind.i64.wrap (left - (a.wait.size : Int))) - (a.in_.size : Int)))))] rfl (Le.of rfl) ?_
    refine CW.ret ?_
    exact Post.one (RV.i rfl (by first | (simp_all [szStream]; done) | (simp_all [szStream]; omega) | grind [szStream])) (AOs.a rfl (AOs.r AOs.e))
set_option maxHeartbeats 4000000 in
theorem laws_szSeg_fn (a : Seg) (left : Int) : Eng.Fn E.P 14 [.agg ((Seg.c a).map .r), .one (.r (.v (.int .i64 left)))] (.one (.one (.w (.v (.int .i64 (szSeg a left)))))) [.agg ((Seg.c a).map .r), .one (.r (.v (.int .i64 left)))] := by
 refine Eng.Fn.intro (E := E) (rvs := [.tmp 4]) Try.func14 rfl rfl rfl (by simp [outSlots, moved, rvSlot, sl]) ?_
 intro B g bo
 refine CW.le [(0, .agg ((Seg.c a).map .r)), (1, I left)] rfl (Le.of rfl) ?_
 refine CW.seq ?_
 refine CW.region ?_
 refine RW.box (ds := ((Seg.c a).map .r)) rfl rfl rfl fun b1 => ?_
 refine RW.v rfl (V.as (d := I 0) rfl rfl) ?_
 refine RW.nil ?_
 refine CW.le [(1, I left), (2, .obj b1 ((Seg.c a).map .r))] rfl (Le.of rfl) ?_
 refine CW.seq ?_
 refine CW.region ?_
 refine RW.v rfl (V.mv (d := I left) rfl rfl) ?_
 refine RW.v rfl (V.field rfl rfl rfl rfl (by decide) rfl) ?_
 refine RW.v rfl (V.loadPrim (d := S a.body) rfl rfl (.inl rfl) rfl rfl rfl) ?_
 refine RW.v rfl (V.lenStr rfl (by kernel_rfl) rfl) ?_
 refine RW.v rfl (V.arInt rfl rfl rfl rfl) ?_
 refine RW.v rfl (V.as (d := I (IntKind.i64.wrap (left - (a.body.size : Int)))) rfl rfl) ?_
 refine RW.nil ?_
 refine CW.le [(1, I (IntKind.i64.wrap (left - (a.body.size : Int))))] rfl (Le.of rfl) ?_
 refine CW.seq ?_
 refine CW.seq ?_
 refine CW.region ?_
 refine RW.v rfl (V.mv (d := I (IntKind.i64.wrap (left - (a.body.size : Int)))) rfl rfl) ?_
 refine RW.v rfl (V.cmpInt rfl rfl rfl rfl) ?_
 refine RW.nil ?_
 refine CW.le [(1, I (IntKind.i64.wrap (left - (a.body.size : Int)))), (11, Bo (decide ((IntKind.i64.wrap (left - (a.body.size : Int))) < 0)))] rfl (Le.of rfl) ?_
 refine CW.cond rfl (fun h2 => ?_) (fun h2 => ?_)
 ·skip
  refine CW.seq ?_
  refine CW.region ?_
  refine RW.v rfl (V.as (d := I (-1)) rfl rfl) ?_
  refine RW.nil ?_
  refine CW.le [(4, I (-1))] rfl (Le.of rfl) ?_
  refine CW.ret ?_
  exact Post.one (RV.i rfl (by first | (simp_all [szSeg]; done) | (simp_all [szSeg]; omega) | grind [szSeg])) (AOs.a rfl (AOs.r AOs.e))
 ·skip
  refine CW.skip ?_
  refine CW.le [(1, I (IntKind.i64.wrap (left - (a.body.size : Int))))] rfl (Le.of rfl) ?_
  refine CW.seq ?_
  refine CW.region ?_
  refine RW.v rfl (V.mv (d := I (IntKind.i64.wrap (left - (a.body.size : Int)))) rfl rfl) ?_
  refine RW.v rfl (V.as (d := I (IntKind.i64.wrap (left - (a.body.size : Int)))) rfl rfl) ?_
  refine RW.nil ?_
  refine CW.le [(4, I (IntKind.i64.wrap (left - (a.body.size : Int))))] rfl (Le.of rfl) ?_
  refine CW.ret ?_
  exact Post.one (RV.i rfl (by first | (simp_all [szSeg]; done) | (simp_all [szSeg]; omega) | grind [szSeg])) (AOs.a rfl (AOs.r AOs.e))
set_option maxHeartbeats 4000000 in
theorem laws_toLate_fn (a : Late) (hs : okToLate a) : Eng.Fn E.P 76 [.agg ((Late.c a).map .r)] (.one (.agg ((Late.c a).map .w))) [.agg ((Late.c a).map .r)] := by
 refine Eng.Fn.intro (E := E) (rvs := [.cell 2 88]) Try.func76 rfl rfl rfl (by simp [outSlots, moved, rvSlot, sl]) ?_
 intro B g bo
 refine CW.le [(0, .agg ((Late.c a).map .r))] rfl (Le.of rfl) ?_
 refine CW.seq ?_
 refine CW.region ?_
 refine RW.box (ds := ((Late.c a).map .r)) rfl rfl rfl fun b1 => ?_
 refine RW.alloc (ds := [I 0, S (⟨#[]⟩)]) rfl rfl rfl rfl fun b2 => ?_
 refine RW.nil ?_
 refine CW.le [(1, .obj b1 ((Late.c a).map .r)), (2, .obj b2 [I 0, S (⟨#[]⟩)])] rfl (Le.of rfl) ?_
 refine CW.seq ?_
 refine CW.region ?_
 refine RW.alloc (ds := [I 0, S (⟨#[]⟩)]) rfl rfl rfl rfl fun b3 => ?_
 refine RW.nil ?_
 refine CW.le [(1, .obj b1 ((Late.c a).map .r)), (2, .obj b2 [I 0, S (⟨#[]⟩)]), (3, .obj b3 [I 0, S (⟨#[]⟩)])] rfl (Le.of rfl) ?_
 refine CW.seq ?_
 refine CW.region ?_
 refine RW.v rfl (V.field rfl rfl rfl rfl (by decide) rfl) ?_
 refine RW.v rfl (V.loadPrim (d := I a.num) rfl rfl (.inl rfl) rfl rfl rfl) ?_
 refine RW.v rfl (V.field rfl rfl rfl rfl (by decide) rfl) ?_
 refine RW.store (d := I a.num) rfl rfl rfl rfl rfl rfl rfl (Nat.le_of_ble_eq_true rfl) rfl rfl ?_
 refine RW.nil ?_
 refine CW.le [(1, .obj b1 ((Late.c a).map .r)), (2, .obj b2 [I 0, S (⟨#[]⟩)]), (3, .obj b3 [I a.num, S (⟨#[]⟩)])] rfl (Le.of rfl) ?_
 refine CW.seq ?_
 refine CW.region ?_
 refine RW.v rfl (V.field rfl rfl rfl rfl (by decide) rfl) ?_
 refine RW.v rfl (V.loadPrim (d := S a.text) rfl rfl (.inl rfl) rfl rfl rfl) ?_
 refine RW.v rfl (V.field rfl rfl rfl rfl (by decide) rfl) ?_
 refine RW.store (d := S a.text) rfl rfl rfl rfl rfl rfl rfl (Nat.le_of_ble_eq_true rfl) rfl rfl ?_
 refine RW.nil ?_
 refine CW.le [(2, .obj b2 [I 0, S (⟨#[]⟩)]), (3, .obj b3 ((Late.c a).map .r))] rfl (Le.of rfl) ?_
 refine CW.seq ?_
 refine CW.region ?_
 refine RW.v rfl (V.loadAgg rfl rfl rfl rfl rfl (Nat.le_of_ble_eq_true rfl)) ?_
 refine RW.storeAgg (es := ((Late.c a).map .r)) rfl rfl rfl rfl rfl rfl rfl rfl (Nat.le_of_ble_eq_true rfl) rfl ?_
 refine RW.nil ?_
 refine CW.le [(2, .obj b2 ((Late.c a).map .r))] rfl (Le.of rfl) ?_
 refine CW.ret ?_
 exact Post.one (RV.c (f := fun e => (Late.c e).map .w) (e' := a) rfl rfl rfl rfl (DT.v (DT.v DT.e)) (by simp_all)) (AOs.a rfl AOs.e)
set_option maxHeartbeats 4000000 in
theorem laws_toLateS_fn (a : List Late) (hm : a.length ≤ 1048576) (hs : ∀ x ∈ a, okToLate x) : Eng.Fn E.P 47 [.one (.r (sl 2 Late.c a))] (.one (.one (.w (sl 2 Late.c a)))) [.one (.r (sl 2 Late.c a))] := by
 refine Eng.Fn.intro (E := E) (rvs := [.tmp 2]) Try.func47 rfl rfl rfl (by simp [outSlots, moved, rvSlot, sl]) ?_
 intro B g bo
 refine CW.bound (x := .tmp 0) (n := a.length) (AsT.r) (fun hl0 => ?_)
 refine CW.le [(0, .r (sl 2 Late.c a))] rfl (Le.of rfl) ?_
 refine CW.seq ?_
 refine CW.region ?_
 refine RW.v rfl (V.as (d := .r (.v (.slice none 0 0))) rfl rfl) ?_
 refine RW.nil ?_
 refine CW.le [(0, .r (sl 2 Late.c a))] rfl (Le.of rfl) ?_
 refine CW.seq ?_
 refine CW.region ?_
 refine RW.v rfl (V.mv (d := .r (sl 2 Late.c a)) rfl rfl) ?_
 refine RW.v rfl (V.lenT (n := a.length) rfl rfl rfl .r) ?_
 refine RW.makeS (n := a.length) (c := Late.c) Late.z rfl rfl rfl rfl rfl rfl rfl rfl (ZT.v (ZT.v ZT.e)) (by show 24 * a.length ≤ 281474976710656; omega) (by simp only [maxLen]; omega) fun X1 => ?_
 refine RW.assignMove rfl rfl rfl (by decide) (Nat.le_of_ble_eq_true rfl) (Nat.le_of_ble_eq_true rfl) ?_
 refine RW.nil ?_
 refine CW.le [(0, .r (sl 2 Late.c a)), (3, .w (sl 2 Late.c (List.replicate a.length Late.z)) X1)] rfl (Le.of rfl) ?_
 refine CW.seq ?_
 refine CW.seq ?_
 refine CW.region ?_
 refine RW.v rfl (V.as (d := I 0) rfl rfl) ?_
 refine RW.nil ?_
 refine CW.le [(0, .r (sl 2 Late.c a)), (3, .w (sl 2 Late.c (List.replicate a.length Late.z)) X1), (4, I 0)] rfl (Le.of rfl) ?_
 refine CW.block ?_
 refine CW.loopI 23 (fun (i : Nat) => [(0, .r (sl 2 Late.c a)), (3, .w (sl 2 Late.c (a.take i ++ List.replicate (a.length - i) Late.z)) X1), (4, I (i : Int))]) (fun (i : Nat) => i ≤ a.length) (fun (i : Nat) => a.length - i) 0 rfl (Le.c rfl <| Le.c rfl <| Le.c rfl <| Le.e) (by omega) ?_
 rintro i hb
 refine CW.seq ?_
 refine CW.seq ?_
 refine CW.region ?_
 refine RW.v rfl (V.mv (d := I (i : Int)) rfl rfl) ?_
 refine RW.v rfl (V.mv (d := .r (sl 2 Late.c a)) rfl rfl) ?_
 refine RW.v rfl (V.lenT (n := a.length) rfl rfl rfl .r) ?_
 refine RW.v rfl (V.cmpInt rfl rfl rfl rfl) ?_
 refine RW.nil ?_
 refine CW.le [(0, .r (sl 2 Late.c a)), (3, .w (sl 2 Late.c (a.take i ++ List.replicate (a.length - i) Late.z)) X1), (4, I (i : Int)), (11, Bo (decide ((i : Int) < (a.length : Int))))] rfl (Le.of rfl) ?_
 refine CW.cond rfl (fun h2 => ?_) (fun h2 => ?_)
 ·skip
  have hii : i < a.length := by have := h2; simp at this; first | exact this | omega | (simp; done) | (simp; omega)
  obtain ⟨ei, hei⟩ : ∃ e, a[i]? = some e := ⟨_, List.getElem?_eq_getElem hii⟩
  have hdi := drop_get hei
  refine CW.skip ?_
  refine CW.le [(0, .r (sl 2 Late.c a)), (3, .w (sl 2 Late.c (a.take i ++ List.replicate (a.length - i) Late.z)) X1), (4, I (i : Int))] rfl (Le.of rfl) ?_
  refine CW.seq ?_
  refine CW.block ?_
  refine CW.region ?_
  refine RW.v rfl (V.mv (d := .al 3 none 2 ((a.take i ++ List.replicate (a.length - i) Late.z).length) X1 0) rfl rfl) ?_
  refine RW.v rfl (V.mv (d := I (i : Int)) rfl rfl) ?_
  refine RW.v rfl (V.mv (d := .r (sl 2 Late.c a)) rfl rfl) ?_
  refine RW.v rfl (V.mv (d := I (i : Int)) rfl rfl) ?_
  refine RW.v rfl (V.indexS rfl rfl rfl rfl rfl rfl Late.len hei) ?_
  refine RW.v rfl (V.loadAggR rfl rfl rfl rfl (Nat.le_of_ble_eq_true rfl)) ?_
  refine RW.call rfl (laws_toLate_fn ei (hs ei (List.mem_of_getElem? hei))) rfl (.cons (.agg (.cons (.r .r) (.cons (.r .r) (.nil)))) (.nil)) fun g3 => ?_
  refine RW.v rfl (V.indexW rfl rfl rfl rfl rfl rfl rfl (by simp; omega)) ?_
  refine RW.storeS (v := ei) rfl rfl rfl rfl rfl rfl rfl (DW.v (DW.v DW.e)) Late.len (by decide) (by simp; omega) rfl ?_
  refine RW.nil ?_
  refine CW.le [(0, .r (sl 2 Late.c a)), (3, .w (sl 2 Late.c ((a.take i ++ List.replicate (a.length - i) Late.z).set i ei)) X1), (4, I (i : Int))] rfl (Le.of rfl) ?_
  refine CW.region ?_
  refine RW.v rfl (V.mv (d := I (i : Int)) rfl rfl) ?_
  refine RW.v rfl (V.inc rfl rfl rfl hii hl0) ?_
  refine RW.v rfl (V.as (d := I ((i + 1 : Nat) : Int)) rfl rfl) ?_
  refine RW.nil ?_
  exact ⟨i + 1, by omega, by omega, rfl, Le.c rfl <| Le.c (congrArg (fun l => D.w (sl _ Late.c l) X1) (take_set hei)) <| Le.c rfl <| Le.e⟩
 ·skip
  have hii : a.length ≤ i := by have := h2; simp at this; first | exact this | omega | (simp; done) | (simp; omega)
  have hdi : a.drop i = [] := List.drop_eq_nil_of_le hii
  refine CW.exit ?_
  refine CW.le [(3, .w (sl 2 Late.c (a.take i ++ List.replicate (a.length - i) Late.z)) X1)] rfl (Le.of rfl) ?_
  refine CW.seq ?_
  refine CW.region ?_
  refine RW.v rfl (V.mv (d := .al 3 none 2 ((a.take i ++ List.replicate (a.length - i) Late.z).length) X1 0) rfl rfl) ?_
  refine RW.v rfl (V.as (d := .al 3 none 2 ((a.take i ++ List.replicate (a.length - i) Late.z).length) X1 0) rfl rfl) ?_
  refine RW.pullS 2 3 (by decide) rfl rfl ?_
  refine RW.nil ?_
  refine CW.le [(2, .w (sl 2 Late.c (a.take i ++ List.replicate (a.length - i) Late.z)) X1)] rfl (Le.of rfl) ?_
  refine CW.ret ?_
  exact Post.one (RV.w rfl (by rw [List.take_of_length_le hii, show a.length - i = 0 from by omega]; simp)) (AOs.r AOs.e)
set_option maxHeartbeats 4000000 in
theorem laws_toStream_fn (a : Stream) (hs : okToStream a) : Eng.Fn E.P 16 [.agg ((Stream.c a).map .r)] (.one (.agg ((Stream.c a).map .w))) [.agg ((Stream.c a).map .r)] := by
 refine Eng.Fn.intro (E := E) (rvs := [.cell 2 28]) Try.func16 rfl rfl rfl (by simp [outSlots, moved, rvSlot, sl]) ?_
 intro B g bo
 refine CW.le [(0, .agg ((Stream.c a).map .r))] rfl (Le.of rfl) ?_
 refine CW.seq ?_
 refine CW.region ?_
 refine RW.box (ds := ((Stream.c a).map .r)) rfl rfl rfl fun b1 => ?_
 refine RW.alloc (ds := [I 0, I 0, I 0, I 0, S (⟨#[]⟩), I 0, I 0, Bo false, S (⟨#[]⟩), .r (.v (.slice none 0 0)), Bo false, I 0, I 0]) rfl rfl rfl rfl fun b2 => ?_
 refine RW.nil ?_
 refine CW.le [(1, .obj b1 ((Stream.c a).map .r)), (2, .obj b2 [I 0, I 0, I 0, I 0, S (⟨#[]⟩), I 0, I 0, Bo false, S (⟨#[]⟩), .r (.v (.slice none 0 0)), Bo false, I 0, I 0])] rfl (Le.of rfl) ?_
 refine CW.seq ?_
 refine CW.region ?_
 refine RW.alloc (ds := [I 0, I 0, I 0, I 0, S (⟨#[]⟩), I 0, I 0, Bo false, S (⟨#[]⟩), .r (.v (.slice none 0 0)), Bo false, I 0, I 0]) rfl rfl rfl rfl fun b3 => ?_
 refine RW.nil ?_
 refine CW.le [(1, .obj b1 ((Stream.c a).map .r)), (2, .obj b2 [I 0, I 0, I 0, I 0, S (⟨#[]⟩), I 0, I 0, Bo false, S (⟨#[]⟩), .r (.v (.slice none 0 0)), Bo false, I 0, I 0]), (3, .obj b3 [I 0, I 0, I 0, I 0, S (⟨#[]⟩), I 0, I 0, Bo false, S (⟨#[]⟩), .r (.v (.slice none 0 0)), Bo false, I 0, I 0])] rfl (Le.of rfl) ?_
 refine CW.seq ?_
 refine CW.region ?_
 refine RW.v rfl (V.field rfl rfl rfl rfl (by decide) rfl) ?_
 refine RW.v rfl (V.loadPrim (d := I a.state) rfl rfl (.inl rfl) rfl rfl rfl) ?_
 refine RW.v rfl (V.field rfl rfl rfl rfl (by decide) rfl) ?_
 refine RW.store (d := I a.state) rfl rfl rfl rfl rfl rfl rfl (Nat.le_of_ble_eq_true rfl) rfl rfl ?_
 refine RW.nil ?_
 refine CW.le [(1, .obj b1 ((Stream.c a).map .r)), (2, .obj b2 [I 0, I 0, I 0, I 0, S (⟨#[]⟩), I 0, I 0, Bo false, S (⟨#[]⟩), .r (.v (.slice none 0 0)), Bo false, I 0, I 0]), (3, .obj b3 [I a.state, I 0, I 0, I 0, S (⟨#[]⟩), I 0, I 0, Bo false, S (⟨#[]⟩), .r (.v (.slice none 0 0)), Bo false, I 0, I 0])] rfl (Le.of rfl) ?_
 refine CW.seq ?_
 refine CW.region ?_
 refine RW.v rfl (V.field rfl rfl rfl rfl (by decide) rfl) ?_
 refine RW.v rfl (V.loadPrim (d := I a.iss) rfl rfl (.inl rfl) rfl rfl rfl) ?_
 refine RW.v rfl (V.field rfl rfl rfl rfl (by decide) rfl) ?_
 refine RW.store (d := I a.iss) rfl rfl rfl rfl rfl rfl rfl (Nat.le_of_ble_eq_true rfl) rfl rfl ?_
 refine RW.nil ?_
 refine CW.le [(1, .obj b1 ((Stream.c a).map .r)), (2, .obj b2 [I 0, I 0, I 0, I 0, S (⟨#[]⟩), I 0, I 0, Bo false, S (⟨#[]⟩), .r (.v (.slice none 0 0)), Bo false, I 0, I 0]), (3, .obj b3 [I a.state, I a.iss, I 0, I 0, S (⟨#[]⟩), I 0, I 0, Bo false, S (⟨#[]⟩), .r (.v (.slice none 0 0)), Bo false, I 0, I 0])] rfl (Le.of rfl) ?_
 refine CW.seq ?_
 refine CW.region ?_
 refine RW.v rfl (V.field rfl rfl rfl rfl (by decide) rfl) ?_
 refine RW.v rfl (V.loadPrim (d := I a.una) rfl rfl (.inl rfl) rfl rfl rfl) ?_
 refine RW.v rfl (V.field rfl rfl rfl rfl (by decide) rfl) ?_
 refine RW.store (d := I a.una) rfl rfl rfl rfl rfl rfl rfl (Nat.le_of_ble_eq_true rfl) rfl rfl ?_
 refine RW.nil ?_
 refine CW.le [(1, .obj b1 ((Stream.c a).map .r)), (2, .obj b2 [I 0, I 0, I 0, I 0, S (⟨#[]⟩), I 0, I 0, Bo false, S (⟨#[]⟩), .r (.v (.slice none 0 0)), Bo false, I 0, I 0]), (3, .obj b3 [I a.state, I a.iss, I a.una, I 0, S (⟨#[]⟩), I 0, I 0, Bo false, S (⟨#[]⟩), .r (.v (.slice none 0 0)), Bo false, I 0, I 0])] rfl (Le.of rfl) ?_
 refine CW.seq ?_
 refine CW.region ?_
 refine RW.v rfl (V.field rfl rfl rfl rfl (by decide) rfl) ?_
 refine RW.v rfl (V.loadPrim (d := I a.rcv) rfl rfl (.inl rfl) rfl rfl rfl) ?_
 refine RW.v rfl (V.field rfl rfl rfl rfl (by decide) rfl) ?_
 refine RW.store (d := I a.rcv) rfl rfl rfl rfl rfl rfl rfl (Nat.le_of_ble_eq_true rfl) rfl rfl ?_
 refine RW.nil ?_
 refine CW.le [(1, .obj b1 ((Stream.c a).map .r)), (2, .obj b2 [I 0, I 0, I 0, I 0, S (⟨#[]⟩), I 0, I 0, Bo false, S (⟨#[]⟩), .r (.v (.slice none 0 0)), Bo false, I 0, I 0]), (3, .obj b3 [I a.state, I a.iss, I a.una, I a.rcv, S (⟨#[]⟩), I 0, I 0, Bo false, S (⟨#[]⟩), .r (.v (.slice none 0 0)), Bo false, I 0, I 0])] rfl (Le.of rfl) ?_
 refine CW.seq ?_
 refine CW.region ?_
 refine RW.v rfl (V.field rfl rfl rfl rfl (by decide) rfl) ?_
 refine RW.v rfl (V.loadPrim (d := S a.wait) rfl rfl (.inl rfl) rfl rfl rfl) ?_
 refine RW.v rfl (V.field rfl rfl rfl rfl (by decide) rfl) ?_
 refine RW.store (d := S a.wait) rfl rfl rfl rfl rfl rfl rfl (Nat.le_of_ble_eq_true rfl) rfl rfl ?_
 refine RW.nil ?_
 refine CW.le [(1, .obj b1 ((Stream.c a).map .r)), (2, .obj b2 [I 0, I 0, I 0, I 0, S (⟨#[]⟩), I 0, I 0, Bo false, S (⟨#[]⟩), .r (.v (.slice none 0 0)), Bo false, I 0, I 0]), (3, .obj b3 [I a.state, I a.iss, I a.una, I a.rcv, S a.wait, I 0, I 0, Bo false, S (⟨#[]⟩), .r (.v (.slice none 0 0)), Bo false, I 0, I 0])] rfl (Le.of rfl) ?_
 refine CW.seq ?_
 refine CW.region ?_
 refine RW.v rfl (V.field rfl rfl rfl rfl (by decide) rfl) ?_
 refine RW.v rfl (V.loadPrim (d := I a.sent) rfl rfl (.inl rfl) rfl rfl rfl) ?_
 refine RW.v rfl (V.field rfl rfl rfl rfl (by decide) rfl) ?_
 refine RW.store (d := I a.sent) rfl rfl rfl rfl rfl rfl rfl (Nat.le_of_ble_eq_true rfl) rfl rfl ?_
 refine RW.nil ?_
 refine CW.le [(1, .obj b1 ((Stream.c a).map .r)), (2, .obj b2 [I 0, I 0, I 0, I 0, S (⟨#[]⟩), I 0, I 0, Bo false, S (⟨#[]⟩), .r (.v (.slice none 0 0)), Bo false, I 0, I 0]), (3, .obj b3 [I a.state, I a.iss, I a.una, I a.rcv, S a.wait, I a.sent, I 0, Bo false, S (⟨#[]⟩), .r (.v (.slice none 0 0)), Bo false, I 0, I 0])] rfl (Le.of rfl) ?_
 refine CW.seq ?_
 refine CW.region ?_
 refine RW.v rfl (V.field rfl rfl rfl rfl (by decide) rfl) ?_
 refine RW.v rfl (V.loadPrim (d := I a.fin) rfl rfl (.inl rfl) rfl rfl rfl) ?_
 refine RW.v rfl (V.field rfl rfl rfl rfl (by decide) rfl) ?_
 refine RW.store (d := I a.fin) rfl rfl rfl rfl rfl rfl rfl (Nat.le_of_ble_eq_true rfl) rfl rfl ?_
 refine RW.nil ?_
 refine CW.le [(1, .obj b1 ((Stream.c a).map .r)), (2, .obj b2 [I 0, I 0, I 0, I 0, S (⟨#[]⟩), I 0, I 0, Bo false, S (⟨#[]⟩), .r (.v (.slice none 0 0)), Bo false, I 0, I 0]), (3, .obj b3 [I a.state, I a.iss, I a.una, I a.rcv, S a.wait, I a.sent, I a.fin, Bo false, S (⟨#[]⟩), .r (.v (.slice none 0 0)), Bo false, I 0, I 0])] rfl (Le.of rfl) ?_
 refine CW.seq ?_
 refine CW.region ?_
 refine RW.v rfl (V.field rfl rfl rfl rfl (by decide) rfl) ?_
 refine RW.v rfl (V.loadPrim (d := Bo a.peerFin) rfl rfl (.inl rfl) rfl rfl rfl) ?_
 refine RW.v rfl (V.field rfl rfl rfl rfl (by decide) rfl) ?_
 refine RW.store (d := Bo a.peerFin) rfl rfl rfl rfl rfl rfl rfl (Nat.le_of_ble_eq_true rfl) rfl rfl ?_
 refine RW.nil ?_
 refine CW.le [(1, .obj b1 ((Stream.c a).map .r)), (2, .obj b2 [I 0, I 0, I 0, I 0, S (⟨#[]⟩), I 0, I 0, Bo false, S (⟨#[]⟩), .r (.v (.slice none 0 0)), Bo false, I 0, I 0]), (3, .obj b3 [I a.state, I a.iss, I a.una, I a.rcv, S a.wait, I a.sent, I a.fin, Bo a.peerFin, S (⟨#[]⟩), .r (.v (.slice none 0 0)), Bo false, I 0, I 0])] rfl (Le.of rfl) ?_
 refine CW.seq ?_
 refine CW.region ?_
 refine RW.v rfl (V.field rfl rfl rfl rfl (by decide) rfl) ?_
 refine RW.v rfl (V.loadPrim (d := S a.in_) rfl rfl (.inl rfl) rfl rfl rfl) ?_
 refine RW.v rfl (V.field rfl rfl rfl rfl (by decide) rfl) ?_
 refine RW.store (d := S a.in_) rfl rfl rfl rfl rfl rfl rfl (Nat.le_of_ble_eq_true rfl) rfl rfl ?_
 refine RW.nil ?_
 refine CW.le [(1, .obj b1 ((Stream.c a).map .r)), (2, .obj b2 [I 0, I 0, I 0, I 0, S (⟨#[]⟩), I 0, I 0, Bo false, S (⟨#[]⟩), .r (.v (.slice none 0 0)), Bo false, I 0, I 0]), (3, .obj b3 [I a.state, I a.iss, I a.una, I a.rcv, S a.wait, I a.sent, I a.fin, Bo a.peerFin, S a.in_, .r (.v (.slice none 0 0)), Bo false, I 0, I 0])] rfl (Le.of rfl) ?_
 refine CW.seq ?_
 refine CW.region ?_
 refine RW.v rfl (V.field rfl rfl rfl rfl (by decide) rfl) ?_
 refine RW.v rfl (V.loadPrim (d := .r (sl 2 Late.c a.late)) rfl rfl (.inr ⟨_, rfl⟩) rfl rfl rfl) ?_
 refine RW.call rfl (laws_toLateS_fn a.late hs.2.2.1 hs.2.2.2) rfl (.cons (.one (.r .r)) (.nil)) fun g4 => ?_
 refine RW.v rfl (V.field rfl rfl rfl rfl (by decide) rfl) ?_
 refine RW.store (d := .al 33 none 2 a.late.length (g4 0 0) 0) rfl rfl rfl rfl rfl rfl rfl (Nat.le_of_ble_eq_true rfl) rfl rfl ?_
 refine RW.le [(1, .obj b1 ((Stream.c a).map .r)), (2, .obj b2 [I 0, I 0, I 0, I 0, S (⟨#[]⟩), I 0, I 0, Bo false, S (⟨#[]⟩), .r (.v (.slice none 0 0)), Bo false, I 0, I 0]), (3, .obj b3 [I a.state, I a.iss, I a.una, I a.rcv, S a.wait, I a.sent, I a.fin, Bo a.peerFin, S a.in_, .al 33 none 2 a.late.length (g4 0 0) 0, Bo false, I 0, I 0]), (33, .w (sl 2 Late.c a.late) (g4 0 0))] rfl (Le.of rfl) ?_
 refine RW.pullT (k := 3) (l := 33) (j := 9) 3 33 9 rfl rfl rfl (by decide) rfl rfl rfl ?_
 refine RW.le [(1, .obj b1 ((Stream.c a).map .r)), (2, .obj b2 [I 0, I 0, I 0, I 0, S (⟨#[]⟩), I 0, I 0, Bo false, S (⟨#[]⟩), .r (.v (.slice none 0 0)), Bo false, I 0, I 0]), (3, .obj b3 [I a.state, I a.iss, I a.una, I a.rcv, S a.wait, I a.sent, I a.fin, Bo a.peerFin, S a.in_, .w (sl 2 Late.c a.late) (g4 0 0), Bo false, I 0, I 0])] rfl (Le.of rfl) ?_
 refine RW.nil ?_
 refine CW.le [(1, .obj b1 ((Stream.c a).map .r)), (2, .obj b2 [I 0, I 0, I 0, I 0, S (⟨#[]⟩), I 0, I 0, Bo false, S (⟨#[]⟩), .r (.v (.slice none 0 0)), Bo false, I 0, I 0]), (3, .obj b3 [I a.state, I a.iss, I a.una, I a.rcv, S a.wait, I a.sent, I a.fin, Bo a.peerFin, S a.in_, .w (sl 2 Late.c a.late) (g4 0 0), Bo false, I 0, I 0])] rfl (Le.of rfl) ?_
 refine CW.seq ?_
 refine CW.region ?_
 refine RW.v rfl (V.field rfl rfl rfl rfl (by decide) rfl) ?_
 refine RW.v rfl (V.loadPrim (d := Bo a.owe) rfl rfl (.inl rfl) rfl rfl rfl) ?_
 refine RW.v rfl (V.field rfl rfl rfl rfl (by decide) rfl) ?_
 refine RW.store (d := Bo a.owe) rfl rfl rfl rfl rfl rfl rfl (Nat.le_of_ble_eq_true rfl) rfl rfl ?_
 refine RW.nil ?_
 refine CW.le [(1, .obj b1 ((Stream.c a).map .r)), (2, .obj b2 [I 0, I 0, I 0, I 0, S (⟨#[]⟩), I 0, I 0, Bo false, S (⟨#[]⟩), .r (.v (.slice none 0 0)), Bo false, I 0, I 0]), (3, .obj b3 [I a.state, I a.iss, I a.una, I a.rcv, S a.wait, I a.sent, I a.fin, Bo a.peerFin, S a.in_, .w (sl 2 Late.c a.late) (g4 0 0), Bo a.owe, I 0, I 0])] rfl (Le.of rfl) ?_
 refine CW.seq ?_
 refine CW.region ?_
 refine RW.v rfl (V.field rfl rfl rfl rfl (by decide) rfl) ?_
 refine RW.v rfl (V.loadPrim (d := I a.due) rfl rfl (.inl rfl) rfl rfl rfl) ?_
 refine RW.v rfl (V.field rfl rfl rfl rfl (by decide) rfl) ?_
 refine RW.store (d := I a.due) rfl rfl rfl rfl rfl rfl rfl (Nat.le_of_ble_eq_true rfl) rfl rfl ?_
 refine RW.nil ?_
 refine CW.le [(1, .obj b1 ((Stream.c a).map .r)), (2, .obj b2 [I 0, I 0, I 0, I 0, S (⟨#[]⟩), I 0, I 0, Bo false, S (⟨#[]⟩), .r (.v (.slice none 0 0)), Bo false, I 0, I 0]), (3, .obj b3 [I a.state, I a.iss, I a.una, I a.rcv, S a.wait, I a.sent, I a.fin, Bo a.peerFin, S a.in_, .w (sl 2 Late.c a.late) (g4 0 0), Bo a.owe, I a.due, I 0])] rfl (Le.of rfl) ?_
 refine CW.seq ?_
 refine CW.region ?_
 refine RW.v rfl (V.field rfl rfl rfl rfl (by decide) rfl) ?_
 refine RW.v rfl (V.loadPrim (d := I a.times) rfl rfl (.inl rfl) rfl rfl rfl) ?_
 refine RW.v rfl (V.field rfl rfl rfl rfl (by decide) rfl) ?_
 refine RW.store (d := I a.times) rfl rfl rfl rfl rfl rfl rfl (Nat.le_of_ble_eq_true rfl) rfl rfl ?_
 refine RW.nil ?_
 refine CW.le [(2, .obj b2 [I 0, I 0, I 0, I 0, S (⟨#[]⟩), I 0, I 0, Bo false, S (⟨#[]⟩), .r (.v (.slice none 0 0)), Bo false, I 0, I 0]), (3, .obj b3 [I a.state, I a.iss, I a.una, I a.rcv, S a.wait, I a.sent, I a.fin, Bo a.peerFin, S a.in_, .w (sl 2 Late.c a.late) (g4 0 0), Bo a.owe, I a.due, I a.times])] rfl (Le.of rfl) ?_
 refine CW.seq ?_
 refine CW.region ?_
 refine RW.v rfl (V.loadAgg rfl rfl rfl rfl rfl (Nat.le_of_ble_eq_true rfl)) ?_
 refine RW.storeAgg (es := [I a.state, I a.iss, I a.una, I a.rcv, S a.wait, I a.sent, I a.fin, Bo a.peerFin, S a.in_, .al 3 (some 9) 2 a.late.length (g4 0 0) 0, Bo a.owe, I a.due, I a.times]) rfl rfl rfl rfl rfl rfl rfl rfl (Nat.le_of_ble_eq_true rfl) rfl ?_
 refine RW.le [(2, .obj b2 [I a.state, I a.iss, I a.una, I a.rcv, S a.wait, I a.sent, I a.fin, Bo a.peerFin, S a.in_, .al 3 (some 9) 2 a.late.length (g4 0 0) 0, Bo a.owe, I a.due, I a.times]), (3, .obj b3 [I a.state, I a.iss, I a.una, I a.rcv, S a.wait, I a.sent, I a.fin, Bo a.peerFin, S a.in_, .w (sl 2 Late.c a.late) (g4 0 0), Bo a.owe, I a.due, I a.times])] rfl (Le.of rfl) ?_
 refine RW.pullO (k := 2) (l := 3) (j := 9) 2 3 9 rfl rfl rfl (by decide) rfl rfl rfl rfl ?_
 refine RW.le [(2, .obj b2 [I a.state, I a.iss, I a.una, I a.rcv, S a.wait, I a.sent, I a.fin, Bo a.peerFin, S a.in_, .w (sl 2 Late.c a.late) (g4 0 0), Bo a.owe, I a.due, I a.times])] rfl (Le.of rfl) ?_
 refine RW.nil ?_
 refine CW.le [(2, .obj b2 [I a.state, I a.iss, I a.una, I a.rcv, S a.wait, I a.sent, I a.fin, Bo a.peerFin, S a.in_, .w (sl 2 Late.c a.late) (g4 0 0), Bo a.owe, I a.due, I a.times])] rfl (Le.of rfl) ?_
 refine CW.ret ?_
 exact Post.one (RV.c (f := fun e => (Stream.c e).map .w) (e' := a) rfl rfl rfl rfl (DT.v (DT.v (DT.v (DT.v (DT.v (DT.v (DT.v (DT.v (DT.v (DT.w (DT.v (DT.v (DT.v DT.e))))))))))))) (by simp_all)) (AOs.a rfl AOs.e)
set_option maxHeartbeats 4000000 in
theorem laws_toSeg_fn (a : Seg) (hs : okToSeg a) : Eng.Fn E.P 17 [.agg ((Seg.c a).map .r)] (.one (.agg ((Seg.c a).map .w))) [.agg ((Seg.c a).map .r)] := by
 refine Eng.Fn.intro (E := E) (rvs := [.cell 2 36]) Try.func17 rfl rfl rfl (by simp [outSlots, moved, rvSlot, sl]) ?_
 intro B g bo
 refine CW.le [(0, .agg ((Seg.c a).map .r))] rfl (Le.of rfl) ?_
 refine CW.seq ?_
 refine CW.region ?_
 refine RW.box (ds := ((Seg.c a).map .r)) rfl rfl rfl fun b1 => ?_
 refine RW.alloc (ds := [I 0, I 0, I 0, S (⟨#[]⟩)]) rfl rfl rfl rfl fun b2 => ?_
 refine RW.nil ?_
 refine CW.le [(1, .obj b1 ((Seg.c a).map .r)), (2, .obj b2 [I 0, I 0, I 0, S (⟨#[]⟩)])] rfl (Le.of rfl) ?_
 refine CW.seq ?_
 refine CW.region ?_
 refine RW.alloc (ds := [I 0, I 0, I 0, S (⟨#[]⟩)]) rfl rfl rfl rfl fun b3 => ?_
 refine RW.nil ?_
 refine CW.le [(1, .obj b1 ((Seg.c a).map .r)), (2, .obj b2 [I 0, I 0, I 0, S (⟨#[]⟩)]), (3, .obj b3 [I 0, I 0, I 0, S (⟨#[]⟩)])] rfl (Le.of rfl) ?_
 refine CW.seq ?_
 refine CW.region ?_
 refine RW.v rfl (V.field rfl rfl rfl rfl (by decide) rfl) ?_
 refine RW.v rfl (V.loadPrim (d := I a.num) rfl rfl (.inl rfl) rfl rfl rfl) ?_
 refine RW.v rfl (V.field rfl rfl rfl rfl (by decide) rfl) ?_
 refine RW.store (d := I a.num) rfl rfl rfl rfl rfl rfl rfl (Nat.le_of_ble_eq_true rfl) rfl rfl ?_
 refine RW.nil ?_
 refine CW.le [(1, .obj b1 ((Seg.c a).map .r)), (2, .obj b2 [I 0, I 0, I 0, S (⟨#[]⟩)]), (3, .obj b3 [I a.num, I 0, I 0, S (⟨#[]⟩)])] rfl (Le.of rfl) ?_
 refine CW.seq ?_
 refine CW.region ?_
 refine RW.v rfl (V.field rfl rfl rfl rfl (by decide) rfl) ?_
 refine RW.v rfl (V.loadPrim (d := I a.ack) rfl rfl (.inl rfl) rfl rfl rfl) ?_
 refine RW.v rfl (V.field rfl rfl rfl rfl (by decide) rfl) ?_
 refine RW.store (d := I a.ack) rfl rfl rfl rfl rfl rfl rfl (Nat.le_of_ble_eq_true rfl) rfl rfl ?_
 refine RW.nil ?_
 refine CW.le [(1, .obj b1 ((Seg.c a).map .r)), (2, .obj b2 [I 0, I 0, I 0, S (⟨#[]⟩)]), (3, .obj b3 [I a.num, I a.ack, I 0, S (⟨#[]⟩)])] rfl (Le.of rfl) ?_
 refine CW.seq ?_
 refine CW.region ?_
 refine RW.v rfl (V.field rfl rfl rfl rfl (by decide) rfl) ?_
 refine RW.v rfl (V.loadPrim (d := I a.flags) rfl rfl (.inl rfl) rfl rfl rfl) ?_
 refine RW.v rfl (V.field rfl rfl rfl rfl (by decide) rfl) ?_
 refine RW.store (d := I a.flags) rfl rfl rfl rfl rfl rfl rfl (Nat.le_of_ble_eq_true rfl) rfl rfl ?_
 refine RW.nil ?_
 refine CW.le [(1, .obj b1 ((Seg.c a).map .r)), (2, .obj b2 [I 0, I 0, I 0, S (⟨#[]⟩)]), (3, .obj b3 [I a.num, I a.ack, I a.flags, S (⟨#[]⟩)])] rfl (Le.of rfl) ?_
 refine CW.seq ?_
 refine CW.region ?_
 refine RW.v rfl (V.field rfl rfl rfl rfl (by decide) rfl) ?_
 refine RW.v rfl (V.loadPrim (d := S a.body) rfl rfl (.inl rfl) rfl rfl rfl) ?_
 refine RW.v rfl (V.field rfl rfl rfl rfl (by decide) rfl) ?_
 refine RW.store (d := S a.body) rfl rfl rfl rfl rfl rfl rfl (Nat.le_of_ble_eq_true rfl) rfl rfl ?_
 refine RW.nil ?_
 refine CW.le [(2, .obj b2 [I 0, I 0, I 0, S (⟨#[]⟩)]), (3, .obj b3 ((Seg.c a).map .r))] rfl (Le.of rfl) ?_
 refine CW.seq ?_
 refine CW.region ?_
 refine RW.v rfl (V.loadAgg rfl rfl rfl rfl rfl (Nat.le_of_ble_eq_true rfl)) ?_
 refine RW.storeAgg (es := ((Seg.c a).map .r)) rfl rfl rfl rfl rfl rfl rfl rfl (Nat.le_of_ble_eq_true rfl) rfl ?_
 refine RW.nil ?_
 refine CW.le [(2, .obj b2 ((Seg.c a).map .r))] rfl (Le.of rfl) ?_
 refine CW.ret ?_
 exact Post.one (RV.c (f := fun e => (Seg.c e).map .w) (e' := a) rfl rfl rfl rfl (DT.v (DT.v (DT.v (DT.v DT.e)))) (by simp_all)) (AOs.a rfl AOs.e)
set_option maxHeartbeats 4000000 in
theorem laws_eqLate_fn (a : Late) (b : Late) : Eng.Fn E.P 77 [.agg ((Late.c a).map .r), .agg ((Late.c b).map .r)] (.one (.one (.w (.v (.bool (eqLate a b)))))) [.agg ((Late.c a).map .r), .agg ((Late.c b).map .r)] := by
 refine Eng.Fn.intro (E := E) (rvs := [.tmp 4]) Try.func77 rfl rfl rfl (by simp [outSlots, moved, rvSlot, sl]) ?_
 intro B g bo
 refine CW.le [(0, .agg ((Late.c a).map .r)), (1, .agg ((Late.c b).map .r))] rfl (Le.of rfl) ?_
 refine CW.seq ?_
 refine CW.region ?_
 refine RW.box (ds := ((Late.c a).map .r)) rfl rfl rfl fun b1 => ?_
 refine RW.box (ds := ((Late.c b).map .r)) rfl rfl rfl fun b2 => ?_
 refine RW.v rfl (V.as (d := Bo false) rfl rfl) ?_
 refine RW.nil ?_
 refine CW.le [(2, .obj b1 ((Late.c a).map .r)), (3, .obj b2 ((Late.c b).map .r))] rfl (Le.of rfl) ?_
 refine CW.seq ?_
 refine CW.seq ?_
 refine CW.region ?_
 refine RW.v rfl (V.field rfl rfl rfl rfl (by decide) rfl) ?_
 refine RW.v rfl (V.loadPrim (d := I a.num) rfl rfl (.inl rfl) rfl rfl rfl) ?_
 refine RW.v rfl (V.field rfl rfl rfl rfl (by decide) rfl) ?_
 refine RW.v rfl (V.loadPrim (d := I b.num) rfl rfl (.inl rfl) rfl rfl rfl) ?_
 refine RW.v rfl (V.cmpInt rfl rfl rfl rfl) ?_
 refine RW.nil ?_
 refine CW.le [(2, .obj b1 ((Late.c a).map .r)), (3, .obj b2 ((Late.c b).map .r)), (9, Bo (a.num != b.num))] rfl (Le.of rfl) ?_
 refine CW.cond rfl (fun h3 => ?_) (fun h3 => ?_)
 ·skip
  refine CW.seq ?_
  refine CW.region ?_
  refine RW.v rfl (V.as (d := Bo false) rfl rfl) ?_
  refine RW.nil ?_
  refine CW.le [(4, Bo false)] rfl (Le.of rfl) ?_
  refine CW.ret ?_
  exact Post.one (RV.b rfl (by simp_all [eqLate])) (AOs.a rfl (AOs.a rfl AOs.e))
 ·skip
  refine CW.skip ?_
  refine CW.le [(2, .obj b1 ((Late.c a).map .r)), (3, .obj b2 ((Late.c b).map .r))] rfl (Le.of rfl) ?_
  refine CW.seq ?_
  refine CW.seq ?_
  refine CW.region ?_
  refine RW.v rfl (V.field rfl rfl rfl rfl (by decide) rfl) ?_
  refine RW.v rfl (V.loadPrim (d := S a.text) rfl rfl (.inl rfl) rfl rfl rfl) ?_
  refine RW.v rfl (V.field rfl rfl rfl rfl (by decide) rfl) ?_
  refine RW.v rfl (V.loadPrim (d := S b.text) rfl rfl (.inl rfl) rfl rfl rfl) ?_
  refine RW.v rfl (V.strCmp rfl rfl rfl rfl) ?_
  refine RW.nil ?_
  refine CW.le [(14, Bo (!(a.text.toList == b.text.toList)))] rfl (Le.of rfl) ?_
  refine CW.cond rfl (fun h4 => ?_) (fun h4 => ?_)
  ·skip
   refine CW.seq ?_
   refine CW.region ?_
   refine RW.v rfl (V.as (d := Bo false) rfl rfl) ?_
   refine RW.nil ?_
   refine CW.le [(4, Bo false)] rfl (Le.of rfl) ?_
   refine CW.ret ?_
   exact Post.one (RV.b rfl (by simp_all [eqLate])) (AOs.a rfl (AOs.a rfl AOs.e))
  ·skip
   refine CW.skip ?_
   refine CW.le [] rfl (Le.of rfl) ?_
   refine CW.seq ?_
   refine CW.region ?_
   refine RW.v rfl (V.as (d := Bo true) rfl rfl) ?_
   refine RW.nil ?_
   refine CW.le [(4, Bo true)] rfl (Le.of rfl) ?_
   refine CW.ret ?_
   exact Post.one (RV.b rfl (by simp_all [eqLate])) (AOs.a rfl (AOs.a rfl AOs.e))
set_option maxHeartbeats 4000000 in
theorem laws_eqLateS_fn (a : List Late) (b : List Late) : Eng.Fn E.P 48 [.one (.r (sl 2 Late.c a)), .one (.r (sl 2 Late.c b))] (.one (.one (.w (.v (.bool (eqS eqLate a b)))))) [.one (.r (sl 2 Late.c a)), .one (.r (sl 2 Late.c b))] := by
 refine Eng.Fn.intro (E := E) (rvs := [.tmp 4]) Try.func48 rfl rfl rfl (by simp [outSlots, moved, rvSlot, sl]) ?_
 intro B g bo
 refine CW.bound (x := .tmp 0) (n := a.length) (AsT.r) (fun hl0 => ?_)
 refine CW.bound (x := .tmp 1) (n := b.length) (AsT.r) (fun hl1 => ?_)
 refine CW.le [(0, .r (sl 2 Late.c a)), (1, .r (sl 2 Late.c b))] rfl (Le.of rfl) ?_
 refine CW.seq ?_
 refine CW.region ?_
 refine RW.v rfl (V.as (d := Bo false) rfl rfl) ?_
 refine RW.nil ?_
 refine CW.le [(0, .r (sl 2 Late.c a)), (1, .r (sl 2 Late.c b))] rfl (Le.of rfl) ?_
 refine CW.seq ?_
 refine CW.seq ?_
 refine CW.region ?_
 refine RW.v rfl (V.mv (d := .r (sl 2 Late.c a)) rfl rfl) ?_
 refine RW.v rfl (V.lenT (n := a.length) rfl rfl rfl .r) ?_
 refine RW.v rfl (V.mv (d := .r (sl 2 Late.c b)) rfl rfl) ?_
 refine RW.v rfl (V.lenT (n := b.length) rfl rfl rfl .r) ?_
 refine RW.v rfl (V.cmpInt rfl rfl rfl rfl) ?_
 refine RW.nil ?_
 refine CW.le [(0, .r (sl 2 Late.c a)), (1, .r (sl 2 Late.c b)), (10, Bo ((a.length : Int) != (b.length : Int)))] rfl (Le.of rfl) ?_
 refine CW.cond rfl (fun h1 => ?_) (fun h1 => ?_)
 ·skip
  refine CW.seq ?_
  refine CW.region ?_
  refine RW.v rfl (V.as (d := Bo false) rfl rfl) ?_
  refine RW.nil ?_
  refine CW.le [(4, Bo false)] rfl (Le.of rfl) ?_
  refine CW.ret ?_
  exact Post.one (RV.b rfl (by first | (simp_all [eqS, eqI, eqStr, eqB]; done) | exact (eqS_ne (by simp_all; omega)).symm)) (AOs.r (AOs.r AOs.e))
 ·skip
  refine CW.skip ?_
  refine CW.le [(0, .r (sl 2 Late.c a)), (1, .r (sl 2 Late.c b))] rfl (Le.of rfl) ?_
  refine CW.seq ?_
  refine CW.seq ?_
  refine CW.region ?_
  refine RW.v rfl (V.as (d := I 0) rfl rfl) ?_
  refine RW.nil ?_
  refine CW.le [(0, .r (sl 2 Late.c a)), (1, .r (sl 2 Late.c b)), (5, I 0)] rfl (Le.of rfl) ?_
  refine CW.block ?_
  refine CW.loopI 27 (fun (i : Nat) => [(0, .r (sl 2 Late.c a)), (1, .r (sl 2 Late.c b)), (5, I (i : Int))]) (fun (i : Nat) => i ≤ a.length ∧ eqS eqLate (a.drop i) (b.drop i) = eqS eqLate a b) (fun (i : Nat) => a.length - i) 0 rfl (Le.c rfl <| Le.c rfl <| Le.c rfl <| Le.e) ⟨by omega, by simp⟩ ?_
  rintro i ⟨hb, hr⟩
  have hlen : a.length = b.length := by simp at h1; omega
  refine CW.seq ?_
  refine CW.seq ?_
  refine CW.region ?_
  refine RW.v rfl (V.mv (d := I (i : Int)) rfl rfl) ?_
  refine RW.v rfl (V.mv (d := .r (sl 2 Late.c a)) rfl rfl) ?_
  refine RW.v rfl (V.lenT (n := a.length) rfl rfl rfl .r) ?_
  refine RW.v rfl (V.cmpInt rfl rfl rfl rfl) ?_
  refine RW.nil ?_
  refine CW.le [(0, .r (sl 2 Late.c a)), (1, .r (sl 2 Late.c b)), (5, I (i : Int)), (14, Bo (decide ((i : Int) < (a.length : Int))))] rfl (Le.of rfl) ?_
  refine CW.cond rfl (fun h2 => ?_) (fun h2 => ?_)
  ·skip
   have hii : i < a.length := by have := h2; simp at this; first | exact this | omega | (simp; done) | (simp; omega)
   obtain ⟨ei, hei⟩ : ∃ e, a[i]? = some e := ⟨_, List.getElem?_eq_getElem hii⟩
   have hdi := drop_get hei
   have hib : i < b.length := by omega
   obtain ⟨eb, heb⟩ : ∃ e, b[i]? = some e := ⟨_, List.getElem?_eq_getElem hib⟩
   have hdb := drop_get heb
   refine CW.skip ?_
   refine CW.le [(0, .r (sl 2 Late.c a)), (1, .r (sl 2 Late.c b)), (5, I (i : Int))] rfl (Le.of rfl) ?_
   refine CW.seq ?_
   refine CW.block ?_
   refine CW.seq ?_
   refine CW.drawn (by kernel_rfl) ?_
   refine RQ.v rfl (V.mv (d := .r (sl 2 Late.c a)) rfl rfl) ?_
   refine RQ.v rfl (V.mv (d := I (i : Int)) rfl rfl) ?_
   refine RQ.v rfl (V.indexS rfl rfl rfl rfl rfl rfl Late.len hei) ?_
   refine RQ.v rfl (V.loadAggR rfl rfl rfl rfl (Nat.le_of_ble_eq_true rfl)) ?_
   refine RQ.v rfl (V.mv (d := .r (sl 2 Late.c b)) rfl rfl) ?_
   refine RQ.v rfl (V.mv (d := I (i : Int)) rfl rfl) ?_
   refine RQ.v rfl (V.indexS rfl rfl rfl rfl rfl rfl Late.len heb) ?_
   refine RQ.v rfl (V.loadAggR rfl rfl rfl rfl (Nat.le_of_ble_eq_true rfl)) ?_
   refine RQ.cons rfl (QOK.call (laws_eqLate_fn ei eb) rfl (.cons (.agg (.cons (.r .r) (.cons (.r .r) (.nil)))) (.cons (.agg (.cons (.r .r) (.cons (.r .r) (.nil)))) (.nil))) ?_)
   refine RQ.v rfl (V.not rfl rfl) ?_
   refine RQ.nil ?_
   refine CW.le [(0, .r (sl 2 Late.c a)), (1, .r (sl 2 Late.c b)), (5, I (i : Int)), (26, Bo (!(eqLate ei eb)))] rfl (Le.of rfl) ?_
   refine CW.cond rfl (fun h3 => ?_) (fun h3 => ?_)
   ·skip
    refine CW.seq ?_
    refine CW.region ?_
    refine RW.v rfl (V.as (d := Bo false) rfl rfl) ?_
    refine RW.nil ?_
    refine CW.le [(4, Bo false)] rfl (Le.of rfl) ?_
    refine CW.ret ?_
    exact Post.one (RV.b rfl (by first | (simp_all [eqS, eqI, eqStr, eqB]; done) | exact (eqS_ne (by simp_all; omega)).symm)) (AOs.r (AOs.r AOs.e))
   ·skip
    refine CW.skip ?_
    refine CW.le [(0, .r (sl 2 Late.c a)), (1, .r (sl 2 Late.c b)), (5, I (i : Int))] rfl (Le.of rfl) ?_
    refine CW.region ?_
    refine RW.v rfl (V.mv (d := I (i : Int)) rfl rfl) ?_
    refine RW.v rfl (V.inc rfl rfl rfl hii hl0) ?_
    refine RW.v rfl (V.as (d := I ((i + 1 : Nat) : Int)) rfl rfl) ?_
    refine RW.nil ?_
    exact ⟨i + 1, by omega, ⟨by omega, by simp_all [eqS, eqI, eqStr, eqB]⟩, rfl, Le.c rfl <| Le.c rfl <| Le.c rfl <| Le.e⟩
  ·skip
   have hii : a.length ≤ i := by have := h2; simp at this; first | exact this | omega | (simp; done) | (simp; omega)
   have hdi : a.drop i = [] := List.drop_eq_nil_of_le hii
   refine CW.exit ?_
   refine CW.le [] rfl (Le.of rfl) ?_
   refine CW.seq ?_
   refine CW.region ?_
   refine RW.v rfl (V.as (d := Bo true) rfl rfl) ?_
   refine RW.nil ?_
   refine CW.le [(4, Bo true)] rfl (Le.of rfl) ?_
   refine CW.ret ?_
   exact Post.one (RV.b rfl (by rw [← hr, hdi, List.drop_eq_nil_of_le (show b.length ≤ i by omega)]; rfl)) (AOs.r (AOs.r AOs.e))
set_option maxHeartbeats 4000000 in
theorem laws_eqStream_fn (a : Stream) (b : Stream) : Eng.Fn E.P 18 [.agg ((Stream.c a).map .r), .agg ((Stream.c b).map .r)] (.one (.one (.w (.v (.bool (eqStream a b)))))) [.agg ((Stream.c a).map .r), .agg ((Stream.c b).map .r)] := by
 refine Eng.Fn.intro (E := E) (rvs := [.tmp 4]) Try.func18 rfl rfl rfl (by simp [outSlots, moved, rvSlot, sl]) ?_
 intro B g bo
 refine CW.le [(0, .agg ((Stream.c a).map .r)), (1, .agg ((Stream.c b).map .r))] rfl (Le.of rfl) ?_
 refine CW.seq ?_
 refine CW.region ?_
 refine RW.box (ds := ((Stream.c a).map .r)) rfl rfl rfl fun b1 => ?_
 refine RW.box (ds := ((Stream.c b).map .r)) rfl rfl rfl fun b2 => ?_
 refine RW.v rfl (V.as (d := Bo false) rfl rfl) ?_
 refine RW.nil ?_
 refine CW.le [(2, .obj b1 ((Stream.c a).map .r)), (3, .obj b2 ((Stream.c b).map .r))] rfl (Le.of rfl) ?_
 refine CW.seq ?_
 refine CW.seq ?_
 refine CW.region ?_
 refine RW.v rfl (V.field rfl rfl rfl rfl (by decide) rfl) ?_
 refine RW.v rfl (V.loadPrim (d := I a.state) rfl rfl (.inl rfl) rfl rfl rfl) ?_
 refine RW.v rfl (V.field rfl rfl rfl rfl (by decide) rfl) ?_
 refine RW.v rfl (V.loadPrim (d := I b.state) rfl rfl (.inl rfl) rfl rfl rfl) ?_
 refine RW.v rfl (V.cmpInt rfl rfl rfl rfl) ?_
 refine RW.nil ?_
 refine CW.le [(2, .obj b1 ((Stream.c a).map .r)), (3, .obj b2 ((Stream.c b).map .r)), (9, Bo (a.state != b.state))] rfl (Le.of rfl) ?_
 refine CW.cond rfl (fun h3 => ?_) (fun h3 => ?_)
 ·skip
  refine CW.seq ?_
  refine CW.region ?_
  refine RW.v rfl (V.as (d := Bo false) rfl rfl) ?_
  refine RW.nil ?_
  refine CW.le [(4, Bo false)] rfl (Le.of rfl) ?_
  refine CW.ret ?_
  exact Post.one (RV.b rfl (by simp_all [eqStream])) (AOs.a rfl (AOs.a rfl AOs.e))
 ·skip
  refine CW.skip ?_
  refine CW.le [(2, .obj b1 ((Stream.c a).map .r)), (3, .obj b2 ((Stream.c b).map .r))] rfl (Le.of rfl) ?_
  refine CW.seq ?_
  refine CW.seq ?_
  refine CW.region ?_
  refine RW.v rfl (V.field rfl rfl rfl rfl (by decide) rfl) ?_
  refine RW.v rfl (V.loadPrim (d := I a.iss) rfl rfl (.inl rfl) rfl rfl rfl) ?_
  refine RW.v rfl (V.field rfl rfl rfl rfl (by decide) rfl) ?_
  refine RW.v rfl (V.loadPrim (d := I b.iss) rfl rfl (.inl rfl) rfl rfl rfl) ?_
  refine RW.v rfl (V.cmpInt rfl rfl rfl rfl) ?_
  refine RW.nil ?_
  refine CW.le [(2, .obj b1 ((Stream.c a).map .r)), (3, .obj b2 ((Stream.c b).map .r)), (14, Bo (a.iss != b.iss))] rfl (Le.of rfl) ?_
  refine CW.cond rfl (fun h4 => ?_) (fun h4 => ?_)
  ·skip
   refine CW.seq ?_
   refine CW.region ?_
   refine RW.v rfl (V.as (d := Bo false) rfl rfl) ?_
   refine RW.nil ?_
   refine CW.le [(4, Bo false)] rfl (Le.of rfl) ?_
   refine CW.ret ?_
   exact Post.one (RV.b rfl (by simp_all [eqStream])) (AOs.a rfl (AOs.a rfl AOs.e))
  ·skip
   refine CW.skip ?_
   refine CW.le [(2, .obj b1 ((Stream.c a).map .r)), (3, .obj b2 ((Stream.c b).map .r))] rfl (Le.of rfl) ?_
   refine CW.seq ?_
   refine CW.seq ?_
   refine CW.region ?_
   refine RW.v rfl (V.field rfl rfl rfl rfl (by decide) rfl) ?_
   refine RW.v rfl (V.loadPrim (d := I a.una) rfl rfl (.inl rfl) rfl rfl rfl) ?_
   refine RW.v rfl (V.field rfl rfl rfl rfl (by decide) rfl) ?_
   refine RW.v rfl (V.loadPrim (d := I b.una) rfl rfl (.inl rfl) rfl rfl rfl) ?_
   refine RW.v rfl (V.cmpInt rfl rfl rfl rfl) ?_
   refine RW.nil ?_
   refine CW.le [(2, .obj b1 ((Stream.c a).map .r)), (3, .obj b2 ((Stream.c b).map .r)), (19, Bo (a.una != b.una))] rfl (Le.of rfl) ?_
   refine CW.cond rfl (fun h5 => ?_) (fun h5 => ?_)
   ·skip
    refine CW.seq ?_
    refine CW.region ?_
    refine RW.v rfl (V.as (d := Bo false) rfl rfl) ?_
    refine RW.nil ?_
    refine CW.le [(4, Bo false)] rfl (Le.of rfl) ?_
    refine CW.ret ?_
    exact Post.one (RV.b rfl (by simp_all [eqStream])) (AOs.a rfl (AOs.a rfl AOs.e))
   ·skip
    refine CW.skip ?_
    refine CW.le [(2, .obj b1 ((Stream.c a).map .r)), (3, .obj b2 ((Stream.c b).map .r))] rfl (Le.of rfl) ?_
    refine CW.seq ?_
    refine CW.seq ?_
    refine CW.region ?_
    refine RW.v rfl (V.field rfl rfl rfl rfl (by decide) rfl) ?_
    refine RW.v rfl (V.loadPrim (d := I a.rcv) rfl rfl (.inl rfl) rfl rfl rfl) ?_
    refine RW.v rfl (V.field rfl rfl rfl rfl (by decide) rfl) ?_
    refine RW.v rfl (V.loadPrim (d := I b.rcv) rfl rfl (.inl rfl) rfl rfl rfl) ?_
    refine RW.v rfl (V.cmpInt rfl rfl rfl rfl) ?_
    refine RW.nil ?_
    refine CW.le [(2, .obj b1 ((Stream.c a).map .r)), (3, .obj b2 ((Stream.c b).map .r)), (24, Bo (a.rcv != b.rcv))] rfl (Le.of rfl) ?_
    refine CW.cond rfl (fun h6 => ?_) (fun h6 => ?_)
    ·skip
     refine CW.seq ?_
     refine CW.region ?_
     refine RW.v rfl (V.as (d := Bo false) rfl rfl) ?_
     refine RW.nil ?_
     refine CW.le [(4, Bo false)] rfl (Le.of rfl) ?_
     refine CW.ret ?_
     exact Post.one (RV.b rfl (by simp_all [eqStream])) (AOs.a rfl (AOs.a rfl AOs.e))
    ·skip
     refine CW.skip ?_
     refine CW.le [(2, .obj b1 ((Stream.c a).map .r)), (3, .obj b2 ((Stream.c b).map .r))] rfl (Le.of rfl) ?_
     refine CW.seq ?_
     refine CW.seq ?_
     refine CW.region ?_
     refine RW.v rfl (V.field rfl rfl rfl rfl (by decide) rfl) ?_
     refine RW.v rfl (V.loadPrim (d := S a.wait) rfl rfl (.inl rfl) rfl rfl rfl) ?_
     refine RW.v rfl (V.field rfl rfl rfl rfl (by decide) rfl) ?_
     refine RW.v rfl (V.loadPrim (d := S b.wait) rfl rfl (.inl rfl) rfl rfl rfl) ?_
     refine RW.v rfl (V.strCmp rfl rfl rfl rfl) ?_
     refine RW.nil ?_
     refine CW.le [(2, .obj b1 ((Stream.c a).map .r)), (3, .obj b2 ((Stream.c b).map .r)), (29, Bo (!(a.wait.toList == b.wait.toList)))] rfl (Le.of rfl) ?_
     refine CW.cond rfl (fun h7 => ?_) (fun h7 => ?_)
     ·skip
      refine CW.seq ?_
      refine CW.region ?_
      refine RW.v rfl (V.as (d := Bo false) rfl rfl) ?_
      refine RW.nil ?_
      refine CW.le [(4, Bo false)] rfl (Le.of rfl) ?_
      refine CW.ret ?_
      exact Post.one (RV.b rfl (by simp_all [eqStream])) (AOs.a rfl (AOs.a rfl AOs.e))
     ·skip
      refine CW.skip ?_
      refine CW.le [(2, .obj b1 ((Stream.c a).map .r)), (3, .obj b2 ((Stream.c b).map .r))] rfl (Le.of rfl) ?_
      refine CW.seq ?_
      refine CW.seq ?_
      refine CW.region ?_
      refine RW.v rfl (V.field rfl rfl rfl rfl (by decide) rfl) ?_
      refine RW.v rfl (V.loadPrim (d := I a.sent) rfl rfl (.inl rfl) rfl rfl rfl) ?_
      refine RW.v rfl (V.field rfl rfl rfl rfl (by decide) rfl) ?_
      refine RW.v rfl (V.loadPrim (d := I b.sent) rfl rfl (.inl rfl) rfl rfl rfl) ?_
      refine RW.v rfl (V.cmpInt rfl rfl rfl rfl) ?_
      refine RW.nil ?_
      refine CW.le [(2, .obj b1 ((Stream.c a).map .r)), (3, .obj b2 ((Stream.c b).map .r)), (34, Bo (a.sent != b.sent))] rfl (Le.of rfl) ?_
      refine CW.cond rfl (fun h8 => ?_) (fun h8 => ?_)
      ·skip
       refine CW.seq ?_
       refine CW.region ?_
       refine RW.v rfl (V.as (d := Bo false) rfl rfl) ?_
       refine RW.nil ?_
       refine CW.le [(4, Bo false)] rfl (Le.of rfl) ?_
       refine CW.ret ?_
       exact Post.one (RV.b rfl (by simp_all [eqStream])) (AOs.a rfl (AOs.a rfl AOs.e))
      ·skip
       refine CW.skip ?_
       refine CW.le [(2, .obj b1 ((Stream.c a).map .r)), (3, .obj b2 ((Stream.c b).map .r))] rfl (Le.of rfl) ?_
       refine CW.seq ?_
       refine CW.seq ?_
       refine CW.region ?_
       refine RW.v rfl (V.field rfl rfl rfl rfl (by decide) rfl) ?_
       refine RW.v rfl (V.loadPrim (d := I a.fin) rfl rfl (.inl rfl) rfl rfl rfl) ?_
       refine RW.v rfl (V.field rfl rfl rfl rfl (by decide) rfl) ?_
       refine RW.v rfl (V.loadPrim (d := I b.fin) rfl rfl (.inl rfl) rfl rfl rfl) ?_
       refine RW.v rfl (V.cmpInt rfl rfl rfl rfl) ?_
       refine RW.nil ?_
       refine CW.le [(2, .obj b1 ((Stream.c a).map .r)), (3, .obj b2 ((Stream.c b).map .r)), (39, Bo (a.fin != b.fin))] rfl (Le.of rfl) ?_
       refine CW.cond rfl (fun h9 => ?_) (fun h9 => ?_)
       ·skip
        refine CW.seq ?_
        refine CW.region ?_
        refine RW.v rfl (V.as (d := Bo false) rfl rfl) ?_
        refine RW.nil ?_
        refine CW.le [(4, Bo false)] rfl (Le.of rfl) ?_
        refine CW.ret ?_
        exact Post.one (RV.b rfl (by simp_all [eqStream])) (AOs.a rfl (AOs.a rfl AOs.e))
       ·skip
        refine CW.skip ?_
        refine CW.le [(2, .obj b1 ((Stream.c a).map .r)), (3, .obj b2 ((Stream.c b).map .r))] rfl (Le.of rfl) ?_
        refine CW.seq ?_
        refine CW.seq ?_
        refine CW.region ?_
        refine RW.v rfl (V.field rfl rfl rfl rfl (by decide) rfl) ?_
        refine RW.v rfl (V.loadPrim (d := Bo a.peerFin) rfl rfl (.inl rfl) rfl rfl rfl) ?_
        refine RW.v rfl (V.field rfl rfl rfl rfl (by decide) rfl) ?_
        refine RW.v rfl (V.loadPrim (d := Bo b.peerFin) rfl rfl (.inl rfl) rfl rfl rfl) ?_
        refine RW.v rfl (V.eqBool rfl rfl rfl (by kernel_rfl) (.inr ⟨rfl, rfl⟩)) ?_
        refine RW.nil ?_
        refine CW.le [(2, .obj b1 ((Stream.c a).map .r)), (3, .obj b2 ((Stream.c b).map .r)), (44, Bo (!(a.peerFin == b.peerFin)))] rfl (Le.of rfl) ?_
        refine CW.cond rfl (fun h10 => ?_) (fun h10 => ?_)
        ·skip
         refine CW.seq ?_
         refine CW.region ?_
         refine RW.v rfl (V.as (d := Bo false) rfl rfl) ?_
         refine RW.nil ?_
         refine CW.le [(4, Bo false)] rfl (Le.of rfl) ?_
         refine CW.ret ?_
         exact Post.one (RV.b rfl (by simp_all [eqStream])) (AOs.a rfl (AOs.a rfl AOs.e))
        ·skip
         refine CW.skip ?_
         refine CW.le [(2, .obj b1 ((Stream.c a).map .r)), (3, .obj b2 ((Stream.c b).map .r))] rfl (Le.of rfl) ?_
         refine CW.seq ?_
         refine CW.seq ?_
         refine CW.region ?_
         refine RW.v rfl (V.field rfl rfl rfl rfl (by decide) rfl) ?_
         refine RW.v rfl (V.loadPrim (d := S a.in_) rfl rfl (.inl rfl) rfl rfl rfl) ?_
         refine RW.v rfl (V.field rfl rfl rfl rfl (by decide) rfl) ?_
         refine RW.v rfl (V.loadPrim (d := S b.in_) rfl rfl (.inl rfl) rfl rfl rfl) ?_
         refine RW.v rfl (V.strCmp rfl rfl rfl rfl) ?_
         refine RW.nil ?_
         refine CW.le [(2, .obj b1 ((Stream.c a).map .r)), (3, .obj b2 ((Stream.c b).map .r)), (49, Bo (!(a.in_.toList == b.in_.toList)))] rfl (Le.of rfl) ?_
         refine CW.cond rfl (fun h11 => ?_) (fun h11 => ?_)
         ·skip
          refine CW.seq ?_
          refine CW.region ?_
          refine RW.v rfl (V.as (d := Bo false) rfl rfl) ?_
          refine RW.nil ?_
          refine CW.le [(4, Bo false)] rfl (Le.of rfl) ?_
          refine CW.ret ?_
          exact Post.one (RV.b rfl (by simp_all [eqStream])) (AOs.a rfl (AOs.a rfl AOs.e))
         ·skip
          refine CW.skip ?_
          refine CW.le [(2, .obj b1 ((Stream.c a).map .r)), (3, .obj b2 ((Stream.c b).map .r))] rfl (Le.of rfl) ?_
          refine CW.seq ?_
          refine CW.seq ?_
          refine CW.region ?_
          refine RW.v rfl (V.field rfl rfl rfl rfl (by decide) rfl) ?_
          refine RW.v rfl (V.loadPrim (d := .r (sl 2 Late.c a.late)) rfl rfl (.inr ⟨_, rfl⟩) rfl rfl rfl) ?_
          refine RW.v rfl (V.field rfl rfl rfl rfl (by decide) rfl) ?_
          refine RW.v rfl (V.loadPrim (d := .r (sl 2 Late.c b.late)) rfl rfl (.inr ⟨_, rfl⟩) rfl rfl rfl) ?_
          refine RW.call rfl (laws_eqLateS_fn a.late b.late) rfl (.cons (.one (.r .r)) (.cons (.one (.r .r)) (.nil))) fun g12 => ?_
          refine RW.v rfl (V.not rfl rfl) ?_
          refine RW.nil ?_
          refine CW.le [(2, .obj b1 ((Stream.c a).map .r)), (3, .obj b2 ((Stream.c b).map .r)), (55, Bo (!(eqS eqLate a.late b.late)))] rfl (Le.of rfl) ?_
          refine CW.cond rfl (fun h13 => ?_) (fun h13 => ?_)
          ·skip
           refine CW.seq ?_
           refine CW.region ?_
           refine RW.v rfl (V.as (d := Bo false) rfl rfl) ?_
           refine RW.nil ?_
           refine CW.le [(4, Bo false)] rfl (Le.of rfl) ?_
           refine CW.ret ?_
           exact Post.one (RV.b rfl (by simp_all [eqStream])) (AOs.a rfl (AOs.a rfl AOs.e))
          ·skip
           refine CW.skip ?_
           refine CW.le [(2, .obj b1 ((Stream.c a).map .r)), (3, .obj b2 ((Stream.c b).map .r))] rfl (Le.of rfl) ?_
           refine CW.seq ?_
           refine CW.seq ?_
           refine CW.region ?_
           refine RW.v rfl (V.field rfl rfl rfl rfl (by decide) rfl) ?_
           refine RW.v rfl (V.loadPrim (d := Bo a.owe) rfl rfl (.inl rfl) rfl rfl rfl) ?_
           refine RW.v rfl (V.field rfl rfl rfl rfl (by decide) rfl) ?_
           refine RW.v rfl (V.loadPrim (d := Bo b.owe) rfl rfl (.inl rfl) rfl rfl rfl) ?_
           refine RW.v rfl (V.eqBool rfl rfl rfl (by kernel_rfl) (.inr ⟨rfl, rfl⟩)) ?_
           refine RW.nil ?_
           refine CW.le [(2, .obj b1 ((Stream.c a).map .r)), (3, .obj b2 ((Stream.c b).map .r)), (60, Bo (!(a.owe == b.owe)))] rfl (Le.of rfl) ?_
           refine CW.cond rfl (fun h14 => ?_) (fun h14 => ?_)
           ·skip
            refine CW.seq ?_
            refine CW.region ?_
            refine RW.v rfl (V.as (d := Bo false) rfl rfl) ?_
            refine RW.nil ?_
            refine CW.le [(4, Bo false)] rfl (Le.of rfl) ?_
            refine CW.ret ?_
            exact Post.one (RV.b rfl (by simp_all [eqStream])) (AOs.a rfl (AOs.a rfl AOs.e))
           ·skip
            refine CW.skip ?_
            refine CW.le [(2, .obj b1 ((Stream.c a).map .r)), (3, .obj b2 ((Stream.c b).map .r))] rfl (Le.of rfl) ?_
            refine CW.seq ?_
            refine CW.seq ?_
            refine CW.region ?_
            refine RW.v rfl (V.field rfl rfl rfl rfl (by decide) rfl) ?_
            refine RW.v rfl (V.loadPrim (d := I a.due) rfl rfl (.inl rfl) rfl rfl rfl) ?_
            refine RW.v rfl (V.field rfl rfl rfl rfl (by decide) rfl) ?_
            refine RW.v rfl (V.loadPrim (d := I b.due) rfl rfl (.inl rfl) rfl rfl rfl) ?_
            refine RW.v rfl (V.cmpInt rfl rfl rfl rfl) ?_
            refine RW.nil ?_
            refine CW.le [(2, .obj b1 ((Stream.c a).map .r)), (3, .obj b2 ((Stream.c b).map .r)), (65, Bo (a.due != b.due))] rfl (Le.of rfl) ?_
            refine CW.cond rfl (fun h15 => ?_) (fun h15 => ?_)
            ·skip
             refine CW.seq ?_
             refine CW.region ?_
             refine RW.v rfl (V.as (d := Bo false) rfl rfl) ?_
             refine RW.nil ?_
             refine CW.le [(4, Bo false)] rfl (Le.of rfl) ?_
             refine CW.ret ?_
             exact Post.one (RV.b rfl (by simp_all [eqStream])) (AOs.a rfl (AOs.a rfl AOs.e))
            ·skip
             refine CW.skip ?_
             refine CW.le [(2, .obj b1 ((Stream.c a).map .r)), (3, .obj b2 ((Stream.c b).map .r))] rfl (Le.of rfl) ?_
             refine CW.seq ?_
             refine CW.seq ?_
             refine CW.region ?_
             refine RW.v rfl (V.field rfl rfl rfl rfl (by decide) rfl) ?_
             refine RW.v rfl (V.loadPrim (d := I a.times) rfl rfl (.inl rfl) rfl rfl rfl) ?_
             refine RW.v rfl (V.field rfl rfl rfl rfl (by decide) rfl) ?_
             refine RW.v rfl (V.loadPrim (d := I b.times) rfl rfl (.inl rfl) rfl rfl rfl) ?_
             refine RW.v rfl (V.cmpInt rfl rfl rfl rfl) ?_
             refine RW.nil ?_
             refine CW.le [(70, Bo (a.times != b.times))] rfl (Le.of rfl) ?_
             refine CW.cond rfl (fun h16 => ?_) (fun h16 => ?_)
             ·skip
              refine CW.seq ?_
              refine CW.region ?_
              refine RW.v rfl (V.as (d := Bo false) rfl rfl) ?_
              refine RW.nil ?_
              refine CW.le [(4, Bo false)] rfl (Le.of rfl) ?_
              refine CW.ret ?_
              exact Post.one (RV.b rfl (by simp_all [eqStream])) (AOs.a rfl (AOs.a rfl AOs.e))
             ·skip
              refine CW.skip ?_
              refine CW.le [] rfl (Le.of rfl) ?_
              refine CW.seq ?_
              refine CW.region ?_
              refine RW.v rfl (V.as (d := Bo true) rfl rfl) ?_
              refine RW.nil ?_
              refine CW.le [(4, Bo true)] rfl (Le.of rfl) ?_
              refine CW.ret ?_
              exact Post.one (RV.b rfl (by simp_all [eqStream])) (AOs.a rfl (AOs.a rfl AOs.e))
set_option maxHeartbeats 4000000 in
theorem laws_markText_fn (k : Int) (hk : k ≤ 9223372036854775807) : Eng.Fn E.P 78 [.one (.r (.v (.int .i64 k)))] (.one (.one (.w (.v (.string (mtext k)))))) [.one (.r (.v (.int .i64 k)))] := by
 refine Eng.Fn.intro (E := E) (rvs := [.tmp 2]) Try.func78 rfl rfl rfl (by simp [outSlots, moved, rvSlot, sl]) ?_
 intro B g bo
 refine CW.le [(0, I k)] rfl (Le.of rfl) ?_
 refine CW.seq ?_
 refine CW.region ?_
 refine RW.v rfl (V.as (d := S (⟨#[]⟩ : ByteArray)) rfl rfl) ?_
 refine RW.nil ?_
 refine CW.le [(0, I k)] rfl (Le.of rfl) ?_
 refine CW.seq ?_
 refine CW.seq ?_
 refine CW.region ?_
 refine RW.v rfl (V.mv (d := I k) rfl rfl) ?_
 refine RW.v rfl (V.cmpInt rfl rfl rfl rfl) ?_
 refine RW.nil ?_
 refine CW.le [(0, I k), (5, Bo (decide (k ≤ 0)))] rfl (Le.of rfl) ?_
 refine CW.cond rfl (fun h1 => ?_) (fun h1 => ?_)
 ·skip
  refine CW.seq ?_
  refine CW.region ?_
  refine RW.v rfl (V.as (d := S (⟨#[109, 48]⟩ : ByteArray)) rfl rfl) ?_
  refine RW.nil ?_
  refine CW.le [(2, S (⟨#[109, 48]⟩ : ByteArray))] rfl (Le.of rfl) ?_
  refine CW.ret ?_
  exact Post.one (RV.s rfl (by simp_all [mtext])) (AOs.r AOs.e)
 ·skip
  refine CW.skip ?_
  refine CW.le [(0, I k)] rfl (Le.of rfl) ?_
  refine CW.seq ?_
  refine CW.region ?_
  refine RW.v rfl (V.as (d := S (⟨#[]⟩ : ByteArray)) rfl rfl) ?_
  refine RW.nil ?_
  refine CW.le [(0, I k), (3, S (⟨#[]⟩ : ByteArray))] rfl (Le.of rfl) ?_
  refine CW.seq ?_
  refine CW.block ?_
  refine CW.loopI 20 (fun (zz : Int × ByteArray) => match zz with | (n, out) => [(0, I n), (3, S out)]) (fun (zz : Int × ByteArray) => match zz with | (n, out) => 0 ≤ n ∧ out.size ≤ 60 ∧ n * 10 ^ out.size ≤ 9223372036854775807 ∧ dgs n.toNat out = dgs k.toNat ⟨#[]⟩) (fun (zz : Int × ByteArray) => match zz with | (n, out) => n.toNat) (_, _) rfl (Le.c rfl <| Le.c rfl <| Le.e) ⟨by simp at h1; omega, by decide, by show k * 10 ^ 0 ≤ _; omega, rfl⟩ ?_
  rintro ⟨n, out⟩ ⟨h0, hs, hp, hr⟩
  refine CW.seq ?_
  refine CW.seq ?_
  refine CW.region ?_
  refine RW.v rfl (V.mv (d := I n) rfl rfl) ?_
  refine RW.v rfl (V.cmpInt rfl rfl rfl rfl) ?_
  refine RW.nil ?_
  refine CW.le [(0, I n), (3, S out), (7, Bo (decide (n > 0)))] rfl (Le.of rfl) ?_
  refine CW.cond rfl (fun h2 => ?_) (fun h2 => ?_)
  ·skip
   refine CW.skip ?_
   refine CW.le [(0, I n), (3, S out)] rfl (Le.of rfl) ?_
   refine CW.block ?_
   refine CW.seq ?_
   refine CW.region ?_
   refine RW.v rfl (V.mv (d := I n) rfl rfl) ?_
   refine RW.v rfl (V.rem rfl rfl rfl (by decide)) ?_
   refine RW.v rfl (V.arInt rfl rfl rfl rfl) ?_
   refine RW.v rfl (V.convInt (k := .u8) (k' := .i64) rfl (by kernel_rfl) (by kernel_rfl) rfl) ?_
   refine RW.build1c (c := cU) (v := (IntKind.u8.wrap (IntKind.i64.wrap (48 + (Int.tmod n 10))))) (u := .v (.int .u8 (IntKind.u8.wrap (IntKind.i64.wrap (48 + (Int.tmod n 10)))))) rfl rfl rfl rfl rfl rfl (.inl rfl) rfl rfl fun X3 => ?_
   refine RW.v rfl (V.bytesStr (l := [(IntKind.u8.wrap (IntKind.i64.wrap (48 + (Int.tmod n 10))))]) rfl rfl rfl (by kernel_rfl) (by kernel_rfl) (.al (k := none) (i := 12) (sz := 1) (V := X3) rfl rfl nofun)) ?_
   refine RW.v rfl (V.mv (d := S out) rfl rfl) ?_
   refine RW.v rfl (V.cat rfl rfl rfl (by simp only [bytesOf_one, maxLen]; first | omega | (show 1 + out.size ≤ _; omega))) ?_
   refine RW.v rfl (V.as (d := S ((bytesOf ([(IntKind.u8.wrap (IntKind.i64.wrap (48 + (Int.tmod n 10))))])) ++ out)) rfl rfl) ?_
   refine RW.nil ?_
   refine CW.le [(0, I n), (3, S ((bytesOf ([(IntKind.u8.wrap (IntKind.i64.wrap (48 + (Int.tmod n 10))))])) ++ out))] rfl (Le.of rfl) ?_
   refine CW.region ?_
   refine RW.v rfl (V.mv (d := I n) rfl rfl) ?_
   refine RW.v rfl (V.quo rfl rfl rfl (by decide)) ?_
   refine RW.v rfl (V.as (d := I (IntKind.i64.wrap (Int.tdiv n 10))) rfl rfl) ?_
   refine RW.nil ?_
   exact ⟨(_, _), by have := mt_dec h0 hp h2; simp only []; omega, mt_step h0 hp hr h2, rfl, Le.c rfl <| Le.c rfl <| Le.e⟩
  ·skip
   refine CW.exit ?_
   refine CW.le [(3, S out)] rfl (Le.of rfl) ?_
   refine CW.seq ?_
   refine CW.region ?_
   refine RW.v rfl (V.mv (d := S out) rfl rfl) ?_
   refine RW.v rfl (V.cat rfl rfl rfl (by simp only [bytesOf_one, maxLen]; first | omega | (show 1 + out.size ≤ _; omega))) ?_
   refine RW.v rfl (V.as (d := S ((⟨#[109]⟩ : ByteArray) ++ out)) rfl rfl) ?_
   refine RW.nil ?_
   refine CW.le [(2, S ((⟨#[109]⟩ : ByteArray) ++ out))] rfl (Le.of rfl) ?_
   refine CW.ret ?_
   exact Post.one (RV.s rfl (by rw [mtext_dgs (by simpa using h1), ← hr, dgs, dif_pos (by simp at h2; omega)])) (AOs.r AOs.e)
set_option maxHeartbeats 4000000 in
theorem laws_markLateS_fn (a : List Late) (k : Int) (hk : k ≤ 9223372036854775807) : Eng.Fn E.P 49 [.one (.w (sl 2 Late.c a)), .one (.r (.v (.int .i64 k)))] (.one (.one (.w (.v (.int .i64 ((mkL mkELate a k).2)))))) [.one (.w (sl 2 Late.c ((mkL mkELate a k).1))), .one (.r (.v (.int .i64 k)))] := by
 refine Eng.Fn.intro (E := E) (rvs := [.tmp 4]) Try.func49 rfl rfl rfl (by simp [outSlots, moved, rvSlot, sl]) ?_
 intro B g bo
 refine CW.bound (x := .tmp 0) (n := a.length) (AsT.al rfl rfl nofun) (fun hl0 => ?_)
 refine CW.le [(0, .w (sl 2 Late.c a) (g 0 0)), (1, I k)] rfl (Le.of rfl) ?_
 have hl0b : a.length ≤ maxLen := hl0
 refine CW.seq ?_
 refine CW.region ?_
 refine RW.v rfl (V.as (d := I 0) rfl rfl) ?_
 refine RW.nil ?_
 refine CW.le [(0, .w (sl 2 Late.c a) (g 0 0)), (1, I k)] rfl (Le.of rfl) ?_
 refine CW.seq ?_
 refine CW.seq ?_
 refine CW.region ?_
 refine RW.v rfl (V.as (d := I 0) rfl rfl) ?_
 refine RW.nil ?_
 refine CW.le [(0, .w (sl 2 Late.c a) (g 0 0)), (1, I k), (5, I 0)] rfl (Le.of rfl) ?_
 refine CW.block ?_
 refine CW.loopI 28 (fun (zz : Nat × Int × List Late) => match zz with | (i, l, b) => [(0, .w (sl 2 Late.c b) (g 0 0)), (1, I l), (5, I (i : Int))]) (fun (zz : Nat × Int × List Late) => match zz with | (i, l, b) => i ≤ b.length ∧ l ≤ 9223372036854775807 ∧ b.length = a.length ∧ b.drop i = a.drop i ∧ (b.take i ++ (mkL mkELate (a.drop i) l).1, (mkL mkELate (a.drop i) l).2) = mkL mkELate a k) (fun (zz : Nat × Int × List Late) => match zz with | (i, l, b) => a.length - i) (0, _, _) rfl (Le.c rfl <| Le.c rfl <| Le.c rfl <| Le.e) ⟨by omega, hk, rfl, rfl, by simp⟩ ?_
 rintro ⟨i, l, b⟩ ⟨hb, hlk, hlen, hdr, hr⟩
 refine CW.seq ?_
 refine CW.seq ?_
 refine CW.region ?_
 refine RW.v rfl (V.mv (d := I (i : Int)) rfl rfl) ?_
 refine RW.v rfl (V.mv (d := .al 0 none 2 b.length (g 0 0) 0) rfl rfl) ?_
 refine RW.v rfl (V.lenT (n := b.length) rfl rfl rfl (.al rfl rfl nofun)) ?_
 refine RW.v rfl (V.cmpInt rfl rfl rfl rfl) ?_
 refine RW.nil ?_
 refine CW.le [(0, .w (sl 2 Late.c b) (g 0 0)), (1, I l), (5, I (i : Int)), (9, Bo (decide ((i : Int) < (b.length : Int))))] rfl (Le.of rfl) ?_
 refine CW.cond rfl (fun h1 => ?_) (fun h1 => ?_)
 ·skip
  have hii : i < b.length := by have := h1; simp at this; first | exact this | omega | (simp; done) | (simp; omega)
  obtain ⟨ei, hei⟩ : ∃ e, b[i]? = some e := ⟨_, List.getElem?_eq_getElem hii⟩
  have hdi := drop_get hei
  refine CW.skip ?_
  refine CW.le [(0, .w (sl 2 Late.c b) (g 0 0)), (1, I l), (5, I (i : Int))] rfl (Le.of rfl) ?_
  refine CW.seq ?_
  refine CW.block ?_
  refine CW.seq ?_
  refine CW.region ?_
  refine RW.v rfl (V.mv (d := .al 0 none 2 b.length (g 0 0) 0) rfl rfl) ?_
  refine RW.v rfl (V.mv (d := I (i : Int)) rfl rfl) ?_
  refine RW.v rfl (V.mv (d := I l) rfl rfl) ?_
  refine RW.v rfl (V.indexW rfl rfl rfl rfl rfl rfl rfl (by first | omega | (simp; omega))) ?_
  refine RW.v rfl (V.fieldE rfl rfl rfl rfl (by decide) rfl) ?_
  refine RW.storeF (m := i) (off := 0) (v := ei) (v' := (⟨l, ei.text⟩ : Late)) (u := .v (.int .i64 l)) (c := Late.c) rfl rfl rfl rfl rfl rfl rfl (.inl rfl) Late.len hei (by decide) rfl rfl ?_
  refine RW.nil ?_
  refine CW.le [(0, .w (sl 2 Late.c (b.set i (⟨l, ei.text⟩ : Late))) (g 0 0)), (1, I l), (5, I (i : Int))] rfl (Le.of rfl) ?_
  refine CW.seq ?_
  refine CW.region ?_
  refine RW.v rfl (V.mv (d := I l) rfl rfl) ?_
  refine RW.v rfl (V.arInt rfl rfl rfl rfl) ?_
  refine RW.v rfl (V.as (d := I (IntKind.i64.wrap (l + 1))) rfl rfl) ?_
  refine RW.nil ?_
  refine CW.le [(0, .w (sl 2 Late.c (b.set i (⟨l, ei.text⟩ : Late))) (g 0 0)), (1, I (IntKind.i64.wrap (l + 1))), (5, I (i : Int))] rfl (Le.of rfl) ?_
  refine CW.seq ?_
  refine CW.region ?_
  refine RW.v rfl (V.mv (d := .al 0 none 2 ((b.set i (⟨l, ei.text⟩ : Late)).length) (g 0 0) 0) rfl rfl) ?_
  refine RW.v rfl (V.mv (d := I (i : Int)) rfl rfl) ?_
  refine RW.v rfl (V.mv (d := I (IntKind.i64.wrap (l + 1))) rfl rfl) ?_
  refine RW.call rfl (laws_markText_fn (IntKind.i64.wrap (l + 1)) (by first | exact hlk | exact wrap_le _ | simp only [mkL_le, mkI_le, mkS_le, mkB_le, mkELate_le])) rfl (.cons (.one (.r .r)) (.nil)) fun g2 => ?_
  refine RW.v rfl (V.indexW rfl rfl rfl rfl rfl rfl rfl (by first | omega | (simp; omega))) ?_
  refine RW.v rfl (V.fieldE rfl rfl rfl rfl (by decide) rfl) ?_
  refine RW.storeF (m := i) (off := 1) (v := (⟨l, ei.text⟩ : Late)) (v' := (⟨l, (mtext (IntKind.i64.wrap (l + 1)))⟩ : Late)) (u := .v (.string (mtext (IntKind.i64.wrap (l + 1))))) (c := Late.c) rfl rfl rfl rfl rfl rfl rfl (.inl rfl) Late.len (List.getElem?_set_self (by first | omega | (simp; omega))) (by decide) rfl rfl ?_
  refine RW.nil ?_
  refine CW.le [(0, .w (sl 2 Late.c ((b.set i (⟨l, ei.text⟩ : Late)).set i (⟨l, (mtext (IntKind.i64.wrap (l + 1)))⟩ : Late))) (g 0 0)), (1, I (IntKind.i64.wrap (l + 1))), (5, I (i : Int))] rfl (Le.of rfl) ?_
  refine CW.region ?_
  refine RW.v rfl (V.mv (d := I (IntKind.i64.wrap (l + 1))) rfl rfl) ?_
  refine RW.v rfl (V.arInt rfl rfl rfl rfl) ?_
  refine RW.v rfl (V.as (d := I (IntKind.i64.wrap ((IntKind.i64.wrap (l + 1)) + 1))) rfl rfl) ?_
  refine RW.nil ?_
  refine CW.le [(0, .w (sl 2 Late.c ((b.set i (⟨l, ei.text⟩ : Late)).set i (⟨l, (mtext (IntKind.i64.wrap (l + 1)))⟩ : Late))) (g 0 0)), (1, I (IntKind.i64.wrap ((IntKind.i64.wrap (l + 1)) + 1))), (5, I (i : Int))] rfl (Le.of rfl) ?_
  refine CW.region ?_
  refine RW.v rfl (V.mv (d := I (i : Int)) rfl rfl) ?_
  refine RW.v rfl (V.inc rfl rfl rfl hii (by omega)) ?_
  refine RW.v rfl (V.as (d := I ((i + 1 : Nat) : Int)) rfl rfl) ?_
  refine RW.nil ?_
  exact ⟨(i + 1, (IntKind.i64.wrap ((IntKind.i64.wrap (l + 1)) + 1)), ((b.set i (⟨l, ei.text⟩ : Late)).set i (⟨l, (mtext (IntKind.i64.wrap (l + 1)))⟩ : Late))), by simp only []; omega, mk_step mkELate ((⟨l, (mtext (IntKind.i64.wrap (l + 1)))⟩ : Late)) ((IntKind.i64.wrap ((IntKind.i64.wrap (l + 1)) + 1))) hei hlen hdr hr (by first | rfl | simp only [List.set_set]) rfl (by first | exact wrap_le _ | (apply mkL_le; assumption)), rfl, Le.c rfl <| Le.c rfl <| Le.c rfl <| Le.e⟩
 ·skip
  have hii : b.length ≤ i := by have := h1; simp at this; first | exact this | omega | (simp; done) | (simp; omega)
  have hdi : b.drop i = [] := List.drop_eq_nil_of_le hii
  refine CW.exit ?_
  refine CW.le [(0, .w (sl 2 Late.c b) (g 0 0)), (1, I l)] rfl (Le.of rfl) ?_
  refine CW.seq ?_
  refine CW.region ?_
  refine RW.v rfl (V.mv (d := I l) rfl rfl) ?_
  refine RW.v rfl (V.as (d := I l) rfl rfl) ?_
  refine RW.nil ?_
  refine CW.le [(0, .w (sl 2 Late.c b) (g 0 0)), (4, I l)] rfl (Le.of rfl) ?_
  refine CW.ret ?_
  exact Post.one (RV.i rfl (by rw [← hr, ← hdr, hdi]; rfl)) (AOs.w (by show _ = D.w _ _; exact congrArg (fun l => D.w (sl _ Late.c l) _) (by rw [← hr, ← hdr, hdi]; show b = b.take i ++ []; rw [List.append_nil, List.take_of_length_le hii])) (AOs.r AOs.e))
set_option maxHeartbeats 4000000 in
theorem laws_markStream_fn (a : Stream) (k : Int) (hk : k ≤ 9223372036854775807) : Eng.Fn E.P 19 [.agg ((Stream.c a).map .w), .one (.r (.v (.int .i64 k)))] (.one (.one (.w (.v (.int .i64 ((mkVStream a k).2)))))) [.agg ((Stream.c ((mkVStream a k).1)).map .w), .one (.r (.v (.int .i64 k)))] := by
 refine Eng.Fn.intro (E := E) (rvs := [.tmp 4]) Try.func19 rfl rfl rfl (by simp [outSlots, moved, rvSlot, sl]) ?_
 intro B g bo
 refine CW.le [(0, .agg [I a.state, I a.iss, I a.una, I a.rcv, S a.wait, I a.sent, I a.fin, Bo a.peerFin, S a.in_, .w (sl 2 Late.c a.late) (g 0 9), Bo a.owe, I a.due, I a.times]), (1, I k)] rfl (Le.of rfl) ?_
 refine CW.seq ?_
 refine CW.region ?_
 refine RW.box (ds := [I a.state, I a.iss, I a.una, I a.rcv, S a.wait, I a.sent, I a.fin, Bo a.peerFin, S a.in_, .al 0 (some 9) 2 a.late.length (g 0 9) 0, Bo a.owe, I a.due, I a.times]) rfl rfl rfl fun b1 => ?_
 refine RW.v rfl (V.as (d := I 0) rfl rfl) ?_
 refine RW.nil ?_
 refine CW.le [(0, .agg [I a.state, I a.iss, I a.una, I a.rcv, S a.wait, I a.sent, I a.fin, Bo a.peerFin, S a.in_, .w (sl 2 Late.c a.late) (g 0 9), Bo a.owe, I a.due, I a.times]), (1, I k), (2, .obj b1 [I a.state, I a.iss, I a.una, I a.rcv, S a.wait, I a.sent, I a.fin, Bo a.peerFin, S a.in_, .al 0 (some 9) 2 a.late.length (g 0 9) 0, Bo a.owe, I a.due, I a.times])] rfl (Le.of rfl) ?_
 refine CW.seq ?_
 refine CW.region ?_
 refine RW.v rfl (V.field rfl rfl rfl rfl (by decide) rfl) ?_
 refine RW.v rfl (V.loadPrim (d := .al 0 (some 9) 2 a.late.length (g 0 9) 0) rfl rfl (.inr ⟨_, rfl⟩) rfl rfl rfl) ?_
 refine RW.v rfl (V.mv (d := I k) rfl rfl) ?_
 refine RW.callW (k := 0) (laws_markLateS_fn a.late k (by repeat (first | exact hk | apply mkL_le | apply mkI_le | apply mkS_le | apply mkB_le | apply mkELate_le | apply mkVStream_le))) rfl rfl (Nat.le_of_ble_eq_true rfl) (by decide) (.here (AsW.cellA rfl) (.cons (.one (.r .r)) (.nil))) rfl fun g2 q3 => ?_
 refine RW.v rfl (V.as (d := I ((mkL mkELate a.late k).2)) rfl rfl) ?_
 refine RW.nil ?_
 refine CW.le [(0, .agg [I a.state, I a.iss, I a.una, I a.rcv, S a.wait, I a.sent, I a.fin, Bo a.peerFin, S a.in_, .w (sl 2 Late.c ((mkL mkELate a.late k).1)) (g 0 9), Bo a.owe, I a.due, I a.times]), (1, I ((mkL mkELate a.late k).2))] rfl (Le.of rfl) ?_
 refine CW.seq ?_
 refine CW.region ?_
 refine RW.v rfl (V.mv (d := I ((mkL mkELate a.late k).2)) rfl rfl) ?_
 refine RW.v rfl (V.as (d := I ((mkL mkELate a.late k).2)) rfl rfl) ?_
 refine RW.nil ?_
 refine CW.le [(0, .agg [I a.state, I a.iss, I a.una, I a.rcv, S a.wait, I a.sent, I a.fin, Bo a.peerFin, S a.in_, .w (sl 2 Late.c ((mkL mkELate a.late k).1)) (g 0 9), Bo a.owe, I a.due, I a.times]), (4, I ((mkL mkELate a.late k).2))] rfl (Le.of rfl) ?_
 refine CW.ret ?_
 exact Post.one (RV.i rfl (by rfl)) (AOs.ag rfl (AOc.r rfl (AOc.r rfl (AOc.r rfl (AOc.r rfl (AOc.r rfl (AOc.r rfl (AOc.r rfl (AOc.r rfl (AOc.r rfl (AOc.w rfl (AOc.r rfl (AOc.r rfl (AOc.r rfl AOc.e))))))))))))) (AOs.r AOs.e))
set_option maxHeartbeats 4000000 in
theorem laws_heldLateS_fn (a : List Late) (k : Int) (hk : k ≤ 9223372036854775807) : Eng.Fn E.P 50 [.one (.r (sl 2 Late.c a)), .one (.r (.v (.int .i64 k)))] (.one (.one (.w (.v (.int .i64 ((hdL hdELate a k).getD (-1))))))) [.one (.r (sl 2 Late.c a)), .one (.r (.v (.int .i64 k)))] := by
 refine Eng.Fn.intro (E := E) (rvs := [.tmp 4]) Try.func50 rfl rfl rfl (by simp [outSlots, moved, rvSlot, sl]) ?_
 intro B g bo
 refine CW.bound (x := .tmp 0) (n := a.length) (AsT.r) (fun hl0 => ?_)
 refine CW.le [(0, .r (sl 2 Late.c a)), (1, I k)] rfl (Le.of rfl) ?_
 refine CW.seq ?_
 refine CW.region ?_
 refine RW.v rfl (V.as (d := I 0) rfl rfl) ?_
 refine RW.nil ?_
 refine CW.le [(0, .r (sl 2 Late.c a)), (1, I k)] rfl (Le.of rfl) ?_
 refine CW.seq ?_
 refine CW.seq ?_
 refine CW.region ?_
 refine RW.v rfl (V.as (d := I 0) rfl rfl) ?_
 refine RW.nil ?_
 refine CW.le [(0, .r (sl 2 Late.c a)), (1, I k), (5, I 0)] rfl (Le.of rfl) ?_
 refine CW.block ?_
 refine CW.loopI 32 (fun (zz : Nat × Int) => match zz with | (i, l) => [(0, .r (sl 2 Late.c a)), (1, I l), (5, I (i : Int))]) (fun (zz : Nat × Int) => match zz with | (i, l) => i ≤ a.length ∧ l ≤ 9223372036854775807 ∧ hdL hdELate (a.drop i) l = hdL hdELate a k) (fun (zz : Nat × Int) => match zz with | (i, l) => a.length - i) (0, _) rfl (Le.c rfl <| Le.c rfl <| Le.c rfl <| Le.e) ⟨by omega, hk, by simp⟩ ?_
 rintro ⟨i, l⟩ ⟨hb, hlk, hr⟩
 refine CW.seq ?_
 refine CW.seq ?_
 refine CW.region ?_
 refine RW.v rfl (V.mv (d := I (i : Int)) rfl rfl) ?_
 refine RW.v rfl (V.mv (d := .r (sl 2 Late.c a)) rfl rfl) ?_
 refine RW.v rfl (V.lenT (n := a.length) rfl rfl rfl .r) ?_
 refine RW.v rfl (V.cmpInt rfl rfl rfl rfl) ?_
 refine RW.nil ?_
 refine CW.le [(0, .r (sl 2 Late.c a)), (1, I l), (5, I (i : Int)), (9, Bo (decide ((i : Int) < (a.length : Int))))] rfl (Le.of rfl) ?_
 refine CW.cond rfl (fun h1 => ?_) (fun h1 => ?_)
 ·skip
  have hii : i < a.length := by have := h1; simp at this; first | exact this | omega | (simp; done) | (simp; omega)
  obtain ⟨ei, hei⟩ : ∃ e, a[i]? = some e := ⟨_, List.getElem?_eq_getElem hii⟩
  have hdi := drop_get hei
  refine CW.skip ?_
  refine CW.le [(0, .r (sl 2 Late.c a)), (1, I l), (5, I (i : Int))] rfl (Le.of rfl) ?_
  refine CW.seq ?_
  refine CW.block ?_
  refine CW.seq ?_
  refine CW.seq ?_
  refine CW.region ?_
  refine RW.v rfl (V.mv (d := .r (sl 2 Late.c a)) rfl rfl) ?_
  refine RW.v rfl (V.mv (d := I (i : Int)) rfl rfl) ?_
  refine RW.v rfl (V.indexS rfl rfl rfl rfl rfl rfl Late.len hei) ?_
  refine RW.v rfl (V.fieldR rfl rfl rfl rfl (by decide) rfl (Nat.le_of_ble_eq_true rfl)) ?_
  refine RW.v rfl (V.loadPrimR (t0 := .v (.int .i64 ei.num)) rfl rfl (.inl rfl) rfl rfl) ?_
  refine RW.v rfl (V.mv (d := I l) rfl rfl) ?_
  refine RW.v rfl (V.cmpInt rfl rfl rfl rfl) ?_
  refine RW.nil ?_
  refine CW.le [(0, .r (sl 2 Late.c a)), (1, I l), (5, I (i : Int)), (18, Bo (ei.num != l))] rfl (Le.of rfl) ?_
  refine CW.cond rfl (fun h2 => ?_) (fun h2 => ?_)
  ·skip
   refine CW.seq ?_
   refine CW.region ?_
   refine RW.v rfl (V.as (d := I (-1)) rfl rfl) ?_
   refine RW.nil ?_
   refine CW.le [(4, I (-1))] rfl (Le.of rfl) ?_
   refine CW.ret ?_
   exact Post.one (RV.i rfl (by rw [← hr, hdi]; clear hr; first | rfl | (simp_all [hdL, hdELate, hdI, hdS, inc]; done) | grind [hdL, hdELate, hdI, hdS, inc])) (AOs.r (AOs.r AOs.e))
  ·skip
   refine CW.skip ?_
   refine CW.le [(0, .r (sl 2 Late.c a)), (1, I l), (5, I (i : Int))] rfl (Le.of rfl) ?_
   refine CW.seq ?_
   refine CW.region ?_
   refine RW.v rfl (V.mv (d := I l) rfl rfl) ?_
   refine RW.v rfl (V.arInt rfl rfl rfl rfl) ?_
   refine RW.v rfl (V.as (d := I (IntKind.i64.wrap (l + 1))) rfl rfl) ?_
   refine RW.nil ?_
   refine CW.le [(0, .r (sl 2 Late.c a)), (1, I (IntKind.i64.wrap (l + 1))), (5, I (i : Int))] rfl (Le.of rfl) ?_
   refine CW.seq ?_
   refine CW.anyJ (fc := []) 32 (fun (go3_6_1 : (Nat → Nat → Value)) => [(0, .r (sl 2 Late.c a)), (1, I (IntKind.i64.wrap (l + 1))), (5, I (i : Int)), (28, Bo (!(ei.text.toList == (mtext (IntKind.i64.wrap (l + 1))).toList)))]) (fun all hall K hK => ?_) ?_
   ·skip
    have ro3_11111111 : ∀ (go3_6_1 : Nat → Nat → Value), RA [] E B all 0 #[true, true, true, true, true, true, true, true] ⟨32, [(0, .r (sl 2 Late.c a)), (1, I (IntKind.i64.wrap (l + 1))), (5, I (i : Int)), (28, Bo (!(ei.text.toList == (mtext (IntKind.i64.wrap (l + 1))).toList)))]⟩ K := by
     intro go3_6_1
     exact RA.of hall (RA.finH Tell.e (by kernel_rfl) (hK go3_6_1 _ rfl (Le.of rfl)))
    have ro3_11110110 : ∀ (go3_6_1 : Nat → Nat → Value), RA [] E B all 2 #[true, true, true, true, false, true, true, false] ⟨32, [(0, .r (sl 2 Late.c a)), (1, I (IntKind.i64.wrap (l + 1))), (5, I (i : Int)), (24, .rp [.v (.string ei.text)]), (27, S (mtext (IntKind.i64.wrap (l + 1))))]⟩ K := by
     intro go3_6_1
     refine RA.of hall (RA.stepH (L := [4]) Tell.e (by kernel_rfl) (by simp) (RA.each ?_ (RA.each0)))
     ·skip
      refine RO.v rfl rfl (V.loadPrimR (t0 := .v (.string ei.text)) rfl rfl (.inl rfl) rfl rfl) rfl ?_
      refine RA.first (i := 7) (ls' := #[true, true, true, true, true, true, true, true]) Tell.e (by kernel_rfl) rfl rfl rfl (VF.p (V.strCmp rfl rfl rfl rfl)) ?_
      exact RA.to hall (RA.lr (ro3_11111111 go3_6_1) rfl rfl)
    have ro3_11111100 : RA [] E B all 2 #[true, true, true, true, true, true, false, false] ⟨32, [(0, .r (sl 2 Late.c a)), (1, I (IntKind.i64.wrap (l + 1))), (5, I (i : Int)), (25, S ei.text), (26, I (IntKind.i64.wrap (l + 1)))]⟩ K := by
     refine RA.of hall (RA.stepH (L := [6]) Tell.e (by kernel_rfl) (by simp) (RA.each ?_ (RA.each0)))
     ·skip
      refine RO.call rfl rfl (laws_markText_fn (IntKind.i64.wrap (l + 1)) (by first | exact hlk | exact wrap_le _)) rfl (.cons (.one (.r .r)) (.nil)) rfl fun go3_6_1 => ?_
      refine RA.first (i := 7) (ls' := #[true, true, true, true, true, true, true, true]) Tell.e (by kernel_rfl) rfl rfl rfl (VF.p (V.strCmp rfl rfl rfl rfl)) ?_
      exact RA.to hall (RA.lr (ro3_11111111 go3_6_1) rfl rfl)
    have ro3_11110100 : RA [] E B all 3 #[true, true, true, true, false, true, false, false] ⟨32, [(0, .r (sl 2 Late.c a)), (1, I (IntKind.i64.wrap (l + 1))), (5, I (i : Int)), (24, .rp [.v (.string ei.text)]), (26, I (IntKind.i64.wrap (l + 1)))]⟩ K := by
     refine RA.of hall (RA.stepH (L := [4, 6]) Tell.e (by kernel_rfl) (by simp) (RA.each ?_ (RA.each ?_ (RA.each0))))
     ·skip
      refine RO.v rfl rfl (V.loadPrimR (t0 := .v (.string ei.text)) rfl rfl (.inl rfl) rfl rfl) rfl ?_
      exact RA.to hall (RA.lr ro3_11111100 rfl rfl)
     ·skip
      refine RO.call rfl rfl (laws_markText_fn (IntKind.i64.wrap (l + 1)) (by first | exact hlk | exact wrap_le _)) rfl (.cons (.one (.r .r)) (.nil)) rfl fun go3_6_1 => ?_
      exact RA.to hall (RA.lr (ro3_11110110 go3_6_1) rfl rfl)
    have ro3_S : RA [] E B all 8 #[false, false, false, false, false, false, false, false] ⟨32, [(0, .r (sl 2 Late.c a)), (1, I (IntKind.i64.wrap (l + 1))), (5, I (i : Int))]⟩ K := by
     refine RA.of hall ?_
     refine RA.first (i := 0) (ls' := #[true, false, false, false, false, false, false, false]) Tell.e (by kernel_rfl) rfl rfl rfl (VF.p (V.mv (d := .r (sl 2 Late.c a)) rfl rfl)) ?_
     refine RA.first (i := 1) (ls' := #[true, true, false, false, false, false, false, false]) Tell.e (by kernel_rfl) rfl rfl rfl (VF.p (V.mv (d := I (i : Int)) rfl rfl)) ?_
     refine RA.first (i := 2) (ls' := #[true, true, true, false, false, false, false, false]) Tell.e (by kernel_rfl) rfl rfl rfl (VF.p (V.indexS rfl rfl rfl rfl rfl rfl Late.len hei)) ?_
     refine RA.first (i := 3) (ls' := #[true, true, true, true, false, false, false, false]) Tell.e (by kernel_rfl) rfl rfl rfl (VF.p (V.fieldR rfl rfl rfl rfl (by decide) rfl (Nat.le_of_ble_eq_true rfl))) ?_
     refine RA.le [(0, .r (sl 2 Late.c a)), (1, I (IntKind.i64.wrap (l + 1))), (5, I (i : Int)), (24, .rp [.v (.string ei.text)])] rfl (Le.of rfl) ?_
     refine RA.first (i := 5) (ls' := #[true, true, true, true, false, true, false, false]) Tell.e (by kernel_rfl) rfl rfl rfl (VF.p (V.mv (d := I (IntKind.i64.wrap (l + 1))) rfl rfl)) ?_
     exact RA.to hall (RA.lr ro3_11110100 rfl rfl)
    exact RA.start (by kernel_rfl) (by kernel_rfl) (RA.lr ro3_S rfl rfl)
   ·rintro go3_6_1
    refine CW.cond rfl (fun h4 => ?_) (fun h4 => ?_)
    ·skip
     refine CW.seq ?_
     refine CW.region ?_
     refine RW.v rfl (V.as (d := I (-1)) rfl rfl) ?_
     refine RW.nil ?_
     refine CW.le [(4, I (-1))] rfl (Le.of rfl) ?_
     refine CW.ret ?_
     exact Post.one (RV.i rfl (by rw [← hr, hdi]; clear hr; first | rfl | (simp_all [hdL, hdELate, hdI, hdS, inc]; done) | grind [hdL, hdELate, hdI, hdS, inc])) (AOs.r (AOs.r AOs.e))
    ·skip
     refine CW.skip ?_
     refine CW.le [(0, .r (sl 2 Late.c a)), (1, I (IntKind.i64.wrap (l + 1))), (5, I (i : Int))] rfl (Le.of rfl) ?_
     refine CW.region ?_
     refine RW.v rfl (V.mv (d := I (IntKind.i64.wrap (l + 1))) rfl rfl) ?_
     refine RW.v rfl (V.arInt rfl rfl rfl rfl) ?_
     refine RW.v rfl (V.as (d := I (IntKind.i64.wrap ((IntKind.i64.wrap (l + 1)) + 1))) rfl rfl) ?_
     refine RW.nil ?_
     refine CW.le [(0, .r (sl 2 Late.c a)), (1, I (IntKind.i64.wrap ((IntKind.i64.wrap (l + 1)) + 1))), (5, I (i : Int))] rfl (Le.of rfl) ?_
     refine CW.region ?_
     refine RW.v rfl (V.mv (d := I (i : Int)) rfl rfl) ?_
     refine RW.v rfl (V.inc rfl rfl rfl hii hl0) ?_
     refine RW.v rfl (V.as (d := I ((i + 1 : Nat) : Int)) rfl rfl) ?_
     refine RW.nil ?_
     exact ⟨(i + 1, _), by simp only []; omega, ⟨by omega, by first | exact wrap_le _ | omega, by rw [← hr, hdi]; clear hr; first | rfl | (simp_all [hdL, hdELate, hdI, hdS, inc]; done) | grind [hdL, hdELate, hdI, hdS, inc]⟩, rfl, Le.c rfl <| Le.c rfl <| Le.c rfl <| Le.e⟩
 ·skip
  have hii : a.length ≤ i := by have := h1; simp at this; first | exact this | omega | (simp; done) | (simp; omega)
  have hdi : a.drop i = [] := List.drop_eq_nil_of_le hii
  refine CW.exit ?_
  refine CW.le [(1, I l)] rfl (Le.of rfl) ?_
  refine CW.seq ?_
  refine CW.region ?_
  refine RW.v rfl (V.mv (d := I l) rfl rfl) ?_
  refine RW.v rfl (V.as (d := I l) rfl rfl) ?_
  refine RW.nil ?_
  refine CW.le [(4, I l)] rfl (Le.of rfl) ?_
  refine CW.ret ?_
  exact Post.one (RV.i rfl (by rw [← hr, hdi]; clear hr; first | rfl | (simp_all [hdL, hdELate, hdI, hdS, inc]; done) | grind [hdL, hdELate, hdI, hdS, inc])) (AOs.r (AOs.r AOs.e))
set_option maxHeartbeats 4000000 in
theorem laws_heldStream_fn (a : Stream) (k : Int) (hk : k ≤ 9223372036854775807) : Eng.Fn E.P 20 [.agg ((Stream.c a).map .r), .one (.r (.v (.int .i64 k)))] (.one (.one (.w (.v (.int .i64 ((hdVStream a k).getD (-1))))))) [.agg ((Stream.c a).map .r), .one (.r (.v (.int .i64 k)))] := by
 refine Eng.Fn.intro (E := E) (rvs := [.tmp 4]) Try.func20 rfl rfl rfl (by simp [outSlots, moved, rvSlot, sl]) ?_
 intro B g bo
 refine CW.le [(0, .agg ((Stream.c a).map .r)), (1, I k)] rfl (Le.of rfl) ?_
 refine CW.seq ?_
 refine CW.region ?_
 refine RW.box (ds := ((Stream.c a).map .r)) rfl rfl rfl fun b1 => ?_
 refine RW.v rfl (V.as (d := I 0) rfl rfl) ?_
 refine RW.nil ?_
 refine CW.le [(1, I k), (2, .obj b1 ((Stream.c a).map .r))] rfl (Le.of rfl) ?_
 refine CW.seq ?_
 refine CW.region ?_
 refine RW.v rfl (V.field rfl rfl rfl rfl (by decide) rfl) ?_
 refine RW.v rfl (V.loadPrim (d := .r (sl 2 Late.c a.late)) rfl rfl (.inr ⟨_, rfl⟩) rfl rfl rfl) ?_
 refine RW.v rfl (V.mv (d := I k) rfl rfl) ?_
 refine RW.call rfl (laws_heldLateS_fn a.late k (by repeat (first | exact hk | apply leD | apply hdL_le | apply hdN_le | exact hdI_le | exact hdS_le | exact hdB_le | exact hdELate_le | exact hdVStream_le))) rfl (.cons (.one (.r .r)) (.cons (.one (.r .r)) (.nil))) fun g2 => ?_
 refine RW.v rfl (V.as (d := I ((hdL hdELate a.late k).getD (-1))) rfl rfl) ?_
 refine RW.nil ?_
 refine CW.le [(1, I ((hdL hdELate a.late k).getD (-1)))] rfl (Le.of rfl) ?_
 refine CW.seq ?_
 refine CW.seq ?_
 refine CW.region ?_
 refine RW.v rfl (V.mv (d := I ((hdL hdELate a.late k).getD (-1))) rfl rfl) ?_
 refine RW.v rfl (V.cmpInt rfl rfl rfl rfl) ?_
 refine RW.nil ?_
 refine CW.le [(1, I ((hdL hdELate a.late k).getD (-1))), (10, Bo (decide (((hdL hdELate a.late k).getD (-1)) < 0)))] rfl (Le.of rfl) ?_
 refine CW.cond rfl (fun h3 => ?_) (fun h3 => ?_)
 ·skip
  refine CW.seq ?_
  refine CW.region ?_
  refine RW.v rfl (V.as (d := I (-1)) rfl rfl) ?_
  refine RW.nil ?_
  refine CW.le [(4, I (-1))] rfl (Le.of rfl) ?_
  refine CW.ret ?_
  exact Post.one (RV.i rfl (by simp_all [hdVStream, hdN_ok, hdN_bad])) (AOs.a rfl (AOs.r AOs.e))
 ·skip
  refine CW.skip ?_
  refine CW.le [(1, I ((hdL hdELate a.late k).getD (-1)))] rfl (Le.of rfl) ?_
  refine CW.seq ?_
  refine CW.region ?_
  refine RW.v rfl (V.mv (d := I ((hdL hdELate a.late k).getD (-1))) rfl rfl) ?_
  refine RW.v rfl (V.as (d := I ((hdL hdELate a.late k).getD (-1))) rfl rfl) ?_
  refine RW.nil ?_
  refine CW.le [(4, I ((hdL hdELate a.late k).getD (-1)))] rfl (Le.of rfl) ?_
  refine CW.ret ?_
  exact Post.one (RV.i rfl (by simp_all [hdVStream, hdN_ok, hdN_bad])) (AOs.a rfl (AOs.r AOs.e))
end Go.Proofs.Ytkfjkmklmjcngaa.Y
