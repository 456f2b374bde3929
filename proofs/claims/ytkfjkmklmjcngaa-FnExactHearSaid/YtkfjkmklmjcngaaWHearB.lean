import Derived.Test.YtkfjkmklmjcngaaWHearA
namespace Go.Proofs.Ytkfjkmklmjcngaa.Y
open Go Go.RowKit Go.Eng Go.Proofs
set_option maxHeartbeats 4000000 in
theorem __impl_Stream__hear_fn (x : Stream) (s : Seg) (hx : sentOk x) (hp : partIn x) (hs : segOk s = true) : Eng.Fn E.P 40 [.ob ((Stream.c x).map .w), .agg ((Seg.c s).map .r)] (.tup []) [.ob ((Stream.c (hearN x s)).map .w), .agg ((Seg.c s).map .r)] := by
 refine Eng.Fn.intro (E := E) (rvs := []) Try.func40 rfl rfl rfl (by simp [outSlots, moved, rvSlot, sl]) ?_
 intro B g bo
 refine CW.le [(0, .obj (bo 0) [I x.state, I x.iss, I x.una, I x.rcv, S x.wait, I x.sent, I x.fin, Bo x.peerFin, S x.in_, .w (sl 2 Late.c x.late) (g 0 9), Bo x.owe, I x.due, I x.times]), (1, .agg ((Seg.c s).map .r))] rfl (Le.of rfl) ?_
 have hbt := bits_in (segOk_flags hs)
 refine CW.seq ?_
 refine CW.region ?_
 refine RW.box (ds := ((Seg.c s).map .r)) rfl rfl rfl fun b1 => ?_
 refine RW.nil ?_
 refine CW.le [(0, .obj (bo 0) [I x.state, I x.iss, I x.una, I x.rcv, S x.wait, I x.sent, I x.fin, Bo x.peerFin, S x.in_, .w (sl 2 Late.c x.late) (g 0 9), Bo x.owe, I x.due, I x.times]), (3, .obj b1 ((Seg.c s).map .r))] rfl (Le.of rfl) ?_
 refine CW.seq ?_
 refine CW.drawn (by kernel_rfl) ?_
 refine RQ.v rfl (V.field rfl rfl rfl rfl (by decide) rfl) ?_
 refine RQ.v rfl (V.loadPrim (d := I s.flags) rfl rfl (.inl rfl) rfl rfl rfl) ?_
 refine RQ.v rfl (V.bits rfl rfl rfl rfl) ?_
 refine RQ.v rfl (V.cmpInt rfl rfl rfl rfl) ?_
 refine RQ.v rfl (V.field rfl rfl rfl rfl (by decide) rfl) ?_
 refine RQ.v rfl (V.loadPrim (d := I s.flags) rfl rfl (.inl rfl) rfl rfl rfl) ?_
 refine RQ.v rfl (V.bits rfl rfl rfl rfl) ?_
 refine RQ.v rfl (V.cmpInt rfl rfl rfl rfl) ?_
 refine RQ.v rfl (V.as (d := Bo ((andI s.flags 1) != 0)) rfl rfl) ?_
 refine RQ.v rfl (V.as (d := Bo ((andI s.flags 2) != 0)) rfl rfl) ?_
 refine RQ.nil ?_
 refine CW.le [(0, .obj (bo 0) [I x.state, I x.iss, I x.una, I x.rcv, S x.wait, I x.sent, I x.fin, Bo x.peerFin, S x.in_, .w (sl 2 Late.c x.late) (g 0 9), Bo x.owe, I x.due, I x.times]), (3, .obj b1 ((Seg.c s).map .r)), (4, Bo ((andI s.flags 1) != 0)), (5, Bo ((andI s.flags 2) != 0))] rfl (Le.of rfl) ?_
 refine CW.seq ?_
 refine CW.region ?_
 refine RW.v rfl (V.mv (d := .pt 0 (bo 0) 0) rfl rfl) ?_
 refine RW.v rfl (V.nilP rfl rfl) ?_
 refine RW.v rfl (V.field rfl rfl rfl rfl (by decide) rfl) ?_
 refine RW.v rfl (V.loadPrim (d := I x.iss) rfl rfl (.inl rfl) rfl rfl rfl) ?_
 refine RW.call rfl (impl_AddNum_fn x.iss 1) rfl (.cons (.one (.r .r)) (.cons (.one (.r .r)) (.nil))) fun g2 => ?_
 refine RW.v rfl (V.as (d := I (addNum x.iss 1)) rfl rfl) ?_
 refine RW.nil ?_
 refine CW.le [(0, .obj (bo 0) [I x.state, I x.iss, I x.una, I x.rcv, S x.wait, I x.sent, I x.fin, Bo x.peerFin, S x.in_, .w (sl 2 Late.c x.late) (g 0 9), Bo x.owe, I x.due, I x.times]), (3, .obj b1 ((Seg.c s).map .r)), (4, Bo ((andI s.flags 1) != 0)), (5, Bo ((andI s.flags 2) != 0)), (6, I (addNum x.iss 1))] rfl (Le.of rfl) ?_
 refine CW.seq ?_
 refine CW.region ?_
 refine RW.v rfl (V.mv (d := .pt 0 (bo 0) 0) rfl rfl) ?_
 refine RW.v rfl (V.nilP rfl rfl) ?_
 refine RW.v rfl (V.field rfl rfl rfl rfl (by decide) rfl) ?_
 refine RW.v rfl (V.loadPrim (d := I x.state) rfl rfl (.inl rfl) rfl rfl rfl) ?_
 refine RW.nil ?_
 refine CW.le [(0, .obj (bo 0) [I x.state, I x.iss, I x.una, I x.rcv, S x.wait, I x.sent, I x.fin, Bo x.peerFin, S x.in_, .w (sl 2 Late.c x.late) (g 0 9), Bo x.owe, I x.due, I x.times]), (3, .obj b1 ((Seg.c s).map .r)), (4, Bo ((andI s.flags 1) != 0)), (5, Bo ((andI s.flags 2) != 0)), (6, I (addNum x.iss 1)), (23, I x.state)] rfl (Le.of rfl) ?_
 refine CW.block ?_
 refine CW.seq ?_
 refine CW.region ?_
 refine RW.v rfl (V.cmpInt rfl rfl rfl rfl) ?_
 refine RW.v rfl (V.as (d := Bo (x.state == 1)) rfl rfl) ?_
 refine RW.nil ?_
 refine CW.le [(0, .obj (bo 0) [I x.state, I x.iss, I x.una, I x.rcv, S x.wait, I x.sent, I x.fin, Bo x.peerFin, S x.in_, .w (sl 2 Late.c x.late) (g 0 9), Bo x.owe, I x.due, I x.times]), (3, .obj b1 ((Seg.c s).map .r)), (4, Bo ((andI s.flags 1) != 0)), (5, Bo ((andI s.flags 2) != 0)), (6, I (addNum x.iss 1)), (23, I x.state), (24, Bo (x.state == 1))] rfl (Le.of rfl) ?_
 refine CW.cond rfl (fun h3 => ?_) (fun h3 => ?_)
 ·skip
  refine CW.seqJ 103 (fun (v4 : Bool) => [(0, .obj (bo 0) [I x.state, I x.iss, I x.una, I x.rcv, S x.wait, I x.sent, I x.fin, Bo x.peerFin, S x.in_, .w (sl 2 Late.c x.late) (g 0 9), Bo x.owe, I x.due, I x.times]), (3, .obj b1 ((Seg.c s).map .r)), (30, Bo v4)]) (fun v4 => v4 = (((andI s.flags 1) != 0) && (!((andI s.flags 2) != 0)))) ?_ ?_
  ·refine CW.region ?_
   refine RW.v rfl (V.mv (d := Bo ((andI s.flags 1) != 0)) rfl rfl) ?_
   refine RW.v rfl (V.mv (d := Bo ((andI s.flags 1) != 0)) rfl rfl) ?_
   refine RW.gv rfl rfl rfl rfl (fun h5 => V.mv (d := Bo ((andI s.flags 2) != 0)) rfl rfl) (fun h5 => ?_) (fun h5 => ?_)
   ·skip
    refine RW.gt rfl rfl rfl rfl (V.not rfl rfl) ?_
    refine RW.v rfl (V.pickT (d := Bo (!((andI s.flags 2) != 0))) rfl rfl rfl) ?_
    refine RW.nil ?_
    exact ⟨_, by first | rfl | (simp_all; done) | (simp_all; omega) | grind, rfl, Le.c rfl <| Le.c rfl <| Le.c rfl <| Le.e⟩
   ·skip
    refine RW.guardF rfl rfl rfl rfl ?_
    refine RW.v rfl (V.pickF (d := Bo false) rfl rfl rfl) ?_
    refine RW.nil ?_
    exact ⟨_, by first | rfl | (simp_all; done) | (simp_all; omega) | grind, rfl, Le.c rfl <| Le.c rfl <| Le.c rfl <| Le.e⟩
  ·intro v4 hv6
   refine CW.cond rfl (fun h7 => ?_) (fun h7 => ?_)
   ·skip
    refine CW.region ?_
    refine RW.v rfl (V.mv (d := .pt 0 (bo 0) 0) rfl rfl) ?_
    refine RW.v rfl (V.mv (d := .pt 0 (bo 0) 0) rfl rfl) ?_
    refine RW.v rfl (V.field rfl rfl rfl rfl (by decide) rfl) ?_
    refine RW.v rfl (V.loadPrim (d := I s.num) rfl rfl (.inl rfl) rfl rfl rfl) ?_
    refine RW.call rfl (impl_AddNum_fn s.num 1) rfl (.cons (.one (.r .r)) (.cons (.one (.r .r)) (.nil))) fun g8 => ?_
    refine RW.v rfl (V.nilP rfl rfl) ?_
    refine RW.v rfl (V.field rfl rfl rfl rfl (by decide) rfl) ?_
    refine RW.store (d := I (addNum s.num 1)) rfl rfl rfl rfl rfl rfl rfl (Nat.le_of_ble_eq_true rfl) rfl rfl ?_
    refine RW.v rfl (V.nilP rfl rfl) ?_
    refine RW.v rfl (V.field rfl rfl rfl rfl (by decide) rfl) ?_
    refine RW.store (d := I 3) rfl rfl rfl rfl rfl rfl rfl (Nat.le_of_ble_eq_true rfl) rfl rfl ?_
    refine RW.nil ?_
    exact Post.tup (by decide) RVs.e (AOs.obE (f := fun e => (Stream.c e).map .w) (e' := (⟨3, x.iss, x.una, (addNum s.num 1), x.wait, x.sent, x.fin, x.peerFin, x.in_, x.late, x.owe, x.due, x.times⟩ : Stream)) rfl (DT.v (DT.v (DT.v (DT.v (DT.v (DT.v (DT.v (DT.v (DT.v (DT.w (DT.v (DT.v (DT.v DT.e))))))))))))) (by unfold hearN; first | (simp_all [resetN]; done) | grind [resetN]) (AOs.a rfl AOs.e))
   ·skip
    refine CW.skip ?_
    exact Post.tup (by decide) RVs.e (AOs.obE (f := fun e => (Stream.c e).map .w) (e' := x) rfl (DT.v (DT.v (DT.v (DT.v (DT.v (DT.v (DT.v (DT.v (DT.v (DT.w (DT.v (DT.v (DT.v DT.e))))))))))))) (by unfold hearN; first | (simp_all [resetN]; done) | grind [resetN]) (AOs.a rfl AOs.e))
 ·skip
  refine CW.seq ?_
  refine CW.region ?_
  refine RW.v rfl (V.cmpInt rfl rfl rfl rfl) ?_
  refine RW.v rfl (V.as (d := Bo (x.state == 2)) rfl rfl) ?_
  refine RW.nil ?_
  refine CW.le [(0, .obj (bo 0) [I x.state, I x.iss, I x.una, I x.rcv, S x.wait, I x.sent, I x.fin, Bo x.peerFin, S x.in_, .w (sl 2 Late.c x.late) (g 0 9), Bo x.owe, I x.due, I x.times]), (3, .obj b1 ((Seg.c s).map .r)), (4, Bo ((andI s.flags 1) != 0)), (5, Bo ((andI s.flags 2) != 0)), (6, I (addNum x.iss 1)), (23, I x.state), (40, Bo (x.state == 2))] rfl (Le.of rfl) ?_
  refine CW.cond rfl (fun h9 => ?_) (fun h9 => ?_)
  ·skip
   refine CW.seqJ 103 (fun (v10 : Bool) => [(0, .obj (bo 0) [I x.state, I x.iss, I x.una, I x.rcv, S x.wait, I x.sent, I x.fin, Bo x.peerFin, S x.in_, .w (sl 2 Late.c x.late) (g 0 9), Bo x.owe, I x.due, I x.times]), (3, .obj b1 ((Seg.c s).map .r)), (6, I (addNum x.iss 1)), (51, Bo v10)]) (fun v10 => v10 = ((((andI s.flags 1) != 0) && ((andI s.flags 2) != 0)) && (s.ack == (addNum x.iss 1)))) ?_ ?_
   ·refine CW.region ?_
    refine RW.v rfl (V.mv (d := Bo ((andI s.flags 1) != 0)) rfl rfl) ?_
    refine RW.v rfl (V.mv (d := Bo ((andI s.flags 1) != 0)) rfl rfl) ?_
    refine RW.gv rfl rfl rfl rfl (fun h11 => V.mv (d := Bo ((andI s.flags 2) != 0)) rfl rfl) (fun h11 => ?_) (fun h11 => ?_)
    ·skip
     refine RW.v rfl (V.pickT (d := Bo ((andI s.flags 2) != 0)) rfl rfl rfl) ?_
     refine RW.v rfl (V.mv (d := Bo ((andI s.flags 2) != 0)) rfl rfl) ?_
     refine RW.gv rfl rfl rfl rfl (fun h12 => V.field rfl rfl rfl rfl (by decide) rfl) (fun h12 => ?_) (fun h12 => ?_)
     ·skip
      refine RW.gt rfl rfl rfl rfl (V.loadPrim (d := I s.ack) rfl rfl (.inl rfl) rfl rfl rfl) ?_
      refine RW.gt rfl rfl rfl rfl (V.mv (d := I (addNum x.iss 1)) rfl rfl) ?_
      refine RW.gt rfl rfl rfl rfl (V.cmpInt rfl rfl rfl rfl) ?_
      refine RW.v rfl (V.pickT (d := Bo (s.ack == (addNum x.iss 1))) rfl rfl rfl) ?_
      refine RW.nil ?_
      exact ⟨_, by first | rfl | (simp_all; done) | (simp_all; omega) | grind, rfl, Le.c rfl <| Le.c rfl <| Le.c rfl <| Le.c rfl <| Le.e⟩
     ·skip
      refine RW.guardF rfl rfl rfl rfl ?_
      refine RW.guardF rfl rfl rfl rfl ?_
      refine RW.guardF rfl rfl rfl rfl ?_
      refine RW.v rfl (V.pickF (d := Bo false) rfl rfl rfl) ?_
      refine RW.nil ?_
      exact ⟨_, by first | rfl | (simp_all; done) | (simp_all; omega) | grind, rfl, Le.c rfl <| Le.c rfl <| Le.c rfl <| Le.c rfl <| Le.e⟩
    ·skip
     refine RW.v rfl (V.pickF (d := Bo false) rfl rfl rfl) ?_
     refine RW.v rfl (V.mv (d := Bo false) rfl rfl) ?_
     refine RW.guardF rfl rfl rfl rfl ?_
     refine RW.guardF rfl rfl rfl rfl ?_
     refine RW.guardF rfl rfl rfl rfl ?_
     refine RW.guardF rfl rfl rfl rfl ?_
     refine RW.v rfl (V.pickF (d := Bo false) rfl rfl rfl) ?_
     refine RW.nil ?_
     exact ⟨_, by first | rfl | (simp_all; done) | (simp_all; omega) | grind, rfl, Le.c rfl <| Le.c rfl <| Le.c rfl <| Le.c rfl <| Le.e⟩
   ·intro v10 hv13
    refine CW.cond rfl (fun h14 => ?_) (fun h14 => ?_)
    ·skip
     refine CW.seq ?_
     refine CW.region ?_
     refine RW.v rfl (V.mv (d := .pt 0 (bo 0) 0) rfl rfl) ?_
     refine RW.v rfl (V.mv (d := .pt 0 (bo 0) 0) rfl rfl) ?_
     refine RW.v rfl (V.mv (d := .pt 0 (bo 0) 0) rfl rfl) ?_
     refine RW.v rfl (V.mv (d := .pt 0 (bo 0) 0) rfl rfl) ?_
     refine RW.v rfl (V.field rfl rfl rfl rfl (by decide) rfl) ?_
     refine RW.v rfl (V.loadPrim (d := I s.num) rfl rfl (.inl rfl) rfl rfl rfl) ?_
     refine RW.call rfl (impl_AddNum_fn s.num 1) rfl (.cons (.one (.r .r)) (.cons (.one (.r .r)) (.nil))) fun g15 => ?_
     refine RW.v rfl (V.mv (d := I (addNum x.iss 1)) rfl rfl) ?_
     refine RW.v rfl (V.nilP rfl rfl) ?_
     refine RW.v rfl (V.field rfl rfl rfl rfl (by decide) rfl) ?_
     refine RW.store (d := I (addNum s.num 1)) rfl rfl rfl rfl rfl rfl rfl (Nat.le_of_ble_eq_true rfl) rfl rfl ?_
     refine RW.v rfl (V.nilP rfl rfl) ?_
     refine RW.v rfl (V.field rfl rfl rfl rfl (by decide) rfl) ?_
     refine RW.store (d := I (addNum x.iss 1)) rfl rfl rfl rfl rfl rfl rfl (Nat.le_of_ble_eq_true rfl) rfl rfl ?_
     refine RW.v rfl (V.nilP rfl rfl) ?_
     refine RW.v rfl (V.field rfl rfl rfl rfl (by decide) rfl) ?_
     refine RW.store (d := I 4) rfl rfl rfl rfl rfl rfl rfl (Nat.le_of_ble_eq_true rfl) rfl rfl ?_
     refine RW.v rfl (V.nilP rfl rfl) ?_
     refine RW.v rfl (V.field rfl rfl rfl rfl (by decide) rfl) ?_
     refine RW.store (d := Bo true) rfl rfl rfl rfl rfl rfl rfl (Nat.le_of_ble_eq_true rfl) rfl rfl ?_
     refine RW.nil ?_
     refine CW.le [(0, .obj (bo 0) [I 4, I x.iss, I (addNum x.iss 1), I (addNum s.num 1), S x.wait, I x.sent, I x.fin, Bo x.peerFin, S x.in_, .w (sl 2 Late.c x.late) (g 0 9), Bo true, I x.due, I x.times])] rfl (Le.of rfl) ?_
     refine CW.region ?_
     refine RW.v rfl (V.mv (d := .pt 0 (bo 0) 0) rfl rfl) ?_
     refine RW.callW (k := 0) (__impl_Stream__reset_fn (⟨4, x.iss, (addNum x.iss 1), (addNum s.num 1), x.wait, x.sent, x.fin, x.peerFin, x.in_, x.late, true, x.due, x.times⟩ : Stream)) rfl rfl (Nat.le_of_ble_eq_true rfl) (by decide) (.here (AsW.ob (DT.v (DT.v (DT.v (DT.v (DT.v (DT.v (DT.v (DT.v (DT.v (DT.w (DT.v (DT.v (DT.v DT.e))))))))))))) rfl) (.nil)) rfl fun g16 q17 => ?_
     refine RW.nil ?_
     exact Post.tup (by decide) RVs.e (AOs.obE (f := fun e => (Stream.c e).map .w) (e' := (resetN (⟨4, x.iss, (addNum x.iss 1), (addNum s.num 1), x.wait, x.sent, x.fin, x.peerFin, x.in_, x.late, true, x.due, x.times⟩ : Stream))) rfl (DT.v (DT.v (DT.v (DT.v (DT.v (DT.v (DT.v (DT.v (DT.v (DT.w (DT.v (DT.v (DT.v DT.e))))))))))))) (by unfold hearN; first | (simp_all [resetN]; done) | grind [resetN]) (AOs.a rfl AOs.e))
    ·skip
     refine CW.skip ?_
     exact Post.tup (by decide) RVs.e (AOs.obE (f := fun e => (Stream.c e).map .w) (e' := x) rfl (DT.v (DT.v (DT.v (DT.v (DT.v (DT.v (DT.v (DT.v (DT.v (DT.w (DT.v (DT.v (DT.v DT.e))))))))))))) (by unfold hearN; first | (simp_all [resetN]; done) | grind [resetN]) (AOs.a rfl AOs.e))
  ·skip
   refine CW.seq ?_
   refine CW.region ?_
   refine RW.v rfl (V.cmpInt rfl rfl rfl rfl) ?_
   refine RW.v rfl (V.as (d := Bo (x.state == 3)) rfl rfl) ?_
   refine RW.nil ?_
   refine CW.le [(0, .obj (bo 0) [I x.state, I x.iss, I x.una, I x.rcv, S x.wait, I x.sent, I x.fin, Bo x.peerFin, S x.in_, .w (sl 2 Late.c x.late) (g 0 9), Bo x.owe, I x.due, I x.times]), (3, .obj b1 ((Seg.c s).map .r)), (4, Bo ((andI s.flags 1) != 0)), (5, Bo ((andI s.flags 2) != 0)), (6, I (addNum x.iss 1)), (23, I x.state), (70, Bo (x.state == 3))] rfl (Le.of rfl) ?_
   refine CW.cond rfl (fun h18 => ?_) (fun h18 => ?_)
   ·skip
    refine CW.seq ?_
    refine CW.region ?_
    refine RW.v rfl (V.mv (d := Bo ((andI s.flags 1) != 0)) rfl rfl) ?_
    refine RW.nil ?_
    refine CW.le [(0, .obj (bo 0) [I x.state, I x.iss, I x.una, I x.rcv, S x.wait, I x.sent, I x.fin, Bo x.peerFin, S x.in_, .w (sl 2 Late.c x.late) (g 0 9), Bo x.owe, I x.due, I x.times]), (3, .obj b1 ((Seg.c s).map .r)), (5, Bo ((andI s.flags 2) != 0)), (6, I (addNum x.iss 1)), (72, Bo ((andI s.flags 1) != 0))] rfl (Le.of rfl) ?_
    refine CW.cond rfl (fun h19 => ?_) (fun h19 => ?_)
    ·skip
     refine CW.region ?_
     refine RW.v rfl (V.mv (d := .pt 0 (bo 0) 0) rfl rfl) ?_
     refine RW.callW (k := 0) (__impl_Stream__reset_fn x) rfl rfl (Nat.le_of_ble_eq_true rfl) (by decide) (.here (AsW.ob (DT.v (DT.v (DT.v (DT.v (DT.v (DT.v (DT.v (DT.v (DT.v (DT.w (DT.v (DT.v (DT.v DT.e))))))))))))) rfl) (.nil)) rfl fun g20 q21 => ?_
     refine RW.nil ?_
     exact Post.tup (by decide) RVs.e (AOs.obE (f := fun e => (Stream.c e).map .w) (e' := (resetN x)) rfl (DT.v (DT.v (DT.v (DT.v (DT.v (DT.v (DT.v (DT.v (DT.v (DT.w (DT.v (DT.v (DT.v DT.e))))))))))))) (by unfold hearN; first | (simp_all [resetN]; done) | grind [resetN]) (AOs.a rfl AOs.e))
    ·skip
     refine CW.seqJ 103 (fun (v22 : Bool) => [(0, .obj (bo 0) [I x.state, I x.iss, I x.una, I x.rcv, S x.wait, I x.sent, I x.fin, Bo x.peerFin, S x.in_, .w (sl 2 Late.c x.late) (g 0 9), Bo x.owe, I x.due, I x.times]), (3, .obj b1 ((Seg.c s).map .r)), (6, I (addNum x.iss 1)), (81, Bo v22)]) (fun v22 => v22 = (((andI s.flags 2) != 0) && (s.ack == (addNum x.iss 1)))) ?_ ?_
     ·refine CW.region ?_
      refine RW.v rfl (V.mv (d := Bo ((andI s.flags 2) != 0)) rfl rfl) ?_
      refine RW.v rfl (V.mv (d := Bo ((andI s.flags 2) != 0)) rfl rfl) ?_
      refine RW.gv rfl rfl rfl rfl (fun h23 => V.field rfl rfl rfl rfl (by decide) rfl) (fun h23 => ?_) (fun h23 => ?_)
      ·skip
       refine RW.gt rfl rfl rfl rfl (V.loadPrim (d := I s.ack) rfl rfl (.inl rfl) rfl rfl rfl) ?_
       refine RW.gt rfl rfl rfl rfl (V.mv (d := I (addNum x.iss 1)) rfl rfl) ?_
       refine RW.gt rfl rfl rfl rfl (V.cmpInt rfl rfl rfl rfl) ?_
       refine RW.v rfl (V.pickT (d := Bo (s.ack == (addNum x.iss 1))) rfl rfl rfl) ?_
       refine RW.nil ?_
       exact ⟨_, by first | rfl | (simp_all; done) | (simp_all; omega) | grind, rfl, Le.c rfl <| Le.c rfl <| Le.c rfl <| Le.c rfl <| Le.e⟩
      ·skip
       refine RW.guardF rfl rfl rfl rfl ?_
       refine RW.guardF rfl rfl rfl rfl ?_
       refine RW.guardF rfl rfl rfl rfl ?_
       refine RW.v rfl (V.pickF (d := Bo false) rfl rfl rfl) ?_
       refine RW.nil ?_
       exact ⟨_, by first | rfl | (simp_all; done) | (simp_all; omega) | grind, rfl, Le.c rfl <| Le.c rfl <| Le.c rfl <| Le.c rfl <| Le.e⟩
     ·intro v22 hv24
      refine CW.cond rfl (fun h25 => ?_) (fun h25 => ?_)
      ·skip
       refine CW.seq ?_
       refine CW.region ?_
       refine RW.v rfl (V.mv (d := .pt 0 (bo 0) 0) rfl rfl) ?_
       refine RW.v rfl (V.mv (d := .pt 0 (bo 0) 0) rfl rfl) ?_
       refine RW.v rfl (V.mv (d := I (addNum x.iss 1)) rfl rfl) ?_
       refine RW.v rfl (V.nilP rfl rfl) ?_
       refine RW.v rfl (V.field rfl rfl rfl rfl (by decide) rfl) ?_
       refine RW.store (d := I (addNum x.iss 1)) rfl rfl rfl rfl rfl rfl rfl (Nat.le_of_ble_eq_true rfl) rfl rfl ?_
       refine RW.v rfl (V.nilP rfl rfl) ?_
       refine RW.v rfl (V.field rfl rfl rfl rfl (by decide) rfl) ?_
       refine RW.store (d := I 4) rfl rfl rfl rfl rfl rfl rfl (Nat.le_of_ble_eq_true rfl) rfl rfl ?_
       refine RW.nil ?_
       refine CW.le [(0, .obj (bo 0) [I 4, I x.iss, I (addNum x.iss 1), I x.rcv, S x.wait, I x.sent, I x.fin, Bo x.peerFin, S x.in_, .w (sl 2 Late.c x.late) (g 0 9), Bo x.owe, I x.due, I x.times]), (3, .obj b1 ((Seg.c s).map .r))] rfl (Le.of rfl) ?_
       refine CW.seq ?_
       refine CW.region ?_
       refine RW.v rfl (V.mv (d := .pt 0 (bo 0) 0) rfl rfl) ?_
       refine RW.callW (k := 0) (__impl_Stream__reset_fn (⟨4, x.iss, (addNum x.iss 1), x.rcv, x.wait, x.sent, x.fin, x.peerFin, x.in_, x.late, x.owe, x.due, x.times⟩ : Stream)) rfl rfl (Nat.le_of_ble_eq_true rfl) (by decide) (.here (AsW.ob (DT.v (DT.v (DT.v (DT.v (DT.v (DT.v (DT.v (DT.v (DT.v (DT.w (DT.v (DT.v (DT.v DT.e))))))))))))) rfl) (.nil)) rfl fun g26 q27 => ?_
       refine RW.nil ?_
       refine CW.le [(0, .obj (bo 0) [I ((resetN (⟨4, x.iss, (addNum x.iss 1), x.rcv, x.wait, x.sent, x.fin, x.peerFin, x.in_, x.late, x.owe, x.due, x.times⟩ : Stream)).state), I ((resetN (⟨4, x.iss, (addNum x.iss 1), x.rcv, x.wait, x.sent, x.fin, x.peerFin, x.in_, x.late, x.owe, x.due, x.times⟩ : Stream)).iss), I ((resetN (⟨4, x.iss, (addNum x.iss 1), x.rcv, x.wait, x.sent, x.fin, x.peerFin, x.in_, x.late, x.owe, x.due, x.times⟩ : Stream)).una), I ((resetN (⟨4, x.iss, (addNum x.iss 1), x.rcv, x.wait, x.sent, x.fin, x.peerFin, x.in_, x.late, x.owe, x.due, x.times⟩ : Stream)).rcv), S ((resetN (⟨4, x.iss, (addNum x.iss 1), x.rcv, x.wait, x.sent, x.fin, x.peerFin, x.in_, x.late, x.owe, x.due, x.times⟩ : Stream)).wait), I ((resetN (⟨4, x.iss, (addNum x.iss 1), x.rcv, x.wait, x.sent, x.fin, x.peerFin, x.in_, x.late, x.owe, x.due, x.times⟩ : Stream)).sent), I ((resetN (⟨4, x.iss, (addNum x.iss 1), x.rcv, x.wait, x.sent, x.fin, x.peerFin, x.in_, x.late, x.owe, x.due, x.times⟩ : Stream)).fin), Bo ((resetN (⟨4, x.iss, (addNum x.iss 1), x.rcv, x.wait, x.sent, x.fin, x.peerFin, x.in_, x.late, x.owe, x.due, x.times⟩ : Stream)).peerFin), S ((resetN (⟨4, x.iss, (addNum x.iss 1), x.rcv, x.wait, x.sent, x.fin, x.peerFin, x.in_, x.late, x.owe, x.due, x.times⟩ : Stream)).in_), .w (sl 2 Late.c ((resetN (⟨4, x.iss, (addNum x.iss 1), x.rcv, x.wait, x.sent, x.fin, x.peerFin, x.in_, x.late, x.owe, x.due, x.times⟩ : Stream)).late)) (q27 9), Bo ((resetN (⟨4, x.iss, (addNum x.iss 1), x.rcv, x.wait, x.sent, x.fin, x.peerFin, x.in_, x.late, x.owe, x.due, x.times⟩ : Stream)).owe), I ((resetN (⟨4, x.iss, (addNum x.iss 1), x.rcv, x.wait, x.sent, x.fin, x.peerFin, x.in_, x.late, x.owe, x.due, x.times⟩ : Stream)).due), I ((resetN (⟨4, x.iss, (addNum x.iss 1), x.rcv, x.wait, x.sent, x.fin, x.peerFin, x.in_, x.late, x.owe, x.due, x.times⟩ : Stream)).times)]), (3, .obj b1 ((Seg.c s).map .r))] rfl (Le.of rfl) ?_
       refine CW.region ?_
       refine RW.v rfl (V.mv (d := .pt 0 (bo 0) 0) rfl rfl) ?_
       refine RW.v rfl (V.loadAgg rfl rfl rfl rfl rfl (Nat.le_of_ble_eq_true rfl)) ?_
       refine RW.callW (k := 0) (__impl_Stream__hearOpen_fn (resetN (⟨4, x.iss, (addNum x.iss 1), x.rcv, x.wait, x.sent, x.fin, x.peerFin, x.in_, x.late, x.owe, x.due, x.times⟩ : Stream)) s hx hp hs) rfl rfl (Nat.le_of_ble_eq_true rfl) (by decide) (.here (AsW.ob (DT.v (DT.v (DT.v (DT.v (DT.v (DT.v (DT.v (DT.v (DT.v (DT.w (DT.v (DT.v (DT.v DT.e))))))))))))) rfl) (.cons (.agg (.cons (.r .r) (.cons (.r .r) (.cons (.r .r) (.cons (.r .r) (.nil)))))) (.nil))) rfl fun g28 q29 => ?_
       refine RW.nil ?_
       exact Post.tup (by decide) RVs.e (AOs.obE (f := fun e => (Stream.c e).map .w) (e' := (hearOpenN (resetN (⟨4, x.iss, (addNum x.iss 1), x.rcv, x.wait, x.sent, x.fin, x.peerFin, x.in_, x.late, x.owe, x.due, x.times⟩ : Stream)) s)) rfl (DT.v (DT.v (DT.v (DT.v (DT.v (DT.v (DT.v (DT.v (DT.v (DT.w (DT.v (DT.v (DT.v DT.e))))))))))))) (by unfold hearN; first | (simp_all [resetN]; done) | grind [resetN]) (AOs.a rfl AOs.e))
      ·skip
       refine CW.skip ?_
       exact Post.tup (by decide) RVs.e (AOs.obE (f := fun e => (Stream.c e).map .w) (e' := x) rfl (DT.v (DT.v (DT.v (DT.v (DT.v (DT.v (DT.v (DT.v (DT.v (DT.w (DT.v (DT.v (DT.v DT.e))))))))))))) (by unfold hearN; first | (simp_all [resetN]; done) | grind [resetN]) (AOs.a rfl AOs.e))
   ·skip
    refine CW.seq ?_
    refine CW.region ?_
    refine RW.v rfl (V.cmpInt rfl rfl rfl rfl) ?_
    refine RW.v rfl (V.as (d := Bo (x.state == 4)) rfl rfl) ?_
    refine RW.nil ?_
    refine CW.le [(0, .obj (bo 0) [I x.state, I x.iss, I x.una, I x.rcv, S x.wait, I x.sent, I x.fin, Bo x.peerFin, S x.in_, .w (sl 2 Late.c x.late) (g 0 9), Bo x.owe, I x.due, I x.times]), (3, .obj b1 ((Seg.c s).map .r)), (4, Bo ((andI s.flags 1) != 0)), (94, Bo (x.state == 4))] rfl (Le.of rfl) ?_
    refine CW.cond rfl (fun h30 => ?_) (fun h30 => ?_)
    ·skip
     refine CW.seq ?_
     refine CW.region ?_
     refine RW.v rfl (V.mv (d := Bo ((andI s.flags 1) != 0)) rfl rfl) ?_
     refine RW.nil ?_
     refine CW.le [(0, .obj (bo 0) [I x.state, I x.iss, I x.una, I x.rcv, S x.wait, I x.sent, I x.fin, Bo x.peerFin, S x.in_, .w (sl 2 Late.c x.late) (g 0 9), Bo x.owe, I x.due, I x.times]), (3, .obj b1 ((Seg.c s).map .r)), (96, Bo ((andI s.flags 1) != 0))] rfl (Le.of rfl) ?_
     refine CW.cond rfl (fun h31 => ?_) (fun h31 => ?_)
     ·skip
      refine CW.region ?_
      refine RW.v rfl (V.mv (d := .pt 0 (bo 0) 0) rfl rfl) ?_
      refine RW.v rfl (V.nilP rfl rfl) ?_
      refine RW.v rfl (V.field rfl rfl rfl rfl (by decide) rfl) ?_
      refine RW.store (d := Bo true) rfl rfl rfl rfl rfl rfl rfl (Nat.le_of_ble_eq_true rfl) rfl rfl ?_
      refine RW.nil ?_
      exact Post.tup (by decide) RVs.e (AOs.obE (f := fun e => (Stream.c e).map .w) (e' := (⟨x.state, x.iss, x.una, x.rcv, x.wait, x.sent, x.fin, x.peerFin, x.in_, x.late, true, x.due, x.times⟩ : Stream)) rfl (DT.v (DT.v (DT.v (DT.v (DT.v (DT.v (DT.v (DT.v (DT.v (DT.w (DT.v (DT.v (DT.v DT.e))))))))))))) (by unfold hearN; first | (simp_all [resetN]; done) | grind [resetN]) (AOs.a rfl AOs.e))
     ·skip
      refine CW.region ?_
      refine RW.v rfl (V.mv (d := .pt 0 (bo 0) 0) rfl rfl) ?_
      refine RW.v rfl (V.loadAgg rfl rfl rfl rfl rfl (Nat.le_of_ble_eq_true rfl)) ?_
      refine RW.callW (k := 0) (__impl_Stream__hearOpen_fn x s hx hp hs) rfl rfl (Nat.le_of_ble_eq_true rfl) (by decide) (.here (AsW.ob (DT.v (DT.v (DT.v (DT.v (DT.v (DT.v (DT.v (DT.v (DT.v (DT.w (DT.v (DT.v (DT.v DT.e))))))))))))) rfl) (.cons (.agg (.cons (.r .r) (.cons (.r .r) (.cons (.r .r) (.cons (.r .r) (.nil)))))) (.nil))) rfl fun g32 q33 => ?_
      refine RW.nil ?_
      exact Post.tup (by decide) RVs.e (AOs.obE (f := fun e => (Stream.c e).map .w) (e' := (hearOpenN x s)) rfl (DT.v (DT.v (DT.v (DT.v (DT.v (DT.v (DT.v (DT.v (DT.v (DT.w (DT.v (DT.v (DT.v DT.e))))))))))))) (by unfold hearN; first | (simp_all [resetN]; done) | grind [resetN]) (AOs.a rfl AOs.e))
    ·skip
     refine CW.skip ?_
     exact Post.tup (by decide) RVs.e (AOs.obE (f := fun e => (Stream.c e).map .w) (e' := x) rfl (DT.v (DT.v (DT.v (DT.v (DT.v (DT.v (DT.v (DT.v (DT.v (DT.w (DT.v (DT.v (DT.v DT.e))))))))))))) (by unfold hearN; first | (simp_all [resetN]; done) | grind [resetN]) (AOs.a rfl AOs.e))
set_option maxHeartbeats 4000000 in
theorem impl_Hear_fn (x : Stream) (s : Seg) (hm : x.late.length ≤ 1048576) : Eng.Fn E.P 11 [.agg ((Stream.c x).map .r), .agg ((Seg.c s).map .r)] (.one (.agg ((Stream.c (hear x s)).map .w))) [.agg ((Stream.c x).map .r), .agg ((Seg.c s).map .r)] := by
 refine Eng.Fn.intro (E := E) (rvs := [.cell 4 28]) Try.func11 rfl rfl rfl (by simp [outSlots, moved, rvSlot, sl]) ?_
 intro B g bo
 refine CW.le [(0, .agg ((Stream.c x).map .r)), (1, .agg ((Seg.c s).map .r))] rfl (Le.of rfl) ?_
 refine CW.seq ?_
 refine CW.region ?_
 refine RW.box (ds := ((Stream.c x).map .r)) rfl rfl rfl fun b1 => ?_
 refine RW.box (ds := ((Seg.c s).map .r)) rfl rfl rfl fun b2 => ?_
 refine RW.alloc (ds := [I 0, I 0, I 0, I 0, S (⟨#[]⟩), I 0, I 0, Bo false, S (⟨#[]⟩), .r (.v (.slice none 0 0)), Bo false, I 0, I 0]) rfl rfl rfl rfl fun b3 => ?_
 refine RW.nil ?_
 refine CW.le [(2, .obj b1 ((Stream.c x).map .r)), (3, .obj b2 ((Seg.c s).map .r)), (4, .obj b3 [I 0, I 0, I 0, I 0, S (⟨#[]⟩), I 0, I 0, Bo false, S (⟨#[]⟩), .r (.v (.slice none 0 0)), Bo false, I 0, I 0])] rfl (Le.of rfl) ?_
 refine CW.seq ?_
 refine CW.seqJ 27 (fun (v4 : Bool) => [(2, .obj b1 ((Stream.c x).map .r)), (3, .obj b2 ((Seg.c s).map .r)), (4, .obj b3 [I 0, I 0, I 0, I 0, S (⟨#[]⟩), I 0, I 0, Bo false, S (⟨#[]⟩), .r (.v (.slice none 0 0)), Bo false, I 0, I 0]), (13, Bo v4)]) (fun v4 => v4 = ((!(streamOk x)) || (!(segOk s)))) ?_ ?_
 ·refine CW.region ?_
  refine RW.v rfl (V.loadAgg rfl rfl rfl rfl rfl (Nat.le_of_ble_eq_true rfl)) ?_
  refine RW.call rfl (impl_StreamOk_fn x) rfl (.cons (.agg (.cons (.r .r) (.cons (.r .r) (.cons (.r .r) (.cons (.r .r) (.cons (.r .r) (.cons (.r .r) (.cons (.r .r) (.cons (.r .r) (.cons (.r .r) (.cons (.r .r) (.cons (.r .r) (.cons (.r .r) (.cons (.r .r) (.nil))))))))))))))) (.nil)) fun g5 => ?_
  refine RW.v rfl (V.not rfl rfl) ?_
  refine RW.v rfl (V.mv (d := Bo (!(streamOk x))) rfl rfl) ?_
  refine RW.gv rfl rfl rfl rfl (fun h6 => V.loadAgg rfl rfl rfl rfl rfl (Nat.le_of_ble_eq_true rfl)) (fun h6 => ?_) (fun h6 => ?_)
  ·skip
   refine RW.gcall rfl rfl rfl rfl (impl_SegOk_fn s) rfl (.cons (.agg (.cons (.r .r) (.cons (.r .r) (.cons (.r .r) (.cons (.r .r) (.nil)))))) (.nil)) fun g7 => ?_
   refine RW.gt rfl rfl rfl rfl (V.not rfl rfl) ?_
   refine RW.v rfl (V.pickF (d := Bo (!(segOk s))) rfl rfl rfl) ?_
   refine RW.nil ?_
   exact ⟨_, by first | rfl | (simp_all; done) | (simp_all; omega) | grind, rfl, Le.c rfl <| Le.c rfl <| Le.c rfl <| Le.c rfl <| Le.e⟩
  ·skip
   refine RW.guardF rfl rfl rfl rfl ?_
   refine RW.guardF rfl rfl rfl rfl ?_
   refine RW.v rfl (V.pickT (d := Bo true) rfl rfl rfl) ?_
   refine RW.nil ?_
   exact ⟨_, by first | rfl | (simp_all; done) | (simp_all; omega) | grind, rfl, Le.c rfl <| Le.c rfl <| Le.c rfl <| Le.c rfl <| Le.e⟩
 ·intro v4 hv8
  refine CW.cond rfl (fun h9 => ?_) (fun h9 => ?_)
  ·skip
   refine CW.seq ?_
   refine CW.region ?_
   refine RW.v rfl (V.loadAgg rfl rfl rfl rfl rfl (Nat.le_of_ble_eq_true rfl)) ?_
   refine RW.call rfl (impl_copyStream_fn x hm) rfl (.cons (.agg (.cons (.r .r) (.cons (.r .r) (.cons (.r .r) (.cons (.r .r) (.cons (.r .r) (.cons (.r .r) (.cons (.r .r) (.cons (.r .r) (.cons (.r .r) (.cons (.r .r) (.cons (.r .r) (.cons (.r .r) (.cons (.r .r) (.nil))))))))))))))) (.nil)) fun g10 => ?_
   refine RW.storeAgg (es := [I x.state, I x.iss, I x.una, I x.rcv, S x.wait, I x.sent, I x.fin, Bo x.peerFin, S x.in_, .al 15 (some 9) 2 x.late.length (g10 0 9) 0, Bo x.owe, I x.due, I x.times]) rfl rfl rfl rfl rfl rfl rfl rfl (Nat.le_of_ble_eq_true rfl) rfl ?_
   refine RW.le [(4, .obj b3 [I x.state, I x.iss, I x.una, I x.rcv, S x.wait, I x.sent, I x.fin, Bo x.peerFin, S x.in_, .al 15 (some 9) 2 x.late.length (g10 0 9) 0, Bo x.owe, I x.due, I x.times]), (15, .agg [I x.state, I x.iss, I x.una, I x.rcv, S x.wait, I x.sent, I x.fin, Bo x.peerFin, S x.in_, .w (sl 2 Late.c x.late) (g10 0 9), Bo x.owe, I x.due, I x.times])] rfl (Le.of rfl) ?_
   refine RW.pullA (k := 4) (l := 15) (j := 9) 4 15 9 rfl rfl rfl (by decide) rfl rfl rfl rfl ?_
   refine RW.le [(4, .obj b3 [I x.state, I x.iss, I x.una, I x.rcv, S x.wait, I x.sent, I x.fin, Bo x.peerFin, S x.in_, .w (sl 2 Late.c x.late) (g10 0 9), Bo x.owe, I x.due, I x.times])] rfl (Le.of rfl) ?_
   refine RW.nil ?_
   refine CW.le [(4, .obj b3 [I x.state, I x.iss, I x.una, I x.rcv, S x.wait, I x.sent, I x.fin, Bo x.peerFin, S x.in_, .w (sl 2 Late.c x.late) (g10 0 9), Bo x.owe, I x.due, I x.times])] rfl (Le.of rfl) ?_
   refine CW.ret ?_
   exact Post.one (RV.c (f := fun e => (Stream.c e).map .w) (e' := x) rfl rfl rfl rfl (DT.v (DT.v (DT.v (DT.v (DT.v (DT.v (DT.v (DT.v (DT.v (DT.w (DT.v (DT.v (DT.v DT.e))))))))))))) (by simp_all [hear] <;> (intro hh; omega))) (AOs.a rfl (AOs.a rfl AOs.e))
  ·skip
   have hxo : streamOk x = true := by simp_all
   have hso : segOk s = true := by simp_all
   refine CW.skip ?_
   refine CW.le [(2, .obj b1 ((Stream.c x).map .r)), (3, .obj b2 ((Seg.c s).map .r)), (4, .obj b3 [I 0, I 0, I 0, I 0, S (⟨#[]⟩), I 0, I 0, Bo false, S (⟨#[]⟩), .r (.v (.slice none 0 0)), Bo false, I 0, I 0])] rfl (Le.of rfl) ?_
   refine CW.seq ?_
   refine CW.region ?_
   refine RW.v rfl (V.loadAgg rfl rfl rfl rfl rfl (Nat.le_of_ble_eq_true rfl)) ?_
   refine RW.call rfl (impl_copyStream_fn x hm) rfl (.cons (.agg (.cons (.r .r) (.cons (.r .r) (.cons (.r .r) (.cons (.r .r) (.cons (.r .r) (.cons (.r .r) (.cons (.r .r) (.cons (.r .r) (.cons (.r .r) (.cons (.r .r) (.cons (.r .r) (.cons (.r .r) (.cons (.r .r) (.nil))))))))))))))) (.nil)) fun g11 => ?_
   refine RW.alloc (ds := [I 0, I 0, I 0, I 0, S (⟨#[]⟩), I 0, I 0, Bo false, S (⟨#[]⟩), .r (.v (.slice none 0 0)), Bo false, I 0, I 0]) rfl rfl rfl rfl fun b12 => ?_
   refine RW.storeAgg (es := [I x.state, I x.iss, I x.una, I x.rcv, S x.wait, I x.sent, I x.fin, Bo x.peerFin, S x.in_, .al 17 (some 9) 2 x.late.length (g11 0 9) 0, Bo x.owe, I x.due, I x.times]) rfl rfl rfl rfl rfl rfl rfl rfl (Nat.le_of_ble_eq_true rfl) rfl ?_
   refine RW.le [(2, .obj b1 ((Stream.c x).map .r)), (3, .obj b2 ((Seg.c s).map .r)), (4, .obj b3 [I 0, I 0, I 0, I 0, S (⟨#[]⟩), I 0, I 0, Bo false, S (⟨#[]⟩), .r (.v (.slice none 0 0)), Bo false, I 0, I 0]), (5, .obj b12 [I x.state, I x.iss, I x.una, I x.rcv, S x.wait, I x.sent, I x.fin, Bo x.peerFin, S x.in_, .al 17 (some 9) 2 x.late.length (g11 0 9) 0, Bo x.owe, I x.due, I x.times]), (17, .agg [I x.state, I x.iss, I x.una, I x.rcv, S x.wait, I x.sent, I x.fin, Bo x.peerFin, S x.in_, .w (sl 2 Late.c x.late) (g11 0 9), Bo x.owe, I x.due, I x.times])] rfl (Le.of rfl) ?_
   refine RW.pullA (k := 5) (l := 17) (j := 9) 5 17 9 rfl rfl rfl (by decide) rfl rfl rfl rfl ?_
   refine RW.le [(2, .obj b1 ((Stream.c x).map .r)), (3, .obj b2 ((Seg.c s).map .r)), (4, .obj b3 [I 0, I 0, I 0, I 0, S (⟨#[]⟩), I 0, I 0, Bo false, S (⟨#[]⟩), .r (.v (.slice none 0 0)), Bo false, I 0, I 0]), (5, .obj b12 [I x.state, I x.iss, I x.una, I x.rcv, S x.wait, I x.sent, I x.fin, Bo x.peerFin, S x.in_, .w (sl 2 Late.c x.late) (g11 0 9), Bo x.owe, I x.due, I x.times])] rfl (Le.of rfl) ?_
   refine RW.nil ?_
   refine CW.le [(2, .obj b1 ((Stream.c x).map .r)), (3, .obj b2 ((Seg.c s).map .r)), (4, .obj b3 [I 0, I 0, I 0, I 0, S (⟨#[]⟩), I 0, I 0, Bo false, S (⟨#[]⟩), .r (.v (.slice none 0 0)), Bo false, I 0, I 0]), (5, .obj b12 [I x.state, I x.iss, I x.una, I x.rcv, S x.wait, I x.sent, I x.fin, Bo x.peerFin, S x.in_, .w (sl 2 Late.c x.late) (g11 0 9), Bo x.owe, I x.due, I x.times])] rfl (Le.of rfl) ?_
   refine CW.seq ?_
   refine CW.region ?_
   refine RW.v rfl (V.loadAgg rfl rfl rfl rfl rfl (Nat.le_of_ble_eq_true rfl)) ?_
   refine RW.callW (k := 5) (__impl_Stream__hear_fn x s (streamOk_sent hxo) (streamOk_part hxo) hso) rfl rfl (Nat.le_of_ble_eq_true rfl) (by decide) (.here (AsW.ob (DT.v (DT.v (DT.v (DT.v (DT.v (DT.v (DT.v (DT.v (DT.v (DT.w (DT.v (DT.v (DT.v DT.e))))))))))))) rfl) (.cons (.agg (.cons (.r .r) (.cons (.r .r) (.cons (.r .r) (.cons (.r .r) (.nil)))))) (.nil))) rfl fun g13 q14 => ?_
   refine RW.nil ?_
   refine CW.le [(2, .obj b1 ((Stream.c x).map .r)), (4, .obj b3 [I 0, I 0, I 0, I 0, S (⟨#[]⟩), I 0, I 0, Bo false, S (⟨#[]⟩), .r (.v (.slice none 0 0)), Bo false, I 0, I 0]), (5, .obj b12 [I ((hearN x s).state), I ((hearN x s).iss), I ((hearN x s).una), I ((hearN x s).rcv), S ((hearN x s).wait), I ((hearN x s).sent), I ((hearN x s).fin), Bo ((hearN x s).peerFin), S ((hearN x s).in_), .w (sl 2 Late.c ((hearN x s).late)) (q14 9), Bo ((hearN x s).owe), I ((hearN x s).due), I ((hearN x s).times)])] rfl (Le.of rfl) ?_
   refine CW.seq ?_
   refine CW.seq ?_
   refine CW.region ?_
   refine RW.v rfl (V.field rfl rfl rfl rfl (by decide) rfl) ?_
   refine RW.v rfl (V.loadPrim (d := S ((hearN x s).in_)) rfl rfl (.inl rfl) rfl rfl rfl) ?_
   refine RW.v rfl (V.lenStr rfl (by kernel_rfl) rfl) ?_
   refine RW.v rfl (V.cmpInt rfl rfl rfl rfl) ?_
   refine RW.nil ?_
   refine CW.le [(2, .obj b1 ((Stream.c x).map .r)), (4, .obj b3 [I 0, I 0, I 0, I 0, S (⟨#[]⟩), I 0, I 0, Bo false, S (⟨#[]⟩), .r (.v (.slice none 0 0)), Bo false, I 0, I 0]), (5, .obj b12 [I ((hearN x s).state), I ((hearN x s).iss), I ((hearN x s).una), I ((hearN x s).rcv), S ((hearN x s).wait), I ((hearN x s).sent), I ((hearN x s).fin), Bo ((hearN x s).peerFin), S ((hearN x s).in_), .w (sl 2 Late.c ((hearN x s).late)) (q14 9), Bo ((hearN x s).owe), I ((hearN x s).due), I ((hearN x s).times)]), (23, Bo (decide ((((hearN x s).in_).size : Int) > 1000)))] rfl (Le.of rfl) ?_
   refine CW.cond rfl (fun h15 => ?_) (fun h15 => ?_)
   ·skip
    refine CW.seq ?_
    refine CW.region ?_
    refine RW.v rfl (V.loadAgg rfl rfl rfl rfl rfl (Nat.le_of_ble_eq_true rfl)) ?_
    refine RW.call rfl (impl_copyStream_fn x hm) rfl (.cons (.agg (.cons (.r .r) (.cons (.r .r) (.cons (.r .r) (.cons (.r .r) (.cons (.r .r) (.cons (.r .r) (.cons (.r .r) (.cons (.r .r) (.cons (.r .r) (.cons (.r .r) (.cons (.r .r) (.cons (.r .r) (.cons (.r .r) (.nil))))))))))))))) (.nil)) fun g16 => ?_
    refine RW.storeAgg (es := [I x.state, I x.iss, I x.una, I x.rcv, S x.wait, I x.sent, I x.fin, Bo x.peerFin, S x.in_, .al 25 (some 9) 2 x.late.length (g16 0 9) 0, Bo x.owe, I x.due, I x.times]) rfl rfl rfl rfl rfl rfl rfl rfl (Nat.le_of_ble_eq_true rfl) rfl ?_
    refine RW.le [(4, .obj b3 [I x.state, I x.iss, I x.una, I x.rcv, S x.wait, I x.sent, I x.fin, Bo x.peerFin, S x.in_, .al 25 (some 9) 2 x.late.length (g16 0 9) 0, Bo x.owe, I x.due, I x.times]), (25, .agg [I x.state, I x.iss, I x.una, I x.rcv, S x.wait, I x.sent, I x.fin, Bo x.peerFin, S x.in_, .w (sl 2 Late.c x.late) (g16 0 9), Bo x.owe, I x.due, I x.times])] rfl (Le.of rfl) ?_
    refine RW.pullA (k := 4) (l := 25) (j := 9) 4 25 9 rfl rfl rfl (by decide) rfl rfl rfl rfl ?_
    refine RW.le [(4, .obj b3 [I x.state, I x.iss, I x.una, I x.rcv, S x.wait, I x.sent, I x.fin, Bo x.peerFin, S x.in_, .w (sl 2 Late.c x.late) (g16 0 9), Bo x.owe, I x.due, I x.times])] rfl (Le.of rfl) ?_
    refine RW.nil ?_
    refine CW.le [(4, .obj b3 [I x.state, I x.iss, I x.una, I x.rcv, S x.wait, I x.sent, I x.fin, Bo x.peerFin, S x.in_, .w (sl 2 Late.c x.late) (g16 0 9), Bo x.owe, I x.due, I x.times])] rfl (Le.of rfl) ?_
    refine CW.ret ?_
    exact Post.one (RV.c (f := fun e => (Stream.c e).map .w) (e' := x) rfl rfl rfl rfl (DT.v (DT.v (DT.v (DT.v (DT.v (DT.v (DT.v (DT.v (DT.v (DT.w (DT.v (DT.v (DT.v DT.e))))))))))))) (by simp_all [hear] <;> (intro hh; omega))) (AOs.a rfl (AOs.a rfl AOs.e))
   ·skip
    refine CW.skip ?_
    refine CW.le [(4, .obj b3 [I 0, I 0, I 0, I 0, S (⟨#[]⟩), I 0, I 0, Bo false, S (⟨#[]⟩), .r (.v (.slice none 0 0)), Bo false, I 0, I 0]), (5, .obj b12 [I ((hearN x s).state), I ((hearN x s).iss), I ((hearN x s).una), I ((hearN x s).rcv), S ((hearN x s).wait), I ((hearN x s).sent), I ((hearN x s).fin), Bo ((hearN x s).peerFin), S ((hearN x s).in_), .w (sl 2 Late.c ((hearN x s).late)) (q14 9), Bo ((hearN x s).owe), I ((hearN x s).due), I ((hearN x s).times)])] rfl (Le.of rfl) ?_
    refine CW.seq ?_
    refine CW.region ?_
    refine RW.v rfl (V.loadAgg rfl rfl rfl rfl rfl (Nat.le_of_ble_eq_true rfl)) ?_
    refine RW.storeAgg (es := [I ((hearN x s).state), I ((hearN x s).iss), I ((hearN x s).una), I ((hearN x s).rcv), S ((hearN x s).wait), I ((hearN x s).sent), I ((hearN x s).fin), Bo ((hearN x s).peerFin), S ((hearN x s).in_), .al 5 (some 9) 2 (((hearN x s).late).length) (q14 9) 0, Bo ((hearN x s).owe), I ((hearN x s).due), I ((hearN x s).times)]) rfl rfl rfl rfl rfl rfl rfl rfl (Nat.le_of_ble_eq_true rfl) rfl ?_
    refine RW.le [(4, .obj b3 [I ((hearN x s).state), I ((hearN x s).iss), I ((hearN x s).una), I ((hearN x s).rcv), S ((hearN x s).wait), I ((hearN x s).sent), I ((hearN x s).fin), Bo ((hearN x s).peerFin), S ((hearN x s).in_), .al 5 (some 9) 2 (((hearN x s).late).length) (q14 9) 0, Bo ((hearN x s).owe), I ((hearN x s).due), I ((hearN x s).times)]), (5, .obj b12 [I ((hearN x s).state), I ((hearN x s).iss), I ((hearN x s).una), I ((hearN x s).rcv), S ((hearN x s).wait), I ((hearN x s).sent), I ((hearN x s).fin), Bo ((hearN x s).peerFin), S ((hearN x s).in_), .w (sl 2 Late.c ((hearN x s).late)) (q14 9), Bo ((hearN x s).owe), I ((hearN x s).due), I ((hearN x s).times)])] rfl (Le.of rfl) ?_
    refine RW.pullO (k := 4) (l := 5) (j := 9) 4 5 9 rfl rfl rfl (by decide) rfl rfl rfl rfl ?_
    refine RW.le [(4, .obj b3 [I ((hearN x s).state), I ((hearN x s).iss), I ((hearN x s).una), I ((hearN x s).rcv), S ((hearN x s).wait), I ((hearN x s).sent), I ((hearN x s).fin), Bo ((hearN x s).peerFin), S ((hearN x s).in_), .w (sl 2 Late.c ((hearN x s).late)) (q14 9), Bo ((hearN x s).owe), I ((hearN x s).due), I ((hearN x s).times)])] rfl (Le.of rfl) ?_
    refine RW.nil ?_
    refine CW.le [(4, .obj b3 [I ((hearN x s).state), I ((hearN x s).iss), I ((hearN x s).una), I ((hearN x s).rcv), S ((hearN x s).wait), I ((hearN x s).sent), I ((hearN x s).fin), Bo ((hearN x s).peerFin), S ((hearN x s).in_), .w (sl 2 Late.c ((hearN x s).late)) (q14 9), Bo ((hearN x s).owe), I ((hearN x s).due), I ((hearN x s).times)])] rfl (Le.of rfl) ?_
    refine CW.ret ?_
    exact Post.one (RV.c (f := fun e => (Stream.c e).map .w) (e' := (hearN x s)) rfl rfl rfl rfl (DT.v (DT.v (DT.v (DT.v (DT.v (DT.v (DT.v (DT.v (DT.v (DT.w (DT.v (DT.v (DT.v DT.e))))))))))))) (by simp_all [hear] <;> (intro hh; omega))) (AOs.a rfl (AOs.a rfl AOs.e))
set_option maxHeartbeats 4000000 in
theorem spec_l01In_fn (n : Int) (x : Int) (y : Int) : Eng.Fn E.P 53 [.one (.r (.v (.int .i64 n))), .one (.r (.v (.int .i64 x))), .one (.r (.v (.int .i64 y)))] (.one (.one (.w (.v (.bool (inR n x y)))))) [.one (.r (.v (.int .i64 n))), .one (.r (.v (.int .i64 x))), .one (.r (.v (.int .i64 y)))] := by
 refine Eng.Fn.intro (E := E) (rvs := [.tmp 6]) Try.func53 rfl rfl rfl (by simp [outSlots, moved, rvSlot, sl]) ?_
 intro B g bo
 refine CW.le [(0, I n), (1, I x), (2, I y)] rfl (Le.of rfl) ?_
 refine CW.seq ?_
 refine CW.region ?_
 refine RW.v rfl (V.as (d := Bo false) rfl rfl) ?_
 refine RW.nil ?_
 refine CW.le [(0, I n), (1, I x), (2, I y)] rfl (Le.of rfl) ?_
 refine CW.seqJ 15 (fun (v1 : Bool) => [(6, Bo v1)]) (fun v1 => v1 = (decide (n ≥ x) && decide (n ≤ y))) ?_ ?_
 ·refine CW.region ?_
  refine RW.v rfl (V.mv (d := I n) rfl rfl) ?_
  refine RW.v rfl (V.mv (d := I x) rfl rfl) ?_
  refine RW.v rfl (V.cmpInt rfl rfl rfl rfl) ?_
  refine RW.v rfl (V.mv (d := Bo (decide (n ≥ x))) rfl rfl) ?_
  refine RW.gv rfl rfl rfl rfl (fun h2 => V.mv (d := I n) rfl rfl) (fun h2 => ?_) (fun h2 => ?_)
  ·skip
   refine RW.gt rfl rfl rfl rfl (V.mv (d := I y) rfl rfl) ?_
   refine RW.gt rfl rfl rfl rfl (V.cmpInt rfl rfl rfl rfl) ?_
   refine RW.v rfl (V.pickT (d := Bo (decide (n ≤ y))) rfl rfl rfl) ?_
   refine RW.v rfl (V.as (d := Bo (decide (n ≤ y))) rfl rfl) ?_
   refine RW.nil ?_
   exact ⟨_, by first | rfl | (simp_all; done) | (simp_all; omega) | grind, rfl, Le.c rfl <| Le.e⟩
  ·skip
   refine RW.guardF rfl rfl rfl rfl ?_
   refine RW.guardF rfl rfl rfl rfl ?_
   refine RW.v rfl (V.pickF (d := Bo false) rfl rfl rfl) ?_
   refine RW.v rfl (V.as (d := Bo false) rfl rfl) ?_
   refine RW.nil ?_
   exact ⟨_, by first | rfl | (simp_all; done) | (simp_all; omega) | grind, rfl, Le.c rfl <| Le.e⟩
 ·intro v1 hv3
  refine CW.ret ?_
  exact Post.one (RV.b rfl (by simp_all [inR])) (AOs.r (AOs.r (AOs.r AOs.e)))
set_option maxHeartbeats 4000000 in
theorem spec_AddNum_fn (a : Int) (n : Int) : Eng.Fn E.P 45 [.one (.r (.v (.int .i64 a))), .one (.r (.v (.int .i64 n)))] (.one (.one (.w (.v (.int .i64 (addNum a n)))))) [.one (.r (.v (.int .i64 a))), .one (.r (.v (.int .i64 n)))] := by
 refine Eng.Fn.intro (E := E) (rvs := [.tmp 4]) Try.func45 rfl rfl rfl (by simp [outSlots, moved, rvSlot, sl]) ?_
 intro B g bo
 refine CW.le [(0, I a), (1, I n)] rfl (Le.of rfl) ?_
 refine CW.seq ?_
 refine CW.region ?_
 refine RW.v rfl (V.as (d := I 0) rfl rfl) ?_
 refine RW.nil ?_
 refine CW.le [(0, I a), (1, I n)] rfl (Le.of rfl) ?_
 refine CW.seq ?_
 refine CW.region ?_
 refine RW.v rfl (V.mv (d := I a) rfl rfl) ?_
 refine RW.v rfl (V.rem rfl rfl rfl (by decide)) ?_
 refine RW.v rfl (V.mv (d := I n) rfl rfl) ?_
 refine RW.v rfl (V.rem rfl rfl rfl (by decide)) ?_
 refine RW.v rfl (V.arInt rfl rfl rfl rfl) ?_
 refine RW.v rfl (V.rem rfl rfl rfl (by decide)) ?_
 refine RW.v rfl (V.as (d := I (Int.tmod (IntKind.i64.wrap ((Int.tmod a 65536) + (Int.tmod n 65536))) 65536)) rfl rfl) ?_
 refine RW.nil ?_
 refine CW.le [(5, I (Int.tmod (IntKind.i64.wrap ((Int.tmod a 65536) + (Int.tmod n 65536))) 65536))] rfl (Le.of rfl) ?_
 refine CW.seq ?_
 refine CW.seq ?_
 refine CW.region ?_
 refine RW.v rfl (V.mv (d := I (Int.tmod (IntKind.i64.wrap ((Int.tmod a 65536) + (Int.tmod n 65536))) 65536)) rfl rfl) ?_
 refine RW.v rfl (V.cmpInt rfl rfl rfl rfl) ?_
 refine RW.nil ?_
 refine CW.le [(5, I (Int.tmod (IntKind.i64.wrap ((Int.tmod a 65536) + (Int.tmod n 65536))) 65536)), (13, Bo (decide ((Int.tmod (IntKind.i64.wrap ((Int.tmod a 65536) + (Int.tmod n 65536))) 65536) < 0)))] rfl (Le.of rfl) ?_
 refine CW.cond rfl (fun h1 => ?_) (fun h1 => ?_)
 ·skip
  refine CW.region ?_
  refine RW.v rfl (V.mv (d := I (Int.tmod (IntKind.i64.wrap ((Int.tmod a 65536) + (Int.tmod n 65536))) 65536)) rfl rfl) ?_
  refine RW.v rfl (V.arInt rfl rfl rfl rfl) ?_
  refine RW.v rfl (V.as (d := I (IntKind.i64.wrap ((Int.tmod (IntKind.i64.wrap ((Int.tmod a 65536) + (Int.tmod n 65536))) 65536) + 65536))) rfl rfl) ?_
  refine RW.nil ?_
  refine CW.le [(5, I (IntKind.i64.wrap ((Int.tmod (IntKind.i64.wrap ((Int.tmod a 65536) + (Int.tmod n 65536))) 65536) + 65536)))] rfl (Le.of rfl) ?_
  refine CW.seq ?_
  refine CW.region ?_
  refine RW.v rfl (V.mv (d := I (IntKind.i64.wrap ((Int.tmod (IntKind.i64.wrap ((Int.tmod a 65536) + (Int.tmod n 65536))) 65536) + 65536))) rfl rfl) ?_
  refine RW.v rfl (V.as (d := I (IntKind.i64.wrap ((Int.tmod (IntKind.i64.wrap ((Int.tmod a 65536) + (Int.tmod n 65536))) 65536) + 65536))) rfl rfl) ?_
  refine RW.nil ?_
  refine CW.le [(4, I (IntKind.i64.wrap ((Int.tmod (IntKind.i64.wrap ((Int.tmod a 65536) + (Int.tmod n 65536))) 65536) + 65536)))] rfl (Le.of rfl) ?_
  refine CW.ret ?_
  exact Post.one (RV.i rfl (by rw [addNum_spec]; first | (rw [if_pos (by simpa using h1)]; done) | (rw [if_neg (by simpa using h1)]; done))) (AOs.r (AOs.r AOs.e))
 ·skip
  refine CW.skip ?_
  refine CW.le [(5, I (Int.tmod (IntKind.i64.wrap ((Int.tmod a 65536) + (Int.tmod n 65536))) 65536))] rfl (Le.of rfl) ?_
  refine CW.seq ?_
  refine CW.region ?_
  refine RW.v rfl (V.mv (d := I (Int.tmod (IntKind.i64.wrap ((Int.tmod a 65536) + (Int.tmod n 65536))) 65536)) rfl rfl) ?_
  refine RW.v rfl (V.as (d := I (Int.tmod (IntKind.i64.wrap ((Int.tmod a 65536) + (Int.tmod n 65536))) 65536)) rfl rfl) ?_
  refine RW.nil ?_
  refine CW.le [(4, I (Int.tmod (IntKind.i64.wrap ((Int.tmod a 65536) + (Int.tmod n 65536))) 65536))] rfl (Le.of rfl) ?_
  refine CW.ret ?_
  exact Post.one (RV.i rfl (by rw [addNum_spec]; first | (rw [if_pos (by simpa using h1)]; done) | (rw [if_neg (by simpa using h1)]; done))) (AOs.r (AOs.r AOs.e))
set_option maxHeartbeats 4000000 in
theorem spec_Gap_fn (a : Int) (b : Int) : Eng.Fn E.P 93 [.one (.r (.v (.int .i64 a))), .one (.r (.v (.int .i64 b)))] (.one (.one (.w (.v (.int .i64 (gap a b)))))) [.one (.r (.v (.int .i64 a))), .one (.r (.v (.int .i64 b)))] := by
 refine Eng.Fn.intro (E := E) (rvs := [.tmp 4]) Try.func93 rfl rfl rfl (by simp [outSlots, moved, rvSlot, sl]) ?_
 intro B g bo
 refine CW.le [(0, I a), (1, I b)] rfl (Le.of rfl) ?_
 refine CW.seq ?_
 refine CW.region ?_
 refine RW.v rfl (V.as (d := I 0) rfl rfl) ?_
 refine RW.nil ?_
 refine CW.le [(0, I a), (1, I b)] rfl (Le.of rfl) ?_
 refine CW.seq ?_
 refine CW.region ?_
 refine RW.v rfl (V.mv (d := I b) rfl rfl) ?_
 refine RW.v rfl (V.rem rfl rfl rfl (by decide)) ?_
 refine RW.v rfl (V.mv (d := I a) rfl rfl) ?_
 refine RW.v rfl (V.rem rfl rfl rfl (by decide)) ?_
 refine RW.v rfl (V.neg rfl rfl) ?_
 refine RW.call rfl (spec_AddNum_fn (Int.tmod b 65536) (IntKind.i64.wrap (0 - (Int.tmod a 65536)))) rfl (.cons (.one (.r .r)) (.cons (.one (.r .r)) (.nil))) fun g1 => ?_
 refine RW.v rfl (V.as (d := I (addNum (Int.tmod b 65536) (IntKind.i64.wrap (0 - (Int.tmod a 65536))))) rfl rfl) ?_
 refine RW.nil ?_
 refine CW.le [(4, I (addNum (Int.tmod b 65536) (IntKind.i64.wrap (0 - (Int.tmod a 65536)))))] rfl (Le.of rfl) ?_
 refine CW.ret ?_
 exact Post.one (RV.i rfl (by exact gap_spec _ _)) (AOs.r (AOs.r AOs.e))
set_option maxHeartbeats 4000000 in
theorem spec_l12Has_fn (s : Seg) (k : Int) (hk : k ≠ 0) : Eng.Fn E.P 44 [.agg ((Seg.c s).map .r), .one (.r (.v (.int .i64 k)))] (.one (.one (.w (.v (.bool (hasB s.flags k)))))) [.agg ((Seg.c s).map .r), .one (.r (.v (.int .i64 k)))] := by
 refine Eng.Fn.intro (E := E) (rvs := [.tmp 4]) Try.func44 rfl rfl rfl (by simp [outSlots, moved, rvSlot, sl]) ?_
 intro B g bo
 refine CW.le [(0, .agg ((Seg.c s).map .r)), (1, I k)] rfl (Le.of rfl) ?_
 refine CW.seq ?_
 refine CW.region ?_
 refine RW.box (ds := ((Seg.c s).map .r)) rfl rfl rfl fun b1 => ?_
 refine RW.v rfl (V.as (d := Bo false) rfl rfl) ?_
 refine RW.nil ?_
 refine CW.le [(1, I k), (2, .obj b1 ((Seg.c s).map .r))] rfl (Le.of rfl) ?_
 refine CW.seq ?_
 refine CW.region ?_
 refine RW.v rfl (V.field rfl rfl rfl rfl (by decide) rfl) ?_
 refine RW.v rfl (V.loadPrim (d := I s.flags) rfl rfl (.inl rfl) rfl rfl rfl) ?_
 refine RW.v rfl (V.mv (d := I k) rfl rfl) ?_
 refine RW.v rfl (V.quo rfl rfl rfl hk) ?_
 refine RW.v rfl (V.rem rfl rfl rfl (by decide)) ?_
 refine RW.v rfl (V.cmpInt rfl rfl rfl rfl) ?_
 refine RW.v rfl (V.as (d := Bo ((Int.tmod (IntKind.i64.wrap (Int.tdiv s.flags k)) 2) == 1)) rfl rfl) ?_
 refine RW.nil ?_
 refine CW.le [(4, Bo ((Int.tmod (IntKind.i64.wrap (Int.tdiv s.flags k)) 2) == 1))] rfl (Le.of rfl) ?_
 refine CW.ret ?_
 exact Post.one (RV.b rfl (by rfl)) (AOs.a rfl (AOs.r AOs.e))
set_option maxHeartbeats 4000000 in
theorem spec_l13Less_fn (a : Int) (b : Int) : Eng.Fn E.P 73 [.one (.r (.v (.int .i64 a))), .one (.r (.v (.int .i64 b)))] (.one (.one (.w (.v (.int .i64 (mnI a b)))))) [.one (.r (.v (.int .i64 a))), .one (.r (.v (.int .i64 b)))] := by
 refine Eng.Fn.intro (E := E) (rvs := [.tmp 4]) Try.func73 rfl rfl rfl (by simp [outSlots, moved, rvSlot, sl]) ?_
 intro B g bo
 refine CW.le [(0, I a), (1, I b)] rfl (Le.of rfl) ?_
 refine CW.seq ?_
 refine CW.region ?_
 refine RW.v rfl (V.as (d := I 0) rfl rfl) ?_
 refine RW.nil ?_
 refine CW.le [(0, I a), (1, I b)] rfl (Le.of rfl) ?_
 refine CW.seq ?_
 refine CW.seq ?_
 refine CW.region ?_
 refine RW.v rfl (V.mv (d := I a) rfl rfl) ?_
 refine RW.v rfl (V.mv (d := I b) rfl rfl) ?_
 refine RW.v rfl (V.cmpInt rfl rfl rfl rfl) ?_
 refine RW.nil ?_
 refine CW.le [(0, I a), (1, I b), (7, Bo (decide (a < b)))] rfl (Le.of rfl) ?_
 refine CW.cond rfl (fun h1 => ?_) (fun h1 => ?_)
 ·skip
  refine CW.seq ?_
  refine CW.region ?_
  refine RW.v rfl (V.mv (d := I a) rfl rfl) ?_
  refine RW.v rfl (V.as (d := I a) rfl rfl) ?_
  refine RW.nil ?_
  refine CW.le [(4, I a)] rfl (Le.of rfl) ?_
  refine CW.ret ?_
  exact Post.one (RV.i rfl (by unfold mnI; first | (rw [if_neg (by simp at h1; omega)]; done) | (simp at h1; split <;> omega))) (AOs.r (AOs.r AOs.e))
 ·skip
  refine CW.skip ?_
  refine CW.le [(1, I b)] rfl (Le.of rfl) ?_
  refine CW.seq ?_
  refine CW.region ?_
  refine RW.v rfl (V.mv (d := I b) rfl rfl) ?_
  refine RW.v rfl (V.as (d := I b) rfl rfl) ?_
  refine RW.nil ?_
  refine CW.le [(4, I b)] rfl (Le.of rfl) ?_
  refine CW.ret ?_
  exact Post.one (RV.i rfl (by unfold mnI; first | (rw [if_neg (by simp at h1; omega)]; done) | (simp at h1; split <;> omega))) (AOs.r (AOs.r AOs.e))
set_option maxHeartbeats 4000000 in
theorem spec_l13Copy_fn (x : Stream) (hm : x.late.length ≤ 1048576) : Eng.Fn E.P 42 [.agg ((Stream.c x).map .r)] (.one (.agg ((Stream.c x).map .w))) [.agg ((Stream.c x).map .r)] := by
 refine Eng.Fn.intro (E := E) (rvs := [.cell 2 28]) Try.func42 rfl rfl rfl (by simp [outSlots, moved, rvSlot, sl]) ?_
 intro B g bo
 refine CW.le [(0, .agg ((Stream.c x).map .r))] rfl (Le.of rfl) ?_
 refine CW.seq ?_
 refine CW.region ?_
 refine RW.box (ds := ((Stream.c x).map .r)) rfl rfl rfl fun b1 => ?_
 refine RW.alloc (ds := [I 0, I 0, I 0, I 0, S (⟨#[]⟩), I 0, I 0, Bo false, S (⟨#[]⟩), .r (.v (.slice none 0 0)), Bo false, I 0, I 0]) rfl rfl rfl rfl fun b2 => ?_
 refine RW.nil ?_
 refine CW.le [(1, .obj b1 ((Stream.c x).map .r)), (2, .obj b2 [I 0, I 0, I 0, I 0, S (⟨#[]⟩), I 0, I 0, Bo false, S (⟨#[]⟩), .r (.v (.slice none 0 0)), Bo false, I 0, I 0])] rfl (Le.of rfl) ?_
 refine CW.seq ?_
 refine CW.region ?_
 refine RW.build0 Late.c rfl rfl rfl rfl rfl fun X3 => ?_
 refine RW.v rfl (V.field rfl rfl rfl rfl (by decide) rfl) ?_
 refine RW.v rfl (V.loadPrim (d := .r (sl 2 Late.c x.late)) rfl rfl (.inr ⟨_, rfl⟩) rfl rfl rfl) ?_
 refine RW.appendSR (c := Late.c) (l1 := ([] : List Late)) (l2 := x.late) rfl rfl rfl rfl rfl rfl rfl rfl .r (by decide) (Nat.le_of_ble_eq_true rfl) Late.len (fun _ => rfl) rfl (by simp only [maxLen, List.length_nil]; omega) (by simp only [maxLen, List.length_nil]; omega) fun X4 => ?_
 refine RW.v rfl (V.field rfl rfl rfl rfl (by decide) rfl) ?_
 refine RW.store (d := .al 6 none 2 ((([] : List Late) ++ x.late).length) X4 0) rfl rfl rfl rfl rfl rfl rfl (Nat.le_of_ble_eq_true rfl) rfl rfl ?_
 refine RW.le [(1, .obj b1 [I x.state, I x.iss, I x.una, I x.rcv, S x.wait, I x.sent, I x.fin, Bo x.peerFin, S x.in_, .al 6 none 2 ((([] : List Late) ++ x.late).length) X4 0, Bo x.owe, I x.due, I x.times]), (2, .obj b2 [I 0, I 0, I 0, I 0, S (⟨#[]⟩), I 0, I 0, Bo false, S (⟨#[]⟩), .r (.v (.slice none 0 0)), Bo false, I 0, I 0]), (6, .w (sl 2 Late.c (([] : List Late) ++ x.late)) X4)] rfl (Le.of rfl) ?_
 refine RW.pullT (k := 1) (l := 6) (j := 9) 1 6 9 rfl rfl rfl (by decide) rfl rfl rfl ?_
 refine RW.le [(1, .obj b1 [I x.state, I x.iss, I x.una, I x.rcv, S x.wait, I x.sent, I x.fin, Bo x.peerFin, S x.in_, .w (sl 2 Late.c (([] : List Late) ++ x.late)) X4, Bo x.owe, I x.due, I x.times]), (2, .obj b2 [I 0, I 0, I 0, I 0, S (⟨#[]⟩), I 0, I 0, Bo false, S (⟨#[]⟩), .r (.v (.slice none 0 0)), Bo false, I 0, I 0])] rfl (Le.of rfl) ?_
 refine RW.nil ?_
 refine CW.le [(1, .obj b1 [I x.state, I x.iss, I x.una, I x.rcv, S x.wait, I x.sent, I x.fin, Bo x.peerFin, S x.in_, .w (sl 2 Late.c (([] : List Late) ++ x.late)) X4, Bo x.owe, I x.due, I x.times]), (2, .obj b2 [I 0, I 0, I 0, I 0, S (⟨#[]⟩), I 0, I 0, Bo false, S (⟨#[]⟩), .r (.v (.slice none 0 0)), Bo false, I 0, I 0])] rfl (Le.of rfl) ?_
 refine CW.seq ?_
 refine CW.region ?_
 refine RW.v rfl (V.loadAgg rfl rfl rfl rfl rfl (Nat.le_of_ble_eq_true rfl)) ?_
 refine RW.storeAgg (es := [I x.state, I x.iss, I x.una, I x.rcv, S x.wait, I x.sent, I x.fin, Bo x.peerFin, S x.in_, .al 1 (some 9) 2 ((([] : List Late) ++ x.late).length) X4 0, Bo x.owe, I x.due, I x.times]) rfl rfl rfl rfl rfl rfl rfl rfl (Nat.le_of_ble_eq_true rfl) rfl ?_
 refine RW.le [(1, .obj b1 [I x.state, I x.iss, I x.una, I x.rcv, S x.wait, I x.sent, I x.fin, Bo x.peerFin, S x.in_, .w (sl 2 Late.c (([] : List Late) ++ x.late)) X4, Bo x.owe, I x.due, I x.times]), (2, .obj b2 [I x.state, I x.iss, I x.una, I x.rcv, S x.wait, I x.sent, I x.fin, Bo x.peerFin, S x.in_, .al 1 (some 9) 2 ((([] : List Late) ++ x.late).length) X4 0, Bo x.owe, I x.due, I x.times])] rfl (Le.of rfl) ?_
 refine RW.pullO (k := 2) (l := 1) (j := 9) 2 1 9 rfl rfl rfl (by decide) rfl rfl rfl rfl ?_
 refine RW.le [(2, .obj b2 [I x.state, I x.iss, I x.una, I x.rcv, S x.wait, I x.sent, I x.fin, Bo x.peerFin, S x.in_, .w (sl 2 Late.c (([] : List Late) ++ x.late)) X4, Bo x.owe, I x.due, I x.times])] rfl (Le.of rfl) ?_
 refine RW.nil ?_
 refine CW.le [(2, .obj b2 [I x.state, I x.iss, I x.una, I x.rcv, S x.wait, I x.sent, I x.fin, Bo x.peerFin, S x.in_, .w (sl 2 Late.c (([] : List Late) ++ x.late)) X4, Bo x.owe, I x.due, I x.times])] rfl (Le.of rfl) ?_
 refine CW.ret ?_
 exact Post.one (RV.c (f := fun e => (Stream.c e).map .w) (e' := (⟨x.state, x.iss, x.una, x.rcv, x.wait, x.sent, x.fin, x.peerFin, x.in_, (([] : List Late) ++ x.late), x.owe, x.due, x.times⟩ : Stream)) rfl rfl rfl rfl (DT.v (DT.v (DT.v (DT.v (DT.v (DT.v (DT.v (DT.v (DT.v (DT.w (DT.v (DT.v (DT.v DT.e))))))))))))) (by rfl)) (AOs.a rfl AOs.e)
set_option maxHeartbeats 4000000 in
theorem spec_SegOk_fn (s : Seg) : Eng.Fn E.P 26 [.agg ((Seg.c s).map .r)] (.one (.one (.w (.v (.bool (segOk s)))))) [.agg ((Seg.c s).map .r)] := by
 refine Eng.Fn.intro (E := E) (rvs := [.tmp 2]) Try.func26 rfl rfl rfl (by simp [outSlots, moved, rvSlot, sl]) ?_
 intro B g bo
 refine CW.le [(0, .agg ((Seg.c s).map .r))] rfl (Le.of rfl) ?_
 refine CW.seq ?_
 refine CW.region ?_
 refine RW.box (ds := ((Seg.c s).map .r)) rfl rfl rfl fun b1 => ?_
 refine RW.v rfl (V.as (d := Bo false) rfl rfl) ?_
 refine RW.nil ?_
 refine CW.le [(1, .obj b1 ((Seg.c s).map .r))] rfl (Le.of rfl) ?_
 refine CW.seq ?_
 refine CW.seqJ 42 (fun (v2 : Bool) => [(1, .obj b1 ((Seg.c s).map .r)), (24, Bo v2)]) (fun v2 => v2 = ((((!(inR s.num 0 65535)) || (!(inR s.ack 0 65535))) || (!(inR s.flags 0 7))) || decide ((s.body.size : Int) > 8))) ?_ ?_
 ·refine CW.region ?_
  refine RW.v rfl (V.field rfl rfl rfl rfl (by decide) rfl) ?_
  refine RW.v rfl (V.loadPrim (d := I s.num) rfl rfl (.inl rfl) rfl rfl rfl) ?_
  refine RW.call rfl (spec_l01In_fn s.num 0 65535) rfl (.cons (.one (.r .r)) (.cons (.one (.r .r)) (.cons (.one (.r .r)) (.nil)))) fun g3 => ?_
  refine RW.v rfl (V.not rfl rfl) ?_
  refine RW.v rfl (V.mv (d := Bo (!(inR s.num 0 65535))) rfl rfl) ?_
  refine RW.gv rfl rfl rfl rfl (fun h4 => V.field rfl rfl rfl rfl (by decide) rfl) (fun h4 => ?_) (fun h4 => ?_)
  ·skip
   refine RW.gt rfl rfl rfl rfl (V.loadPrim (d := I s.ack) rfl rfl (.inl rfl) rfl rfl rfl) ?_
   refine RW.gcall rfl rfl rfl rfl (spec_l01In_fn s.ack 0 65535) rfl (.cons (.one (.r .r)) (.cons (.one (.r .r)) (.cons (.one (.r .r)) (.nil)))) fun g5 => ?_
   refine RW.gt rfl rfl rfl rfl (V.not rfl rfl) ?_
   refine RW.v rfl (V.pickF (d := Bo (!(inR s.ack 0 65535))) rfl rfl rfl) ?_
   refine RW.v rfl (V.mv (d := Bo (!(inR s.ack 0 65535))) rfl rfl) ?_
   refine RW.gv rfl rfl rfl rfl (fun h6 => V.field rfl rfl rfl rfl (by decide) rfl) (fun h6 => ?_) (fun h6 => ?_)
   ·skip
    refine RW.gt rfl rfl rfl rfl (V.loadPrim (d := I s.flags) rfl rfl (.inl rfl) rfl rfl rfl) ?_
    refine RW.gcall rfl rfl rfl rfl (spec_l01In_fn s.flags 0 7) rfl (.cons (.one (.r .r)) (.cons (.one (.r .r)) (.cons (.one (.r .r)) (.nil)))) fun g7 => ?_
    refine RW.gt rfl rfl rfl rfl (V.not rfl rfl) ?_
    refine RW.v rfl (V.pickF (d := Bo (!(inR s.flags 0 7))) rfl rfl rfl) ?_
    refine RW.v rfl (V.mv (d := Bo (!(inR s.flags 0 7))) rfl rfl) ?_
    refine RW.gv rfl rfl rfl rfl (fun h8 => V.field rfl rfl rfl rfl (by decide) rfl) (fun h8 => ?_) (fun h8 => ?_)
    ·skip
     refine RW.gt rfl rfl rfl rfl (V.loadPrim (d := S s.body) rfl rfl (.inl rfl) rfl rfl rfl) ?_
     refine RW.gt rfl rfl rfl rfl (V.lenStr rfl (by kernel_rfl) rfl) ?_
     refine RW.gt rfl rfl rfl rfl (V.cmpInt rfl rfl rfl rfl) ?_
     refine RW.v rfl (V.pickF (d := Bo (decide ((s.body.size : Int) > 8))) rfl rfl rfl) ?_
     refine RW.nil ?_
     exact ⟨_, by first | rfl | (simp_all; done) | (simp_all; omega) | grind, rfl, Le.c rfl <| Le.c rfl <| Le.e⟩
    ·skip
     refine RW.guardF rfl rfl rfl rfl ?_
     refine RW.guardF rfl rfl rfl rfl ?_
     refine RW.guardF rfl rfl rfl rfl ?_
     refine RW.v rfl (V.pickT (d := Bo true) rfl rfl rfl) ?_
     refine RW.nil ?_
     exact ⟨_, by first | rfl | (simp_all; done) | (simp_all; omega) | grind, rfl, Le.c rfl <| Le.c rfl <| Le.e⟩
   ·skip
    refine RW.guardF rfl rfl rfl rfl ?_
    refine RW.guardF rfl rfl rfl rfl ?_
    refine RW.guardF rfl rfl rfl rfl ?_
    refine RW.v rfl (V.pickT (d := Bo true) rfl rfl rfl) ?_
    refine RW.v rfl (V.mv (d := Bo true) rfl rfl) ?_
    refine RW.guardF rfl rfl rfl rfl ?_
    refine RW.guardF rfl rfl rfl rfl ?_
    refine RW.guardF rfl rfl rfl rfl ?_
    refine RW.guardF rfl rfl rfl rfl ?_
    refine RW.v rfl (V.pickT (d := Bo true) rfl rfl rfl) ?_
    refine RW.nil ?_
    exact ⟨_, by first | rfl | (simp_all; done) | (simp_all; omega) | grind, rfl, Le.c rfl <| Le.c rfl <| Le.e⟩
  ·skip
   refine RW.guardF rfl rfl rfl rfl ?_
   refine RW.guardF rfl rfl rfl rfl ?_
   refine RW.guardF rfl rfl rfl rfl ?_
   refine RW.v rfl (V.pickT (d := Bo true) rfl rfl rfl) ?_
   refine RW.v rfl (V.mv (d := Bo true) rfl rfl) ?_
   refine RW.guardF rfl rfl rfl rfl ?_
   refine RW.guardF rfl rfl rfl rfl ?_
   refine RW.guardF rfl rfl rfl rfl ?_
   refine RW.guardF rfl rfl rfl rfl ?_
   refine RW.v rfl (V.pickT (d := Bo true) rfl rfl rfl) ?_
   refine RW.v rfl (V.mv (d := Bo true) rfl rfl) ?_
   refine RW.guardF rfl rfl rfl rfl ?_
   refine RW.guardF rfl rfl rfl rfl ?_
   refine RW.guardF rfl rfl rfl rfl ?_
   refine RW.guardF rfl rfl rfl rfl ?_
   refine RW.v rfl (V.pickT (d := Bo true) rfl rfl rfl) ?_
   refine RW.nil ?_
   exact ⟨_, by first | rfl | (simp_all; done) | (simp_all; omega) | grind, rfl, Le.c rfl <| Le.c rfl <| Le.e⟩
 ·intro v2 hv9
  refine CW.cond rfl (fun h10 => ?_) (fun h10 => ?_)
  ·skip
   refine CW.seq ?_
   refine CW.region ?_
   refine RW.v rfl (V.as (d := Bo false) rfl rfl) ?_
   refine RW.nil ?_
   refine CW.le [(2, Bo false)] rfl (Le.of rfl) ?_
   refine CW.ret ?_
   exact Post.one (RV.b rfl (by unfold segOk isWord emp; first | (simp_all; done) | grind)) (AOs.a rfl AOs.e)
  ·skip
   refine CW.skip ?_
   refine CW.le [(1, .obj b1 ((Seg.c s).map .r))] rfl (Le.of rfl) ?_
   refine CW.seqJ 42 (fun (v11 : Bool) => [(2, Bo v11)]) (fun v11 => v11 = (((!(hasB s.flags 1)) || (s.body.toList == (⟨#[]⟩ : ByteArray).toList)) && ((hasB s.flags 2) || (s.ack == 0)))) ?_ ?_
   ·refine CW.region ?_
    refine RW.v rfl (V.loadAgg rfl rfl rfl rfl rfl (Nat.le_of_ble_eq_true rfl)) ?_
    refine RW.call rfl (spec_l12Has_fn s 1 (by decide)) rfl (.cons (.agg (.cons (.r .r) (.cons (.r .r) (.cons (.r .r) (.cons (.r .r) (.nil)))))) (.cons (.one (.r .r)) (.nil))) fun g12 => ?_
    refine RW.v rfl (V.not rfl rfl) ?_
    refine RW.v rfl (V.mv (d := Bo (!(hasB s.flags 1))) rfl rfl) ?_
    refine RW.gv rfl rfl rfl rfl (fun h13 => V.field rfl rfl rfl rfl (by decide) rfl) (fun h13 => ?_) (fun h13 => ?_)
    ·skip
     refine RW.gt rfl rfl rfl rfl (V.loadPrim (d := S s.body) rfl rfl (.inl rfl) rfl rfl rfl) ?_
     refine RW.gt rfl rfl rfl rfl (V.strCmp rfl rfl rfl rfl) ?_
     refine RW.v rfl (V.pickF (d := Bo (s.body.toList == (⟨#[]⟩ : ByteArray).toList)) rfl rfl rfl) ?_
     refine RW.v rfl (V.mv (d := Bo (s.body.toList == (⟨#[]⟩ : ByteArray).toList)) rfl rfl) ?_
     refine RW.gv rfl rfl rfl rfl (fun h14 => V.loadAgg rfl rfl rfl rfl rfl (Nat.le_of_ble_eq_true rfl)) (fun h14 => ?_) (fun h14 => ?_)
     ·skip
      refine RW.gcall rfl rfl rfl rfl (spec_l12Has_fn s 2 (by decide)) rfl (.cons (.agg (.cons (.r .r) (.cons (.r .r) (.cons (.r .r) (.cons (.r .r) (.nil)))))) (.cons (.one (.r .r)) (.nil))) fun g15 => ?_
      refine RW.gt rfl rfl rfl rfl (V.mv (d := Bo (hasB s.flags 2)) rfl rfl) ?_
      refine RW.gv rfl rfl rfl rfl (fun h16 => V.field rfl rfl rfl rfl (by decide) rfl) (fun h16 => ?_) (fun h16 => ?_)
      ·skip
       refine RW.gt rfl rfl rfl rfl (V.loadPrim (d := I s.ack) rfl rfl (.inl rfl) rfl rfl rfl) ?_
       refine RW.gt rfl rfl rfl rfl (V.cmpInt rfl rfl rfl rfl) ?_
       refine RW.gt rfl rfl rfl rfl (V.pickF (d := Bo (s.ack == 0)) rfl rfl rfl) ?_
       refine RW.v rfl (V.pickT (d := Bo (s.ack == 0)) rfl rfl rfl) ?_
       refine RW.v rfl (V.as (d := Bo (s.ack == 0)) rfl rfl) ?_
       refine RW.nil ?_
       exact ⟨_, by first | rfl | (simp_all; done) | (simp_all; omega) | grind, rfl, Le.c rfl <| Le.e⟩
      ·skip
       refine RW.guardF rfl rfl rfl rfl ?_
       refine RW.guardF rfl rfl rfl rfl ?_
       refine RW.gt rfl rfl rfl rfl (V.pickT (d := Bo true) rfl rfl rfl) ?_
       refine RW.v rfl (V.pickT (d := Bo true) rfl rfl rfl) ?_
       refine RW.v rfl (V.as (d := Bo true) rfl rfl) ?_
       refine RW.nil ?_
       exact ⟨_, by first | rfl | (simp_all; done) | (simp_all; omega) | grind, rfl, Le.c rfl <| Le.e⟩
     ·skip
      refine RW.guardF rfl rfl rfl rfl ?_
      refine RW.guardF rfl rfl rfl rfl ?_
      refine RW.guardU rfl rfl rfl rfl ?_
      refine RW.guardU rfl rfl rfl rfl ?_
      refine RW.guardU rfl rfl rfl rfl ?_
      refine RW.guardF rfl rfl rfl rfl ?_
      refine RW.v rfl (V.pickF (d := Bo false) rfl rfl rfl) ?_
      refine RW.v rfl (V.as (d := Bo false) rfl rfl) ?_
      refine RW.nil ?_
      exact ⟨_, by first | rfl | (simp_all; done) | (simp_all; omega) | grind, rfl, Le.c rfl <| Le.e⟩
    ·skip
     refine RW.guardF rfl rfl rfl rfl ?_
     refine RW.guardF rfl rfl rfl rfl ?_
     refine RW.v rfl (V.pickT (d := Bo true) rfl rfl rfl) ?_
     refine RW.v rfl (V.mv (d := Bo true) rfl rfl) ?_
     refine RW.gt rfl rfl rfl rfl (V.loadAgg rfl rfl rfl rfl rfl (Nat.le_of_ble_eq_true rfl)) ?_
     refine RW.gcall rfl rfl rfl rfl (spec_l12Has_fn s 2 (by decide)) rfl (.cons (.agg (.cons (.r .r) (.cons (.r .r) (.cons (.r .r) (.cons (.r .r) (.nil)))))) (.cons (.one (.r .r)) (.nil))) fun g17 => ?_
     refine RW.gt rfl rfl rfl rfl (V.mv (d := Bo (hasB s.flags 2)) rfl rfl) ?_
     refine RW.gv rfl rfl rfl rfl (fun h18 => V.field rfl rfl rfl rfl (by decide) rfl) (fun h18 => ?_) (fun h18 => ?_)
     ·skip
      refine RW.gt rfl rfl rfl rfl (V.loadPrim (d := I s.ack) rfl rfl (.inl rfl) rfl rfl rfl) ?_
      refine RW.gt rfl rfl rfl rfl (V.cmpInt rfl rfl rfl rfl) ?_
      refine RW.gt rfl rfl rfl rfl (V.pickF (d := Bo (s.ack == 0)) rfl rfl rfl) ?_
      refine RW.v rfl (V.pickT (d := Bo (s.ack == 0)) rfl rfl rfl) ?_
      refine RW.v rfl (V.as (d := Bo (s.ack == 0)) rfl rfl) ?_
      refine RW.nil ?_
      exact ⟨_, by first | rfl | (simp_all; done) | (simp_all; omega) | grind, rfl, Le.c rfl <| Le.e⟩
     ·skip
      refine RW.guardF rfl rfl rfl rfl ?_
      refine RW.guardF rfl rfl rfl rfl ?_
      refine RW.gt rfl rfl rfl rfl (V.pickT (d := Bo true) rfl rfl rfl) ?_
      refine RW.v rfl (V.pickT (d := Bo true) rfl rfl rfl) ?_
      refine RW.v rfl (V.as (d := Bo true) rfl rfl) ?_
      refine RW.nil ?_
      exact ⟨_, by first | rfl | (simp_all; done) | (simp_all; omega) | grind, rfl, Le.c rfl <| Le.e⟩
   ·intro v11 hv19
    refine CW.ret ?_
    exact Post.one (RV.b rfl (by unfold segOk isWord emp; first | (simp_all; done) | grind)) (AOs.a rfl AOs.e)
set_option maxHeartbeats 4000000 in
theorem spec_l13Take_fn (x : Stream) (num : Int) (text : ByteArray) (hi : x.in_.size ≤ 100000) (ht : text.size ≤ 8) : Eng.Fn E.P 94 [.ob ((Stream.c x).map .w), .one (.r (.v (.int .i64 num))), .one (.r (.v (.string text)))] (.tup []) [.ob ((Stream.c (takeN x num text)).map .w), .one (.r (.v (.int .i64 num))), .one (.r (.v (.string text)))] := by
 refine Eng.Fn.intro (E := E) (rvs := []) Try.func94 rfl rfl rfl (by simp [outSlots, moved, rvSlot, sl]) ?_
 intro B g bo
 refine CW.le [(0, .obj (bo 0) [I x.state, I x.iss, I x.una, I x.rcv, S x.wait, I x.sent, I x.fin, Bo x.peerFin, S x.in_, .w (sl 2 Late.c x.late) (g 0 9), Bo x.owe, I x.due, I x.times]), (1, I num), (2, S text)] rfl (Le.of rfl) ?_
 refine CW.seq ?_
 refine CW.region ?_
 refine RW.v rfl (V.mv (d := I num) rfl rfl) ?_
 refine RW.v rfl (V.mv (d := .pt 0 (bo 0) 0) rfl rfl) ?_
 refine RW.v rfl (V.nilP rfl rfl) ?_
 refine RW.v rfl (V.field rfl rfl rfl rfl (by decide) rfl) ?_
 refine RW.v rfl (V.loadPrim (d := I x.rcv) rfl rfl (.inl rfl) rfl rfl rfl) ?_
 refine RW.call rfl (spec_Gap_fn num x.rcv) rfl (.cons (.one (.r .r)) (.cons (.one (.r .r)) (.nil))) fun g1 => ?_
 refine RW.v rfl (V.as (d := I (gap num x.rcv)) rfl rfl) ?_
 refine RW.nil ?_
 refine CW.le [(0, .obj (bo 0) [I x.state, I x.iss, I x.una, I x.rcv, S x.wait, I x.sent, I x.fin, Bo x.peerFin, S x.in_, .w (sl 2 Late.c x.late) (g 0 9), Bo x.owe, I x.due, I x.times]), (2, S text), (6, I (gap num x.rcv))] rfl (Le.of rfl) ?_
 refine CW.seq ?_
 refine CW.seq ?_
 refine CW.region ?_
 refine RW.v rfl (V.mv (d := I (gap num x.rcv)) rfl rfl) ?_
 refine RW.v rfl (V.mv (d := S text) rfl rfl) ?_
 refine RW.v rfl (V.lenStr rfl (by kernel_rfl) rfl) ?_
 refine RW.v rfl (V.cmpInt rfl rfl rfl rfl) ?_
 refine RW.nil ?_
 refine CW.le [(0, .obj (bo 0) [I x.state, I x.iss, I x.una, I x.rcv, S x.wait, I x.sent, I x.fin, Bo x.peerFin, S x.in_, .w (sl 2 Late.c x.late) (g 0 9), Bo x.owe, I x.due, I x.times]), (2, S text), (6, I (gap num x.rcv)), (16, Bo (decide ((gap num x.rcv) ≥ (text.size : Int))))] rfl (Le.of rfl) ?_
 refine CW.cond rfl (fun h2 => ?_) (fun h2 => ?_)
 ·skip
  refine CW.ret ?_
  exact Post.tup (by decide) RVs.e (AOs.obE (f := fun e => (Stream.c e).map .w) (e' := x) rfl (DT.v (DT.v (DT.v (DT.v (DT.v (DT.v (DT.v (DT.v (DT.v (DT.w (DT.v (DT.v (DT.v DT.e))))))))))))) (by unfold takeN; first | (rw [if_pos (by simp at h2; omega)]; done) | (rw [if_neg (by simp at h2; omega)]; done)) (AOs.r (AOs.r AOs.e)))
 ·skip
  refine CW.skip ?_
  refine CW.le [(0, .obj (bo 0) [I x.state, I x.iss, I x.una, I x.rcv, S x.wait, I x.sent, I x.fin, Bo x.peerFin, S x.in_, .w (sl 2 Late.c x.late) (g 0 9), Bo x.owe, I x.due, I x.times]), (2, S text), (6, I (gap num x.rcv))] rfl (Le.of rfl) ?_
  refine CW.anyJ (fc := []) 40 (fun (_ : Unit) => [(0, .obj (bo 0) [I x.state, I x.iss, I x.una, I x.rcv, S x.wait, I x.sent, I x.fin, Bo x.peerFin, S (x.in_ ++ (text.extract (gap num x.rcv).toNat (text.size : Int).toNat)), .w (sl 2 Late.c x.late) (g 0 9), Bo x.owe, I x.due, I x.times]), (2, S text), (6, I (gap num x.rcv))]) (fun all hall K hK => ?_) ?_
  ·skip
   have ro3_111111111111 : RA [] E B all 0 #[true, true, true, true, true, true, true, true, true, true, true, true] ⟨40, [(0, .obj (bo 0) [I x.state, I x.iss, I x.una, I x.rcv, S x.wait, I x.sent, I x.fin, Bo x.peerFin, S (x.in_ ++ (text.extract (gap num x.rcv).toNat (text.size : Int).toNat)), .w (sl 2 Late.c x.late) (g 0 9), Bo x.owe, I x.due, I x.times]), (2, S text), (6, I (gap num x.rcv))]⟩ K := by
    exact RA.of hall (RA.finH Tell.e (by kernel_rfl) (hK () _ rfl (Le.of rfl)))
   have ro3_111111111110 : RA [] E B all 1 #[true, true, true, true, true, true, true, true, true, true, true, false] ⟨40, [(0, .obj (bo 0) [I x.state, I x.iss, I x.una, I x.rcv, S x.wait, I x.sent, I x.fin, Bo x.peerFin, S x.in_, .w (sl 2 Late.c x.late) (g 0 9), Bo x.owe, I x.due, I x.times]), (2, S text), (6, I (gap num x.rcv)), (25, S (x.in_ ++ (text.extract (gap num x.rcv).toNat (text.size : Int).toNat))), (27, .pt 0 (bo 0) 8)]⟩ K := by
    refine RA.of hall (RA.stepH (L := [11]) Tell.e (by kernel_rfl) (by simp) (RA.each ?_ (RA.each0)))
    ·skip
     refine RO.store (d := S (x.in_ ++ (text.extract (gap num x.rcv).toNat (text.size : Int).toNat))) rfl rfl rfl rfl rfl rfl rfl rfl rfl (Nat.le_of_ble_eq_true rfl) rfl rfl ?_
     exact RA.to hall (RA.lr ro3_111111111111 rfl rfl)
   have ro3_111101110000 : RA [] E B all 5 #[true, true, true, true, false, true, true, true, false, false, false, false] ⟨40, [(0, .obj (bo 0) [I x.state, I x.iss, I x.una, I x.rcv, S x.wait, I x.sent, I x.fin, Bo x.peerFin, S x.in_, .w (sl 2 Late.c x.late) (g 0 9), Bo x.owe, I x.due, I x.times]), (2, S text), (6, I (gap num x.rcv)), (17, .pt 0 (bo 0) 0), (20, .pt 0 (bo 0) 8), (24, S (text.extract (gap num x.rcv).toNat (text.size : Int).toNat))]⟩ K := by
    refine RA.of hall (RA.stepH (L := [4]) Tell.e (by kernel_rfl) (by simp) (RA.each ?_ (RA.each0)))
    ·skip
     refine RO.v rfl rfl (V.loadPrim (d := S x.in_) rfl rfl (.inl rfl) rfl rfl rfl) rfl ?_
     refine RA.first (i := 8) (ls' := #[true, true, true, true, true, true, true, true, true, false, false, false]) Tell.e (by kernel_rfl) rfl rfl rfl (VF.p (V.cat rfl rfl rfl (by simp only [maxLen, ByteArray.size_extract]; omega))) ?_
     refine RA.first (i := 9) (ls' := #[true, true, true, true, true, true, true, true, true, true, false, false]) Tell.e (by kernel_rfl) rfl rfl rfl (VF.p (V.nilP rfl rfl)) ?_
     refine RA.first (i := 10) (ls' := #[true, true, true, true, true, true, true, true, true, true, true, false]) Tell.e (by kernel_rfl) rfl rfl rfl (VF.p (V.field rfl rfl rfl rfl (by decide) rfl)) ?_
     exact RA.to hall (RA.lr ro3_111111111110 rfl rfl)
   have ro3_S : RA [] E B all 12 #[false, false, false, false, false, false, false, false, false, false, false, false] ⟨40, [(0, .obj (bo 0) [I x.state, I x.iss, I x.una, I x.rcv, S x.wait, I x.sent, I x.fin, Bo x.peerFin, S x.in_, .w (sl 2 Late.c x.late) (g 0 9), Bo x.owe, I x.due, I x.times]), (2, S text), (6, I (gap num x.rcv))]⟩ K := by
    refine RA.of hall ?_
    refine RA.first (i := 0) (ls' := #[true, false, false, false, false, false, false, false, false, false, false, false]) Tell.e (by kernel_rfl) rfl rfl rfl (VF.p (V.mv (d := .pt 0 (bo 0) 0) rfl rfl)) ?_
    refine RA.first (i := 1) (ls' := #[true, true, false, false, false, false, false, false, false, false, false, false]) Tell.e (by kernel_rfl) rfl rfl rfl (VF.p (V.mv (d := .pt 0 (bo 0) 0) rfl rfl)) ?_
    refine RA.first (i := 2) (ls' := #[true, true, true, false, false, false, false, false, false, false, false, false]) Tell.e (by kernel_rfl) rfl rfl rfl (VF.p (V.nilP rfl rfl)) ?_
    refine RA.first (i := 3) (ls' := #[true, true, true, true, false, false, false, false, false, false, false, false]) Tell.e (by kernel_rfl) rfl rfl rfl (VF.p (V.field rfl rfl rfl rfl (by decide) rfl)) ?_
    refine RA.le [(0, .obj (bo 0) [I x.state, I x.iss, I x.una, I x.rcv, S x.wait, I x.sent, I x.fin, Bo x.peerFin, S x.in_, .w (sl 2 Late.c x.late) (g 0 9), Bo x.owe, I x.due, I x.times]), (2, S text), (6, I (gap num x.rcv)), (17, .pt 0 (bo 0) 0), (20, .pt 0 (bo 0) 8)] rfl (Le.of rfl) ?_
    refine RA.first (i := 5) (ls' := #[true, true, true, true, false, true, false, false, false, false, false, false]) Tell.e (by kernel_rfl) rfl rfl rfl (VF.p (V.mv (d := S text) rfl rfl)) ?_
    refine RA.first (i := 6) (ls' := #[true, true, true, true, false, true, true, false, false, false, false, false]) Tell.e (by kernel_rfl) rfl rfl rfl (VF.p (V.mv (d := I (gap num x.rcv)) rfl rfl)) ?_
    refine RA.first (i := 7) (ls' := #[true, true, true, true, false, true, true, true, false, false, false, false]) Tell.e (by kernel_rfl) rfl rfl rfl (VF.p (V.strSlice (l := (gap num x.rcv)) (h := (text.size : Int)) rfl (by kernel_rfl) rfl (.inr ⟨_, _, rfl, rfl⟩) (.inl ⟨rfl, rfl⟩) (by have h7 := gap_in num x.rcv; simp at h2; omega))) ?_
    exact RA.to hall (RA.lr ro3_111101110000 rfl rfl)
   exact RA.start (by kernel_rfl) (by kernel_rfl) (RA.lr ro3_S rfl rfl)
  ·rintro _
   refine CW.region ?_
   refine RW.v rfl (V.mv (d := .pt 0 (bo 0) 0) rfl rfl) ?_
   refine RW.v rfl (V.mv (d := .pt 0 (bo 0) 0) rfl rfl) ?_
   refine RW.v rfl (V.nilP rfl rfl) ?_
   refine RW.v rfl (V.field rfl rfl rfl rfl (by decide) rfl) ?_
   refine RW.v rfl (V.loadPrim (d := I x.rcv) rfl rfl (.inl rfl) rfl rfl rfl) ?_
   refine RW.v rfl (V.mv (d := S text) rfl rfl) ?_
   refine RW.v rfl (V.lenStr rfl (by kernel_rfl) rfl) ?_
   refine RW.v rfl (V.mv (d := I (gap num x.rcv)) rfl rfl) ?_
   refine RW.v rfl (V.arInt rfl rfl rfl rfl) ?_
   refine RW.call rfl (spec_AddNum_fn x.rcv (IntKind.i64.wrap ((text.size : Int) - (gap num x.rcv)))) rfl (.cons (.one (.r .r)) (.cons (.one (.r .r)) (.nil))) fun g4 => ?_
   refine RW.v rfl (V.nilP rfl rfl) ?_
   refine RW.v rfl (V.field rfl rfl rfl rfl (by decide) rfl) ?_
   refine RW.store (d := I (addNum x.rcv (IntKind.i64.wrap ((text.size : Int) - (gap num x.rcv))))) rfl rfl rfl rfl rfl rfl rfl (Nat.le_of_ble_eq_true rfl) rfl rfl ?_
   refine RW.nil ?_
   exact Post.tup (by decide) RVs.e (AOs.obE (f := fun e => (Stream.c e).map .w) (e' := (⟨x.state, x.iss, x.una, (addNum x.rcv (IntKind.i64.wrap ((text.size : Int) - (gap num x.rcv)))), x.wait, x.sent, x.fin, x.peerFin, (x.in_ ++ (text.extract (gap num x.rcv).toNat (text.size : Int).toNat)), x.late, x.owe, x.due, x.times⟩ : Stream)) rfl (DT.v (DT.v (DT.v (DT.v (DT.v (DT.v (DT.v (DT.v (DT.v (DT.w (DT.v (DT.v (DT.v DT.e))))))))))))) (by unfold takeN; first | (rw [if_pos (by simp at h2; omega)]; done) | (rw [if_neg (by simp at h2; omega)]; done)) (AOs.r (AOs.r AOs.e)))
set_option maxHeartbeats 4000000 in
theorem spec_StreamOk_fn (x : Stream) (hm : x.late.length ≤ 1048576) : Eng.Fn E.P 43 [.agg ((Stream.c x).map .r)] (.one (.one (.w (.v (.bool (streamOk x)))))) [.agg ((Stream.c x).map .r)] := by
 refine Eng.Fn.intro (E := E) (rvs := [.tmp 2]) Try.func43 rfl rfl rfl (by simp [outSlots, moved, rvSlot, sl]) ?_
 intro B g bo
 refine CW.le [(0, .agg ((Stream.c x).map .r))] rfl (Le.of rfl) ?_
 have hl0 : x.late.length ≤ maxLen := by simp only [maxLen]; omega
 refine CW.seq ?_
 refine CW.region ?_
 refine RW.box (ds := ((Stream.c x).map .r)) rfl rfl rfl fun b1 => ?_
 refine RW.v rfl (V.as (d := Bo false) rfl rfl) ?_
 refine RW.nil ?_
 refine CW.le [(1, .obj b1 ((Stream.c x).map .r))] rfl (Le.of rfl) ?_
 refine CW.seq ?_
 refine CW.seqJ 119 (fun (v2 : Bool) => [(1, .obj b1 ((Stream.c x).map .r)), (47, Bo v2)]) (fun v2 => v2 = (((((((!(inR x.state 0 4)) || (!(inR x.iss 0 65535))) || (!(inR x.una 0 65535))) || (!(inR x.rcv 0 65535))) || decide ((x.wait.size : Int) > 200)) || (!(inR x.sent 0 (mnI (x.wait.size : Int) 24)))) || (!(inR x.fin 0 3)))) ?_ ?_
 ·refine CW.drawn (by kernel_rfl) ?_
  refine RQ.v rfl (V.field rfl rfl rfl rfl (by decide) rfl) ?_
  refine RQ.v rfl (V.loadPrim (d := I x.state) rfl rfl (.inl rfl) rfl rfl rfl) ?_
  refine RQ.cons rfl (QOK.call (spec_l01In_fn x.state 0 4) rfl (.cons (.one (.r .r)) (.cons (.one (.r .r)) (.cons (.one (.r .r)) (.nil)))) ?_)
  refine RQ.v rfl (V.not rfl rfl) ?_
  refine RQ.v rfl (V.mv (d := Bo (!(inR x.state 0 4))) rfl rfl) ?_
  refine RQ.gv rfl rfl rfl rfl (fun h3 => V.field rfl rfl rfl rfl (by decide) rfl) (fun h3 => ?_) (fun h3 => ?_)
  ·skip
   refine RQ.gt rfl rfl rfl rfl (V.loadPrim (d := I x.iss) rfl rfl (.inl rfl) rfl rfl rfl) ?_
   refine RQ.guardT rfl rfl rfl rfl (QOK.call (spec_l01In_fn x.iss 0 65535) rfl (.cons (.one (.r .r)) (.cons (.one (.r .r)) (.cons (.one (.r .r)) (.nil)))) ?_)
   refine RQ.gt rfl rfl rfl rfl (V.not rfl rfl) ?_
   refine RQ.v rfl (V.pickF (d := Bo (!(inR x.iss 0 65535))) rfl rfl rfl) ?_
   refine RQ.v rfl (V.mv (d := Bo (!(inR x.iss 0 65535))) rfl rfl) ?_
   refine RQ.gv rfl rfl rfl rfl (fun h4 => V.field rfl rfl rfl rfl (by decide) rfl) (fun h4 => ?_) (fun h4 => ?_)
   ·skip
    refine RQ.gt rfl rfl rfl rfl (V.loadPrim (d := I x.una) rfl rfl (.inl rfl) rfl rfl rfl) ?_
    refine RQ.guardT rfl rfl rfl rfl (QOK.call (spec_l01In_fn x.una 0 65535) rfl (.cons (.one (.r .r)) (.cons (.one (.r .r)) (.cons (.one (.r .r)) (.nil)))) ?_)
    refine RQ.gt rfl rfl rfl rfl (V.not rfl rfl) ?_
    refine RQ.v rfl (V.pickF (d := Bo (!(inR x.una 0 65535))) rfl rfl rfl) ?_
    refine RQ.v rfl (V.mv (d := Bo (!(inR x.una 0 65535))) rfl rfl) ?_
    refine RQ.gv rfl rfl rfl rfl (fun h5 => V.field rfl rfl rfl rfl (by decide) rfl) (fun h5 => ?_) (fun h5 => ?_)
    ·skip
     refine RQ.gt rfl rfl rfl rfl (V.loadPrim (d := I x.rcv) rfl rfl (.inl rfl) rfl rfl rfl) ?_
     refine RQ.guardT rfl rfl rfl rfl (QOK.call (spec_l01In_fn x.rcv 0 65535) rfl (.cons (.one (.r .r)) (.cons (.one (.r .r)) (.cons (.one (.r .r)) (.nil)))) ?_)
     refine RQ.gt rfl rfl rfl rfl (V.not rfl rfl) ?_
     refine RQ.v rfl (V.pickF (d := Bo (!(inR x.rcv 0 65535))) rfl rfl rfl) ?_
     refine RQ.v rfl (V.mv (d := Bo (!(inR x.rcv 0 65535))) rfl rfl) ?_
     refine RQ.gv rfl rfl rfl rfl (fun h6 => V.field rfl rfl rfl rfl (by decide) rfl) (fun h6 => ?_) (fun h6 => ?_)
     ·skip
      refine RQ.gt rfl rfl rfl rfl (V.loadPrim (d := S x.wait) rfl rfl (.inl rfl) rfl rfl rfl) ?_
      refine RQ.gt rfl rfl rfl rfl (V.lenStr rfl (by kernel_rfl) rfl) ?_
      refine RQ.gt rfl rfl rfl rfl (V.cmpInt rfl rfl rfl rfl) ?_
      refine RQ.v rfl (V.pickF (d := Bo (decide ((x.wait.size : Int) > 200))) rfl rfl rfl) ?_
      refine RQ.v rfl (V.mv (d := Bo (decide ((x.wait.size : Int) > 200))) rfl rfl) ?_
      refine RQ.gv rfl rfl rfl rfl (fun h7 => V.field rfl rfl rfl rfl (by decide) rfl) (fun h7 => ?_) (fun h7 => ?_)
      ·skip
       refine RQ.gt rfl rfl rfl rfl (V.loadPrim (d := I x.sent) rfl rfl (.inl rfl) rfl rfl rfl) ?_
       refine RQ.gt rfl rfl rfl rfl (V.field rfl rfl rfl rfl (by decide) rfl) ?_
       refine RQ.gt rfl rfl rfl rfl (V.loadPrim (d := S x.wait) rfl rfl (.inl rfl) rfl rfl rfl) ?_
       refine RQ.gt rfl rfl rfl rfl (V.lenStr rfl (by kernel_rfl) rfl) ?_
       refine RQ.guardT rfl rfl rfl rfl (QOK.call (spec_l13Less_fn (x.wait.size : Int) 24) rfl (.cons (.one (.r .r)) (.cons (.one (.r .r)) (.nil))) ?_)
       refine RQ.guardT rfl rfl rfl rfl (QOK.call (spec_l01In_fn x.sent 0 (mnI (x.wait.size : Int) 24)) rfl (.cons (.one (.r .r)) (.cons (.one (.r .r)) (.cons (.one (.r .r)) (.nil)))) ?_)
       refine RQ.gt rfl rfl rfl rfl (V.not rfl rfl) ?_
       refine RQ.v rfl (V.pickF (d := Bo (!(inR x.sent 0 (mnI (x.wait.size : Int) 24)))) rfl rfl rfl) ?_
       refine RQ.v rfl (V.mv (d := Bo (!(inR x.sent 0 (mnI (x.wait.size : Int) 24)))) rfl rfl) ?_
       refine RQ.gv rfl rfl rfl rfl (fun h8 => V.field rfl rfl rfl rfl (by decide) rfl) (fun h8 => ?_) (fun h8 => ?_)
       ·skip
        refine RQ.gt rfl rfl rfl rfl (V.loadPrim (d := I x.fin) rfl rfl (.inl rfl) rfl rfl rfl) ?_
        refine RQ.guardT rfl rfl rfl rfl (QOK.call (spec_l01In_fn x.fin 0 3) rfl (.cons (.one (.r .r)) (.cons (.one (.r .r)) (.cons (.one (.r .r)) (.nil)))) ?_)
        refine RQ.gt rfl rfl rfl rfl (V.not rfl rfl) ?_
        refine RQ.v rfl (V.pickF (d := Bo (!(inR x.fin 0 3))) rfl rfl rfl) ?_
        refine RQ.nil ?_
        exact ⟨_, by first | rfl | (simp_all; done) | (simp_all; omega) | grind, rfl, Le.c rfl <| Le.c rfl <| Le.e⟩
       ·skip
        refine RQ.guardF rfl rfl rfl rfl ?_
        refine RQ.guardF rfl rfl rfl rfl ?_
        refine RQ.guardF rfl rfl rfl rfl ?_
        refine RQ.v rfl (V.pickT (d := Bo true) rfl rfl rfl) ?_
        refine RQ.nil ?_
        exact ⟨_, by first | rfl | (simp_all; done) | (simp_all; omega) | grind, rfl, Le.c rfl <| Le.c rfl <| Le.e⟩
      ·skip
       refine RQ.guardF rfl rfl rfl rfl ?_
       refine RQ.guardF rfl rfl rfl rfl ?_
       refine RQ.guardF rfl rfl rfl rfl ?_
       refine RQ.guardF rfl rfl rfl rfl ?_
       refine RQ.guardF rfl rfl rfl rfl ?_
       refine RQ.guardF rfl rfl rfl rfl ?_
       refine RQ.guardF rfl rfl rfl rfl ?_
       refine RQ.v rfl (V.pickT (d := Bo true) rfl rfl rfl) ?_
       refine RQ.v rfl (V.mv (d := Bo true) rfl rfl) ?_
       refine RQ.guardF rfl rfl rfl rfl ?_
       refine RQ.guardF rfl rfl rfl rfl ?_
       refine RQ.guardF rfl rfl rfl rfl ?_
       refine RQ.guardF rfl rfl rfl rfl ?_
       refine RQ.v rfl (V.pickT (d := Bo true) rfl rfl rfl) ?_
       refine RQ.nil ?_
       exact ⟨_, by first | rfl | (simp_all; done) | (simp_all; omega) | grind, rfl, Le.c rfl <| Le.c rfl <| Le.e⟩
     ·skip
      refine RQ.guardF rfl rfl rfl rfl ?_
      refine RQ.guardF rfl rfl rfl rfl ?_
      refine RQ.guardF rfl rfl rfl rfl ?_
      refine RQ.v rfl (V.pickT (d := Bo true) rfl rfl rfl) ?_
      refine RQ.v rfl (V.mv (d := Bo true) rfl rfl) ?_
      refine RQ.guardF rfl rfl rfl rfl ?_
      refine RQ.guardF rfl rfl rfl rfl ?_
      refine RQ.guardF rfl rfl rfl rfl ?_
      refine RQ.guardF rfl rfl rfl rfl ?_
      refine RQ.guardF rfl rfl rfl rfl ?_
      refine RQ.guardF rfl rfl rfl rfl ?_
      refine RQ.guardF rfl rfl rfl rfl ?_
      refine RQ.guardF rfl rfl rfl rfl ?_
      refine RQ.v rfl (V.pickT (d := Bo true) rfl rfl rfl) ?_
      refine RQ.v rfl (V.mv (d := Bo true) rfl rfl) ?_
      refine RQ.guardF rfl rfl rfl rfl ?_
      refine RQ.guardF rfl rfl rfl rfl ?_
      refine RQ.guardF rfl rfl rfl rfl ?_
      refine RQ.guardF rfl rfl rfl rfl ?_
      refine RQ.v rfl (V.pickT (d := Bo true) rfl rfl rfl) ?_
      refine RQ.nil ?_
      exact ⟨_, by first | rfl | (simp_all; done) | (simp_all; omega) | grind, rfl, Le.c rfl <| Le.c rfl <| Le.e⟩
    ·skip
     refine RQ.guardF rfl rfl rfl rfl ?_
     refine RQ.guardF rfl rfl rfl rfl ?_
     refine RQ.guardF rfl rfl rfl rfl ?_
     refine RQ.v rfl (V.pickT (d := Bo true) rfl rfl rfl) ?_
     refine RQ.v rfl (V.mv (d := Bo true) rfl rfl) ?_
     refine RQ.guardF rfl rfl rfl rfl ?_
     refine RQ.guardF rfl rfl rfl rfl ?_
     refine RQ.guardF rfl rfl rfl rfl ?_
     refine RQ.guardF rfl rfl rfl rfl ?_
     refine RQ.v rfl (V.pickT (d := Bo true) rfl rfl rfl) ?_
     refine RQ.v rfl (V.mv (d := Bo true) rfl rfl) ?_
     refine RQ.guardF rfl rfl rfl rfl ?_
     refine RQ.guardF rfl rfl rfl rfl ?_
     refine RQ.guardF rfl rfl rfl rfl ?_
     refine RQ.guardF rfl rfl rfl rfl ?_
     refine RQ.guardF rfl rfl rfl rfl ?_
     refine RQ.guardF rfl rfl rfl rfl ?_
     refine RQ.guardF rfl rfl rfl rfl ?_
     refine RQ.guardF rfl rfl rfl rfl ?_
     refine RQ.v rfl (V.pickT (d := Bo true) rfl rfl rfl) ?_
     refine RQ.v rfl (V.mv (d := Bo true) rfl rfl) ?_
     refine RQ.guardF rfl rfl rfl rfl ?_
     refine RQ.guardF rfl rfl rfl rfl ?_
     refine RQ.guardF rfl rfl rfl rfl ?_
     refine RQ.guardF rfl rfl rfl rfl ?_
     refine RQ.v rfl (V.pickT (d := Bo true) rfl rfl rfl) ?_
     refine RQ.nil ?_
     exact ⟨_, by first | rfl | (simp_all; done) | (simp_all; omega) | grind, rfl, Le.c rfl <| Le.c rfl <| Le.e⟩
   ·skip
    refine RQ.guardF rfl rfl rfl rfl ?_
    refine RQ.guardF rfl rfl rfl rfl ?_
    refine RQ.guardF rfl rfl rfl rfl ?_
    refine RQ.v rfl (V.pickT (d := Bo true) rfl rfl rfl) ?_
    refine RQ.v rfl (V.mv (d := Bo true) rfl rfl) ?_
    refine RQ.guardF rfl rfl rfl rfl ?_
    refine RQ.guardF rfl rfl rfl rfl ?_
    refine RQ.guardF rfl rfl rfl rfl ?_
    refine RQ.guardF rfl rfl rfl rfl ?_
    refine RQ.v rfl (V.pickT (d := Bo true) rfl rfl rfl) ?_
    refine RQ.v rfl (V.mv (d := Bo true) rfl rfl) ?_
    refine RQ.guardF rfl rfl rfl rfl ?_
    refine RQ.guardF rfl rfl rfl rfl ?_
    refine RQ.guardF rfl rfl rfl rfl ?_
    refine RQ.guardF rfl rfl rfl rfl ?_
    refine RQ.v rfl (V.pickT (d := Bo true) rfl rfl rfl) ?_
    refine RQ.v rfl (V.mv (d := Bo true) rfl rfl) ?_
    refine RQ.guardF rfl rfl rfl rfl ?_
    refine RQ.guardF rfl rfl rfl rfl ?_
    refine RQ.guardF rfl rfl rfl rfl ?_
    refine RQ.guardF rfl rfl rfl rfl ?_
    refine RQ.guardF rfl rfl rfl rfl ?_
    refine RQ.guardF rfl rfl rfl rfl ?_
    refine RQ.guardF rfl rfl rfl rfl ?_
    refine RQ.guardF rfl rfl rfl rfl ?_
    refine RQ.v rfl (V.pickT (d := Bo true) rfl rfl rfl) ?_
    refine RQ.v rfl (V.mv (d := Bo true) rfl rfl) ?_
    refine RQ.guardF rfl rfl rfl rfl ?_
    refine RQ.guardF rfl rfl rfl rfl ?_
    refine RQ.guardF rfl rfl rfl rfl ?_
    refine RQ.guardF rfl rfl rfl rfl ?_
    refine RQ.v rfl (V.pickT (d := Bo true) rfl rfl rfl) ?_
    refine RQ.nil ?_
    exact ⟨_, by first | rfl | (simp_all; done) | (simp_all; omega) | grind, rfl, Le.c rfl <| Le.c rfl <| Le.e⟩
  ·skip
   refine RQ.guardF rfl rfl rfl rfl ?_
   refine RQ.guardF rfl rfl rfl rfl ?_
   refine RQ.guardF rfl rfl rfl rfl ?_
   refine RQ.v rfl (V.pickT (d := Bo true) rfl rfl rfl) ?_
   refine RQ.v rfl (V.mv (d := Bo true) rfl rfl) ?_
   refine RQ.guardF rfl rfl rfl rfl ?_
   refine RQ.guardF rfl rfl rfl rfl ?_
   refine RQ.guardF rfl rfl rfl rfl ?_
   refine RQ.guardF rfl rfl rfl rfl ?_
   refine RQ.v rfl (V.pickT (d := Bo true) rfl rfl rfl) ?_
   refine RQ.v rfl (V.mv (d := Bo true) rfl rfl) ?_
   refine RQ.guardF rfl rfl rfl rfl ?_
   refine RQ.guardF rfl rfl rfl rfl ?_
   refine RQ.guardF rfl rfl rfl rfl ?_
   refine RQ.guardF rfl rfl rfl rfl ?_
   refine RQ.v rfl (V.pickT (d := Bo true) rfl rfl rfl) ?_
   refine RQ.v rfl (V.mv (d := Bo true) rfl rfl) ?_
   refine RQ.guardF rfl rfl rfl rfl ?_
   refine RQ.guardF rfl rfl rfl rfl ?_
   refine RQ.guardF rfl rfl rfl rfl ?_
   refine RQ.guardF rfl rfl rfl rfl ?_
   refine RQ.v rfl (V.pickT (d := Bo true) rfl rfl rfl) ?_
   refine RQ.v rfl (V.mv (d := Bo true) rfl rfl) ?_
   refine RQ.guardF rfl rfl rfl rfl ?_
   refine RQ.guardF rfl rfl rfl rfl ?_
   refine RQ.guardF rfl rfl rfl rfl ?_
   refine RQ.guardF rfl rfl rfl rfl ?_
   refine RQ.guardF rfl rfl rfl rfl ?_
   refine RQ.guardF rfl rfl rfl rfl ?_
   refine RQ.guardF rfl rfl rfl rfl ?_
   refine RQ.guardF rfl rfl rfl rfl ?_
   refine RQ.v rfl (V.pickT (d := Bo true) rfl rfl rfl) ?_
   refine RQ.v rfl (V.mv (d := Bo true) rfl rfl) ?_
   refine RQ.guardF rfl rfl rfl rfl ?_
   refine RQ.guardF rfl rfl rfl rfl ?_
   refine RQ.guardF rfl rfl rfl rfl ?_
   refine RQ.guardF rfl rfl rfl rfl ?_
   refine RQ.v rfl (V.pickT (d := Bo true) rfl rfl rfl) ?_
   refine RQ.nil ?_
   exact ⟨_, by first | rfl | (simp_all; done) | (simp_all; omega) | grind, rfl, Le.c rfl <| Le.c rfl <| Le.e⟩
 ·intro v2 hv9
  refine CW.cond rfl (fun h10 => ?_) (fun h10 => ?_)
  ·skip
   refine CW.seq ?_
   refine CW.region ?_
   refine RW.v rfl (V.as (d := Bo false) rfl rfl) ?_
   refine RW.nil ?_
   refine CW.le [(2, Bo false)] rfl (Le.of rfl) ?_
   refine CW.ret ?_
   exact Post.one (RV.b rfl (by unfold streamOk emp isWord; first | (simp_all; done) | grind)) (AOs.a rfl AOs.e)
  ·skip
   refine CW.skip ?_
   refine CW.le [(1, .obj b1 ((Stream.c x).map .r))] rfl (Le.of rfl) ?_
   refine CW.seq ?_
   refine CW.seqJ 119 (fun (v11 : Bool) => [(1, .obj b1 ((Stream.c x).map .r)), (92, Bo v11)]) (fun v11 => v11 = (((((((x.fin == 2) && (x.sent != (x.wait.size : Int))) || ((x.fin == 3) && (!(x.wait.toList == (⟨#[]⟩ : ByteArray).toList)))) || decide ((x.in_.size : Int) > 1000)) || decide ((x.late.length : Int) > 8)) || (!(inR x.due 0 1000000000))) || (!(inR x.times 0 12)))) ?_ ?_
   ·refine CW.region ?_
    refine RW.v rfl (V.field rfl rfl rfl rfl (by decide) rfl) ?_
    refine RW.v rfl (V.loadPrim (d := I x.fin) rfl rfl (.inl rfl) rfl rfl rfl) ?_
    refine RW.v rfl (V.cmpInt rfl rfl rfl rfl) ?_
    refine RW.v rfl (V.mv (d := Bo (x.fin == 2)) rfl rfl) ?_
    refine RW.gv rfl rfl rfl rfl (fun h12 => V.field rfl rfl rfl rfl (by decide) rfl) (fun h12 => ?_) (fun h12 => ?_)
    ·skip
     refine RW.gt rfl rfl rfl rfl (V.loadPrim (d := I x.sent) rfl rfl (.inl rfl) rfl rfl rfl) ?_
     refine RW.gt rfl rfl rfl rfl (V.field rfl rfl rfl rfl (by decide) rfl) ?_
     refine RW.gt rfl rfl rfl rfl (V.loadPrim (d := S x.wait) rfl rfl (.inl rfl) rfl rfl rfl) ?_
     refine RW.gt rfl rfl rfl rfl (V.lenStr rfl (by kernel_rfl) rfl) ?_
     refine RW.gt rfl rfl rfl rfl (V.cmpInt rfl rfl rfl rfl) ?_
     refine RW.v rfl (V.pickT (d := Bo (x.sent != (x.wait.size : Int))) rfl rfl rfl) ?_
     refine RW.v rfl (V.mv (d := Bo (x.sent != (x.wait.size : Int))) rfl rfl) ?_
     refine RW.gv rfl rfl rfl rfl (fun h13 => V.field rfl rfl rfl rfl (by decide) rfl) (fun h13 => ?_) (fun h13 => ?_)
     ·skip
      refine RW.gt rfl rfl rfl rfl (V.loadPrim (d := I x.fin) rfl rfl (.inl rfl) rfl rfl rfl) ?_
      refine RW.gt rfl rfl rfl rfl (V.cmpInt rfl rfl rfl rfl) ?_
      refine RW.gt rfl rfl rfl rfl (V.mv (d := Bo (x.fin == 3)) rfl rfl) ?_
      refine RW.gv rfl rfl rfl rfl (fun h14 => V.field rfl rfl rfl rfl (by decide) rfl) (fun h14 => ?_) (fun h14 => ?_)
      ·skip
       refine RW.gt rfl rfl rfl rfl (V.loadPrim (d := S x.wait) rfl rfl (.inl rfl) rfl rfl rfl) ?_
       refine RW.gt rfl rfl rfl rfl (V.strCmp rfl rfl rfl rfl) ?_
       refine RW.gt rfl rfl rfl rfl (V.pickT (d := Bo (!(x.wait.toList == (⟨#[]⟩ : ByteArray).toList))) rfl rfl rfl) ?_
       refine RW.v rfl (V.pickF (d := Bo (!(x.wait.toList == (⟨#[]⟩ : ByteArray).toList))) rfl rfl rfl) ?_
       refine RW.v rfl (V.mv (d := Bo (!(x.wait.toList == (⟨#[]⟩ : ByteArray).toList))) rfl rfl) ?_
       refine RW.gv rfl rfl rfl rfl (fun h15 => V.field rfl rfl rfl rfl (by decide) rfl) (fun h15 => ?_) (fun h15 => ?_)
       ·skip
        refine RW.gt rfl rfl rfl rfl (V.loadPrim (d := S x.in_) rfl rfl (.inl rfl) rfl rfl rfl) ?_
        refine RW.gt rfl rfl rfl rfl (V.lenStr rfl (by kernel_rfl) rfl) ?_
        refine RW.gt rfl rfl rfl rfl (V.cmpInt rfl rfl rfl rfl) ?_
        refine RW.v rfl (V.pickF (d := Bo (decide ((x.in_.size : Int) > 1000))) rfl rfl rfl) ?_
        refine RW.v rfl (V.mv (d := Bo (decide ((x.in_.size : Int) > 1000))) rfl rfl) ?_
        refine RW.gv rfl rfl rfl rfl (fun h16 => V.field rfl rfl rfl rfl (by decide) rfl) (fun h16 => ?_) (fun h16 => ?_)
        ·skip
         refine RW.gt rfl rfl rfl rfl (V.loadPrim (d := .r (sl 2 Late.c x.late)) rfl rfl (.inr ⟨_, rfl⟩) rfl rfl rfl) ?_
         refine RW.gt rfl rfl rfl rfl (V.lenT (n := x.late.length) rfl rfl rfl .r) ?_
         refine RW.gt rfl rfl rfl rfl (V.cmpInt rfl rfl rfl rfl) ?_
         refine RW.v rfl (V.pickF (d := Bo (decide ((x.late.length : Int) > 8))) rfl rfl rfl) ?_
         refine RW.v rfl (V.mv (d := Bo (decide ((x.late.length : Int) > 8))) rfl rfl) ?_
         refine RW.gv rfl rfl rfl rfl (fun h17 => V.field rfl rfl rfl rfl (by decide) rfl) (fun h17 => ?_) (fun h17 => ?_)
         ·skip
          refine RW.gt rfl rfl rfl rfl (V.loadPrim (d := I x.due) rfl rfl (.inl rfl) rfl rfl rfl) ?_
          refine RW.gcall rfl rfl rfl rfl (spec_l01In_fn x.due 0 1000000000) rfl (.cons (.one (.r .r)) (.cons (.one (.r .r)) (.cons (.one (.r .r)) (.nil)))) fun g18 => ?_
          refine RW.gt rfl rfl rfl rfl (V.not rfl rfl) ?_
          refine RW.v rfl (V.pickF (d := Bo (!(inR x.due 0 1000000000))) rfl rfl rfl) ?_
          refine RW.v rfl (V.mv (d := Bo (!(inR x.due 0 1000000000))) rfl rfl) ?_
          refine RW.gv rfl rfl rfl rfl (fun h19 => V.field rfl rfl rfl rfl (by decide) rfl) (fun h19 => ?_) (fun h19 => ?_)
          ·skip
           refine RW.gt rfl rfl rfl rfl (V.loadPrim (d := I x.times) rfl rfl (.inl rfl) rfl rfl rfl) ?_
           refine RW.gcall rfl rfl rfl rfl (spec_l01In_fn x.times 0 12) rfl (.cons (.one (.r .r)) (.cons (.one (.r .r)) (.cons (.one (.r .r)) (.nil)))) fun g20 => ?_
           refine RW.gt rfl rfl rfl rfl (V.not rfl rfl) ?_
           refine RW.v rfl (V.pickF (d := Bo (!(inR x.times 0 12))) rfl rfl rfl) ?_
           refine RW.nil ?_
           exact ⟨_, by first | rfl | (simp_all; done) | (simp_all; omega) | grind, rfl, Le.c rfl <| Le.c rfl <| Le.e⟩
          ·skip
           refine RW.guardF rfl rfl rfl rfl ?_
           refine RW.guardF rfl rfl rfl rfl ?_
           refine RW.guardF rfl rfl rfl rfl ?_
           refine RW.v rfl (V.pickT (d := Bo true) rfl rfl rfl) ?_
           refine RW.nil ?_
           exact ⟨_, by first | rfl | (simp_all; done) | (simp_all; omega) | grind, rfl, Le.c rfl <| Le.c rfl <| Le.e⟩
         ·skip
          refine RW.guardF rfl rfl rfl rfl ?_
          refine RW.guardF rfl rfl rfl rfl ?_
          refine RW.guardF rfl rfl rfl rfl ?_
          refine RW.v rfl (V.pickT (d := Bo true) rfl rfl rfl) ?_
          refine RW.v rfl (V.mv (d := Bo true) rfl rfl) ?_
          refine RW.guardF rfl rfl rfl rfl ?_
          refine RW.guardF rfl rfl rfl rfl ?_
          refine RW.guardF rfl rfl rfl rfl ?_
          refine RW.guardF rfl rfl rfl rfl ?_
          refine RW.v rfl (V.pickT (d := Bo true) rfl rfl rfl) ?_
          refine RW.nil ?_
          exact ⟨_, by first | rfl | (simp_all; done) | (simp_all; omega) | grind, rfl, Le.c rfl <| Le.c rfl <| Le.e⟩
        ·skip
         refine RW.guardF rfl rfl rfl rfl ?_
         refine RW.guardF rfl rfl rfl rfl ?_
         refine RW.guardF rfl rfl rfl rfl ?_
         refine RW.v rfl (V.pickT (d := Bo true) rfl rfl rfl) ?_
         refine RW.v rfl (V.mv (d := Bo true) rfl rfl) ?_
         refine RW.guardF rfl rfl rfl rfl ?_
         refine RW.guardF rfl rfl rfl rfl ?_
         refine RW.guardF rfl rfl rfl rfl ?_
         refine RW.guardF rfl rfl rfl rfl ?_
         refine RW.v rfl (V.pickT (d := Bo true) rfl rfl rfl) ?_
         refine RW.v rfl (V.mv (d := Bo true) rfl rfl) ?_
         refine RW.guardF rfl rfl rfl rfl ?_
         refine RW.guardF rfl rfl rfl rfl ?_
         refine RW.guardF rfl rfl rfl rfl ?_
         refine RW.guardF rfl rfl rfl rfl ?_
         refine RW.v rfl (V.pickT (d := Bo true) rfl rfl rfl) ?_
         refine RW.nil ?_
         exact ⟨_, by first | rfl | (simp_all; done) | (simp_all; omega) | grind, rfl, Le.c rfl <| Le.c rfl <| Le.e⟩
       ·skip
        refine RW.guardF rfl rfl rfl rfl ?_
        refine RW.guardF rfl rfl rfl rfl ?_
        refine RW.guardF rfl rfl rfl rfl ?_
        refine RW.v rfl (V.pickT (d := Bo true) rfl rfl rfl) ?_
        refine RW.v rfl (V.mv (d := Bo true) rfl rfl) ?_
        refine RW.guardF rfl rfl rfl rfl ?_
        refine RW.guardF rfl rfl rfl rfl ?_
        refine RW.guardF rfl rfl rfl rfl ?_
        refine RW.guardF rfl rfl rfl rfl ?_
        refine RW.v rfl (V.pickT (d := Bo true) rfl rfl rfl) ?_
        refine RW.v rfl (V.mv (d := Bo true) rfl rfl) ?_
        refine RW.guardF rfl rfl rfl rfl ?_
        refine RW.guardF rfl rfl rfl rfl ?_
        refine RW.guardF rfl rfl rfl rfl ?_
        refine RW.guardF rfl rfl rfl rfl ?_
        refine RW.v rfl (V.pickT (d := Bo true) rfl rfl rfl) ?_
        refine RW.v rfl (V.mv (d := Bo true) rfl rfl) ?_
        refine RW.guardF rfl rfl rfl rfl ?_
        refine RW.guardF rfl rfl rfl rfl ?_
        refine RW.guardF rfl rfl rfl rfl ?_
        refine RW.guardF rfl rfl rfl rfl ?_
        refine RW.v rfl (V.pickT (d := Bo true) rfl rfl rfl) ?_
        refine RW.nil ?_
        exact ⟨_, by first | rfl | (simp_all; done) | (simp_all; omega) | grind, rfl, Le.c rfl <| Le.c rfl <| Le.e⟩
      ·skip
       refine RW.guardF rfl rfl rfl rfl ?_
       refine RW.guardF rfl rfl rfl rfl ?_
       refine RW.gt rfl rfl rfl rfl (V.pickF (d := Bo false) rfl rfl rfl) ?_
       refine RW.v rfl (V.pickF (d := Bo false) rfl rfl rfl) ?_
       refine RW.v rfl (V.mv (d := Bo false) rfl rfl) ?_
       refine RW.gt rfl rfl rfl rfl (V.field rfl rfl rfl rfl (by decide) rfl) ?_
       refine RW.gt rfl rfl rfl rfl (V.loadPrim (d := S x.in_) rfl rfl (.inl rfl) rfl rfl rfl) ?_
       refine RW.gt rfl rfl rfl rfl (V.lenStr rfl (by kernel_rfl) rfl) ?_
       refine RW.gt rfl rfl rfl rfl (V.cmpInt rfl rfl rfl rfl) ?_
       refine RW.v rfl (V.pickF (d := Bo (decide ((x.in_.size : Int) > 1000))) rfl rfl rfl) ?_
       refine RW.v rfl (V.mv (d := Bo (decide ((x.in_.size : Int) > 1000))) rfl rfl) ?_
       refine RW.gv rfl rfl rfl rfl (fun h21 => V.field rfl rfl rfl rfl (by decide) rfl) (fun h21 => ?_) (fun h21 => ?_)
       ·skip
        refine RW.gt rfl rfl rfl rfl (V.loadPrim (d := .r (sl 2 Late.c x.late)) rfl rfl (.inr ⟨_, rfl⟩) rfl rfl rfl) ?_
        refine RW.gt rfl rfl rfl rfl (V.lenT (n := x.late.length) rfl rfl rfl .r) ?_
        refine RW.gt rfl rfl rfl rfl (V.cmpInt rfl rfl rfl rfl) ?_
        refine RW.v rfl (V.pickF (d := Bo (decide ((x.late.length : Int) > 8))) rfl rfl rfl) ?_
        refine RW.v rfl (V.mv (d := Bo (decide ((x.late.length : Int) > 8))) rfl rfl) ?_
        refine RW.gv rfl rfl rfl rfl (fun h22 => V.field rfl rfl rfl rfl (by decide) rfl) (fun h22 => ?_) (fun h22 => ?_)
        ·skip
         refine RW.gt rfl rfl rfl rfl (V.loadPrim (d := I x.due) rfl rfl (.inl rfl) rfl rfl rfl) ?_
         refine RW.gcall rfl rfl rfl rfl (spec_l01In_fn x.due 0 1000000000) rfl (.cons (.one (.r .r)) (.cons (.one (.r .r)) (.cons (.one (.r .r)) (.nil)))) fun g23 => ?_
         refine RW.gt rfl rfl rfl rfl (V.not rfl rfl) ?_
         refine RW.v rfl (V.pickF (d := Bo (!(inR x.due 0 1000000000))) rfl rfl rfl) ?_
         refine RW.v rfl (V.mv (d := Bo (!(inR x.due 0 1000000000))) rfl rfl) ?_
         refine RW.gv rfl rfl rfl rfl (fun h24 => V.field rfl rfl rfl rfl (by decide) rfl) (fun h24 => ?_) (fun h24 => ?_)
         ·skip
          refine RW.gt rfl rfl rfl rfl (V.loadPrim (d := I x.times) rfl rfl (.inl rfl) rfl rfl rfl) ?_
          refine RW.gcall rfl rfl rfl rfl (spec_l01In_fn x.times 0 12) rfl (.cons (.one (.r .r)) (.cons (.one (.r .r)) (.cons (.one (.r .r)) (.nil)))) fun g25 => ?_
          refine RW.gt rfl rfl rfl rfl (V.not rfl rfl) ?_
          refine RW.v rfl (V.pickF (d := Bo (!(inR x.times 0 12))) rfl rfl rfl) ?_
          refine RW.nil ?_
          exact ⟨_, by first | rfl | (simp_all; done) | (simp_all; omega) | grind, rfl, Le.c rfl <| Le.c rfl <| Le.e⟩
         ·skip
          refine RW.guardF rfl rfl rfl rfl ?_
          refine RW.guardF rfl rfl rfl rfl ?_
          refine RW.guardF rfl rfl rfl rfl ?_
          refine RW.v rfl (V.pickT (d := Bo true) rfl rfl rfl) ?_
          refine RW.nil ?_
          exact ⟨_, by first | rfl | (simp_all; done) | (simp_all; omega) | grind, rfl, Le.c rfl <| Le.c rfl <| Le.e⟩
        ·skip
         refine RW.guardF rfl rfl rfl rfl ?_
         refine RW.guardF rfl rfl rfl rfl ?_
         refine RW.guardF rfl rfl rfl rfl ?_
         refine RW.v rfl (V.pickT (d := Bo true) rfl rfl rfl) ?_
         refine RW.v rfl (V.mv (d := Bo true) rfl rfl) ?_
         refine RW.guardF rfl rfl rfl rfl ?_
         refine RW.guardF rfl rfl rfl rfl ?_
         refine RW.guardF rfl rfl rfl rfl ?_
         refine RW.guardF rfl rfl rfl rfl ?_
         refine RW.v rfl (V.pickT (d := Bo true) rfl rfl rfl) ?_
         refine RW.nil ?_
         exact ⟨_, by first | rfl | (simp_all; done) | (simp_all; omega) | grind, rfl, Le.c rfl <| Le.c rfl <| Le.e⟩
       ·skip
        refine RW.guardF rfl rfl rfl rfl ?_
        refine RW.guardF rfl rfl rfl rfl ?_
        refine RW.guardF rfl rfl rfl rfl ?_
        refine RW.v rfl (V.pickT (d := Bo true) rfl rfl rfl) ?_
        refine RW.v rfl (V.mv (d := Bo true) rfl rfl) ?_
        refine RW.guardF rfl rfl rfl rfl ?_
        refine RW.guardF rfl rfl rfl rfl ?_
        refine RW.guardF rfl rfl rfl rfl ?_
        refine RW.guardF rfl rfl rfl rfl ?_
        refine RW.v rfl (V.pickT (d := Bo true) rfl rfl rfl) ?_
        refine RW.v rfl (V.mv (d := Bo true) rfl rfl) ?_
        refine RW.guardF rfl rfl rfl rfl ?_
        refine RW.guardF rfl rfl rfl rfl ?_
        refine RW.guardF rfl rfl rfl rfl ?_
        refine RW.guardF rfl rfl rfl rfl ?_
        refine RW.v rfl (V.pickT (d := Bo true) rfl rfl rfl) ?_
        refine RW.nil ?_
        exact ⟨_, by first | rfl | (simp_all; done) | (simp_all; omega) | grind, rfl, Le.c rfl <| Le.c rfl <| Le.e⟩
     ·skip
      refine RW.guardF rfl rfl rfl rfl ?_
      refine RW.guardF rfl rfl rfl rfl ?_
      refine RW.guardF rfl rfl rfl rfl ?_
      refine RW.guardU rfl rfl rfl rfl ?_
      refine RW.guardU rfl rfl rfl rfl ?_
      refine RW.guardU rfl rfl rfl rfl ?_
      refine RW.guardF rfl rfl rfl rfl ?_
      refine RW.v rfl (V.pickT (d := Bo true) rfl rfl rfl) ?_
      refine RW.v rfl (V.mv (d := Bo true) rfl rfl) ?_
      refine RW.guardF rfl rfl rfl rfl ?_
      refine RW.guardF rfl rfl rfl rfl ?_
      refine RW.guardF rfl rfl rfl rfl ?_
      refine RW.guardF rfl rfl rfl rfl ?_
      refine RW.v rfl (V.pickT (d := Bo true) rfl rfl rfl) ?_
      refine RW.v rfl (V.mv (d := Bo true) rfl rfl) ?_
      refine RW.guardF rfl rfl rfl rfl ?_
      refine RW.guardF rfl rfl rfl rfl ?_
      refine RW.guardF rfl rfl rfl rfl ?_
      refine RW.guardF rfl rfl rfl rfl ?_
      refine RW.v rfl (V.pickT (d := Bo true) rfl rfl rfl) ?_
      refine RW.v rfl (V.mv (d := Bo true) rfl rfl) ?_
      refine RW.guardF rfl rfl rfl rfl ?_
      refine RW.guardF rfl rfl rfl rfl ?_
      refine RW.guardF rfl rfl rfl rfl ?_
      refine RW.guardF rfl rfl rfl rfl ?_
      refine RW.v rfl (V.pickT (d := Bo true) rfl rfl rfl) ?_
      refine RW.v rfl (V.mv (d := Bo true) rfl rfl) ?_
      refine RW.guardF rfl rfl rfl rfl ?_
      refine RW.guardF rfl rfl rfl rfl ?_
      refine RW.guardF rfl rfl rfl rfl ?_
      refine RW.guardF rfl rfl rfl rfl ?_
      refine RW.v rfl (V.pickT (d := Bo true) rfl rfl rfl) ?_
      refine RW.nil ?_
      exact ⟨_, by first | rfl | (simp_all; done) | (simp_all; omega) | grind, rfl, Le.c rfl <| Le.c rfl <| Le.e⟩
    ·skip
     refine RW.guardF rfl rfl rfl rfl ?_
     refine RW.guardF rfl rfl rfl rfl ?_
     refine RW.guardF rfl rfl rfl rfl ?_
     refine RW.guardF rfl rfl rfl rfl ?_
     refine RW.guardF rfl rfl rfl rfl ?_
     refine RW.v rfl (V.pickF (d := Bo false) rfl rfl rfl) ?_
     refine RW.v rfl (V.mv (d := Bo false) rfl rfl) ?_
     refine RW.gt rfl rfl rfl rfl (V.field rfl rfl rfl rfl (by decide) rfl) ?_
     refine RW.gt rfl rfl rfl rfl (V.loadPrim (d := I x.fin) rfl rfl (.inl rfl) rfl rfl rfl) ?_
     refine RW.gt rfl rfl rfl rfl (V.cmpInt rfl rfl rfl rfl) ?_
     refine RW.gt rfl rfl rfl rfl (V.mv (d := Bo (x.fin == 3)) rfl rfl) ?_
     refine RW.gv rfl rfl rfl rfl (fun h26 => V.field rfl rfl rfl rfl (by decide) rfl) (fun h26 => ?_) (fun h26 => ?_)
     ·skip
      refine RW.gt rfl rfl rfl rfl (V.loadPrim (d := S x.wait) rfl rfl (.inl rfl) rfl rfl rfl) ?_
      refine RW.gt rfl rfl rfl rfl (V.strCmp rfl rfl rfl rfl) ?_
      refine RW.gt rfl rfl rfl rfl (V.pickT (d := Bo (!(x.wait.toList == (⟨#[]⟩ : ByteArray).toList))) rfl rfl rfl) ?_
      refine RW.v rfl (V.pickF (d := Bo (!(x.wait.toList == (⟨#[]⟩ : ByteArray).toList))) rfl rfl rfl) ?_
      refine RW.v rfl (V.mv (d := Bo (!(x.wait.toList == (⟨#[]⟩ : ByteArray).toList))) rfl rfl) ?_
      refine RW.gv rfl rfl rfl rfl (fun h27 => V.field rfl rfl rfl rfl (by decide) rfl) (fun h27 => ?_) (fun h27 => ?_)
      ·skip
       refine RW.gt rfl rfl rfl rfl (V.loadPrim (d := S x.in_) rfl rfl (.inl rfl) rfl rfl rfl) ?_
       refine RW.gt rfl rfl rfl rfl (V.lenStr rfl (by kernel_rfl) rfl) ?_
       refine RW.gt rfl rfl rfl rfl (V.cmpInt rfl rfl rfl rfl) ?_
       refine RW.v rfl (V.pickF (d := Bo (decide ((x.in_.size : Int) > 1000))) rfl rfl rfl) ?_
       refine RW.v rfl (V.mv (d := Bo (decide ((x.in_.size : Int) > 1000))) rfl rfl) ?_
       refine RW.gv rfl rfl rfl rfl (fun h28 => V.field rfl rfl rfl rfl (by decide) rfl) (fun h28 => ?_) (fun h28 => ?_)
       ·skip
        refine RW.gt rfl rfl rfl rfl (V.loadPrim (d := .r (sl 2 Late.c x.late)) rfl rfl (.inr ⟨_, rfl⟩) rfl rfl rfl) ?_
        refine RW.gt rfl rfl rfl rfl (V.lenT (n := x.late.length) rfl rfl rfl .r) ?_
        refine RW.gt rfl rfl rfl rfl (V.cmpInt rfl rfl rfl rfl) ?_
        refine RW.v rfl (V.pickF (d := Bo (decide ((x.late.length : Int) > 8))) rfl rfl rfl) ?_
        refine RW.v rfl (V.mv (d := Bo (decide ((x.late.length : Int) > 8))) rfl rfl) ?_
        refine RW.gv rfl rfl rfl rfl (fun h29 => V.field rfl rfl rfl rfl (by decide) rfl) (fun h29 => ?_) (fun h29 => ?_)
        ·skip
         refine RW.gt rfl rfl rfl rfl (V.loadPrim (d := I x.due) rfl rfl (.inl rfl) rfl rfl rfl) ?_
         refine RW.gcall rfl rfl rfl rfl (spec_l01In_fn x.due 0 1000000000) rfl (.cons (.one (.r .r)) (.cons (.one (.r .r)) (.cons (.one (.r .r)) (.nil)))) fun g30 => ?_
         refine RW.gt rfl rfl rfl rfl (V.not rfl rfl) ?_
         refine RW.v rfl (V.pickF (d := Bo (!(inR x.due 0 1000000000))) rfl rfl rfl) ?_
         refine RW.v rfl (V.mv (d := Bo (!(inR x.due 0 1000000000))) rfl rfl) ?_
         refine RW.gv rfl rfl rfl rfl (fun h31 => V.field rfl rfl rfl rfl (by decide) rfl) (fun h31 => ?_) (fun h31 => ?_)
         ·skip
          refine RW.gt rfl rfl rfl rfl (V.loadPrim (d := I x.times) rfl rfl (.inl rfl) rfl rfl rfl) ?_
          refine RW.gcall rfl rfl rfl rfl (spec_l01In_fn x.times 0 12) rfl (.cons (.one (.r .r)) (.cons (.one (.r .r)) (.cons (.one (.r .r)) (.nil)))) fun g32 => ?_
          refine RW.gt rfl rfl rfl rfl (V.not rfl rfl) ?_
          refine RW.v rfl (V.pickF (d := Bo (!(inR x.times 0 12))) rfl rfl rfl) ?_
          refine RW.nil ?_
          exact ⟨_, by first | rfl | (simp_all; done) | (simp_all; omega) | grind, rfl, Le.c rfl <| Le.c rfl <| Le.e⟩
         ·skip
          refine RW.guardF rfl rfl rfl rfl ?_
          refine RW.guardF rfl rfl rfl rfl ?_
          refine RW.guardF rfl rfl rfl rfl ?_
          refine RW.v rfl (V.pickT (d := Bo true) rfl rfl rfl) ?_
          refine RW.nil ?_
          exact ⟨_, by first | rfl | (simp_all; done) | (simp_all; omega) | grind, rfl, Le.c rfl <| Le.c rfl <| Le.e⟩
        ·skip
         refine RW.guardF rfl rfl rfl rfl ?_
         refine RW.guardF rfl rfl rfl rfl ?_
         refine RW.guardF rfl rfl rfl rfl ?_
         refine RW.v rfl (V.pickT (d := Bo true) rfl rfl rfl) ?_
         refine RW.v rfl (V.mv (d := Bo true) rfl rfl) ?_
         refine RW.guardF rfl rfl rfl rfl ?_
         refine RW.guardF rfl rfl rfl rfl ?_
         refine RW.guardF rfl rfl rfl rfl ?_
         refine RW.guardF rfl rfl rfl rfl ?_
         refine RW.v rfl (V.pickT (d := Bo true) rfl rfl rfl) ?_
         refine RW.nil ?_
         exact ⟨_, by first | rfl | (simp_all; done) | (simp_all; omega) | grind, rfl, Le.c rfl <| Le.c rfl <| Le.e⟩
       ·skip
        refine RW.guardF rfl rfl rfl rfl ?_
        refine RW.guardF rfl rfl rfl rfl ?_
        refine RW.guardF rfl rfl rfl rfl ?_
        refine RW.v rfl (V.pickT (d := Bo true) rfl rfl rfl) ?_
        refine RW.v rfl (V.mv (d := Bo true) rfl rfl) ?_
        refine RW.guardF rfl rfl rfl rfl ?_
        refine RW.guardF rfl rfl rfl rfl ?_
        refine RW.guardF rfl rfl rfl rfl ?_
        refine RW.guardF rfl rfl rfl rfl ?_
        refine RW.v rfl (V.pickT (d := Bo true) rfl rfl rfl) ?_
        refine RW.v rfl (V.mv (d := Bo true) rfl rfl) ?_
        refine RW.guardF rfl rfl rfl rfl ?_
        refine RW.guardF rfl rfl rfl rfl ?_
        refine RW.guardF rfl rfl rfl rfl ?_
        refine RW.guardF rfl rfl rfl rfl ?_
        refine RW.v rfl (V.pickT (d := Bo true) rfl rfl rfl) ?_
        refine RW.nil ?_
        exact ⟨_, by first | rfl | (simp_all; done) | (simp_all; omega) | grind, rfl, Le.c rfl <| Le.c rfl <| Le.e⟩
      ·skip
       refine RW.guardF rfl rfl rfl rfl ?_
       refine RW.guardF rfl rfl rfl rfl ?_
       refine RW.guardF rfl rfl rfl rfl ?_
       refine RW.v rfl (V.pickT (d := Bo true) rfl rfl rfl) ?_
       refine RW.v rfl (V.mv (d := Bo true) rfl rfl) ?_
       refine RW.guardF rfl rfl rfl rfl ?_
       refine RW.guardF rfl rfl rfl rfl ?_
       refine RW.guardF rfl rfl rfl rfl ?_
       refine RW.guardF rfl rfl rfl rfl ?_
       refine RW.v rfl (V.pickT (d := Bo true) rfl rfl rfl) ?_
       refine RW.v rfl (V.mv (d := Bo true) rfl rfl) ?_
       refine RW.guardF rfl rfl rfl rfl ?_
       refine RW.guardF rfl rfl rfl rfl ?_
       refine RW.guardF rfl rfl rfl rfl ?_
       refine RW.guardF rfl rfl rfl rfl ?_
       refine RW.v rfl (V.pickT (d := Bo true) rfl rfl rfl) ?_
       refine RW.v rfl (V.mv (d := Bo true) rfl rfl) ?_
       refine RW.guardF rfl rfl rfl rfl ?_
       refine RW.guardF rfl rfl rfl rfl ?_
       refine RW.guardF rfl rfl rfl rfl ?_
       refine RW.guardF rfl rfl rfl rfl ?_
       refine RW.v rfl (V.pickT (d := Bo true) rfl rfl rfl) ?_
       refine RW.nil ?_
       exact ⟨_, by first | rfl | (simp_all; done) | (simp_all; omega) | grind, rfl, Le.c rfl <| Le.c rfl <| Le.e⟩
     ·skip
      refine RW.guardF rfl rfl rfl rfl ?_
      refine RW.guardF rfl rfl rfl rfl ?_
      refine RW.gt rfl rfl rfl rfl (V.pickF (d := Bo false) rfl rfl rfl) ?_
      refine RW.v rfl (V.pickF (d := Bo false) rfl rfl rfl) ?_
      refine RW.v rfl (V.mv (d := Bo false) rfl rfl) ?_
      refine RW.gt rfl rfl rfl rfl (V.field rfl rfl rfl rfl (by decide) rfl) ?_
      refine RW.gt rfl rfl rfl rfl (V.loadPrim (d := S x.in_) rfl rfl (.inl rfl) rfl rfl rfl) ?_
      refine RW.gt rfl rfl rfl rfl (V.lenStr rfl (by kernel_rfl) rfl) ?_
      refine RW.gt rfl rfl rfl rfl (V.cmpInt rfl rfl rfl rfl) ?_
      refine RW.v rfl (V.pickF (d := Bo (decide ((x.in_.size : Int) > 1000))) rfl rfl rfl) ?_
      refine RW.v rfl (V.mv (d := Bo (decide ((x.in_.size : Int) > 1000))) rfl rfl) ?_
      refine RW.gv rfl rfl rfl rfl (fun h33 => V.field rfl rfl rfl rfl (by decide) rfl) (fun h33 => ?_) (fun h33 => ?_)
      ·skip
       refine RW.gt rfl rfl rfl rfl (V.loadPrim (d := .r (sl 2 Late.c x.late)) rfl rfl (.inr ⟨_, rfl⟩) rfl rfl rfl) ?_
       refine RW.gt rfl rfl rfl rfl (V.lenT (n := x.late.length) rfl rfl rfl .r) ?_
       refine RW.gt rfl rfl rfl rfl (V.cmpInt rfl rfl rfl rfl) ?_
       refine RW.v rfl (V.pickF (d := Bo (decide ((x.late.length : Int) > 8))) rfl rfl rfl) ?_
       refine RW.v rfl (V.mv (d := Bo (decide ((x.late.length : Int) > 8))) rfl rfl) ?_
       refine RW.gv rfl rfl rfl rfl (fun h34 => V.field rfl rfl rfl rfl (by decide) rfl) (fun h34 => ?_) (fun h34 => ?_)
       ·skip
        refine RW.gt rfl rfl rfl rfl (V.loadPrim (d := I x.due) rfl rfl (.inl rfl) rfl rfl rfl) ?_
        refine RW.gcall rfl rfl rfl rfl (spec_l01In_fn x.due 0 1000000000) rfl (.cons (.one (.r .r)) (.cons (.one (.r .r)) (.cons (.one (.r .r)) (.nil)))) fun g35 => ?_
        refine RW.gt rfl rfl rfl rfl (V.not rfl rfl) ?_
        refine RW.v rfl (V.pickF (d := Bo (!(inR x.due 0 1000000000))) rfl rfl rfl) ?_
        refine RW.v rfl (V.mv (d := Bo (!(inR x.due 0 1000000000))) rfl rfl) ?_
        refine RW.gv rfl rfl rfl rfl (fun h36 => V.field rfl rfl rfl rfl (by decide) rfl) (fun h36 => ?_) (fun h36 => ?_)
        ·skip
         refine RW.gt rfl rfl rfl rfl (V.loadPrim (d := I x.times) rfl rfl (.inl rfl) rfl rfl rfl) ?_
         refine RW.gcall rfl rfl rfl rfl (spec_l01In_fn x.times 0 12) rfl (.cons (.one (.r .r)) (.cons (.one (.r .r)) (.cons (.one (.r .r)) (.nil)))) fun g37 => ?_
         refine RW.gt rfl rfl rfl rfl (V.not rfl rfl) ?_
         refine RW.v rfl (V.pickF (d := Bo (!(inR x.times 0 12))) rfl rfl rfl) ?_
         refine RW.nil ?_
         exact ⟨_, by first | rfl | (simp_all; done) | (simp_all; omega) | grind, rfl, Le.c rfl <| Le.c rfl <| Le.e⟩
        ·skip
         refine RW.guardF rfl rfl rfl rfl ?_
         refine RW.guardF rfl rfl rfl rfl ?_
         refine RW.guardF rfl rfl rfl rfl ?_
         refine RW.v rfl (V.pickT (d := Bo true) rfl rfl rfl) ?_
         refine RW.nil ?_
         exact ⟨_, by first | rfl | (simp_all; done) | (simp_all; omega) | grind, rfl, Le.c rfl <| Le.c rfl <| Le.e⟩
       ·skip
        refine RW.guardF rfl rfl rfl rfl ?_
        refine RW.guardF rfl rfl rfl rfl ?_
        refine RW.guardF rfl rfl rfl rfl ?_
        refine RW.v rfl (V.pickT (d := Bo true) rfl rfl rfl) ?_
        refine RW.v rfl (V.mv (d := Bo true) rfl rfl) ?_
        refine RW.guardF rfl rfl rfl rfl ?_
        refine RW.guardF rfl rfl rfl rfl ?_
        refine RW.guardF rfl rfl rfl rfl ?_
        refine RW.guardF rfl rfl rfl rfl ?_
        refine RW.v rfl (V.pickT (d := Bo true) rfl rfl rfl) ?_
        refine RW.nil ?_
        exact ⟨_, by first | rfl | (simp_all; done) | (simp_all; omega) | grind, rfl, Le.c rfl <| Le.c rfl <| Le.e⟩
      ·skip
       refine RW.guardF rfl rfl rfl rfl ?_
       refine RW.guardF rfl rfl rfl rfl ?_
       refine RW.guardF rfl rfl rfl rfl ?_
       refine RW.v rfl (V.pickT (d := Bo true) rfl rfl rfl) ?_
       refine RW.v rfl (V.mv (d := Bo true) rfl rfl) ?_
       refine RW.guardF rfl rfl rfl rfl ?_
       refine RW.guardF rfl rfl rfl rfl ?_
       refine RW.guardF rfl rfl rfl rfl ?_
       refine RW.guardF rfl rfl rfl rfl ?_
       refine RW.v rfl (V.pickT (d := Bo true) rfl rfl rfl) ?_
       refine RW.v rfl (V.mv (d := Bo true) rfl rfl) ?_
       refine RW.guardF rfl rfl rfl rfl ?_
       refine RW.guardF rfl rfl rfl rfl ?_
       refine RW.guardF rfl rfl rfl rfl ?_
       refine RW.guardF rfl rfl rfl rfl ?_
       refine RW.v rfl (V.pickT (d := Bo true) rfl rfl rfl) ?_
       refine RW.nil ?_
       exact ⟨_, by first | rfl | (simp_all; done) | (simp_all; omega) | grind, rfl, Le.c rfl <| Le.c rfl <| Le.e⟩
   ·intro v11 hv38
    refine CW.cond rfl (fun h39 => ?_) (fun h39 => ?_)
    ·skip
     refine CW.seq ?_
     refine CW.region ?_
     refine RW.v rfl (V.as (d := Bo false) rfl rfl) ?_
     refine RW.nil ?_
     refine CW.le [(2, Bo false)] rfl (Le.of rfl) ?_
     refine CW.ret ?_
     exact Post.one (RV.b rfl (by unfold streamOk emp isWord; first | (simp_all; done) | grind)) (AOs.a rfl AOs.e)
    ·skip
     refine CW.skip ?_
     refine CW.le [(1, .obj b1 ((Stream.c x).map .r))] rfl (Le.of rfl) ?_
     refine CW.seq ?_
     refine CW.seq ?_
     refine CW.region ?_
     refine RW.v rfl (V.as (d := I 0) rfl rfl) ?_
     refine RW.nil ?_
     refine CW.le [(1, .obj b1 ((Stream.c x).map .r)), (3, I 0)] rfl (Le.of rfl) ?_
     refine CW.block ?_
     refine CW.loopI 119 (fun (i : Nat) => [(1, .obj b1 ((Stream.c x).map .r)), (3, I (i : Int))]) (fun (i : Nat) => i ≤ x.late.length ∧ (x.late.take i).all lateOk = true) (fun (i : Nat) => x.late.length - i) 0 rfl (Le.c rfl <| Le.c rfl <| Le.e) ⟨by omega, by simp⟩ ?_
     rintro i ⟨hb, hr⟩
     refine CW.seq ?_
     refine CW.seq ?_
     refine CW.region ?_
     refine RW.v rfl (V.mv (d := I (i : Int)) rfl rfl) ?_
     refine RW.v rfl (V.field rfl rfl rfl rfl (by decide) rfl) ?_
     refine RW.v rfl (V.loadPrim (d := .r (sl 2 Late.c x.late)) rfl rfl (.inr ⟨_, rfl⟩) rfl rfl rfl) ?_
     refine RW.v rfl (V.lenT (n := x.late.length) rfl rfl rfl .r) ?_
     refine RW.v rfl (V.cmpInt rfl rfl rfl rfl) ?_
     refine RW.nil ?_
     refine CW.le [(1, .obj b1 ((Stream.c x).map .r)), (3, I (i : Int)), (97, Bo (decide ((i : Int) < (x.late.length : Int))))] rfl (Le.of rfl) ?_
     refine CW.cond rfl (fun h40 => ?_) (fun h40 => ?_)
     ·skip
      have hii : i < x.late.length := by have := h40; simp at this; first | exact this | omega | (simp; done) | (simp; omega)
      obtain ⟨ei, hei⟩ : ∃ e, x.late[i]? = some e := ⟨_, List.getElem?_eq_getElem hii⟩
      have hdi := drop_get hei
      refine CW.skip ?_
      refine CW.le [(1, .obj b1 ((Stream.c x).map .r)), (3, I (i : Int))] rfl (Le.of rfl) ?_
      refine CW.seq ?_
      refine CW.block ?_
      refine CW.seqJ 119 (fun (v41 : Bool) => [(1, .obj b1 ((Stream.c x).map .r)), (3, I (i : Int)), (118, Bo v41)]) (fun v41 => v41 = ((!(inR ei.num 0 65535)) || (!(inR (ei.text.size : Int) 1 8)))) ?_ ?_
      ·refine CW.region ?_
       refine RW.v rfl (V.field rfl rfl rfl rfl (by decide) rfl) ?_
       refine RW.v rfl (V.loadPrim (d := .r (sl 2 Late.c x.late)) rfl rfl (.inr ⟨_, rfl⟩) rfl rfl rfl) ?_
       refine RW.v rfl (V.mv (d := I (i : Int)) rfl rfl) ?_
       refine RW.v rfl (V.indexS rfl rfl rfl rfl rfl rfl Late.len hei) ?_
       refine RW.v rfl (V.fieldR rfl rfl rfl rfl (by decide) rfl (Nat.le_of_ble_eq_true rfl)) ?_
       refine RW.v rfl (V.loadPrimR (t0 := .v (.int .i64 ei.num)) rfl rfl (.inl rfl) rfl rfl) ?_
       refine RW.call rfl (spec_l01In_fn ei.num 0 65535) rfl (.cons (.one (.r .r)) (.cons (.one (.r .r)) (.cons (.one (.r .r)) (.nil)))) fun g42 => ?_
       refine RW.v rfl (V.not rfl rfl) ?_
       refine RW.v rfl (V.mv (d := Bo (!(inR ei.num 0 65535))) rfl rfl) ?_
       refine RW.gv rfl rfl rfl rfl (fun h43 => V.field rfl rfl rfl rfl (by decide) rfl) (fun h43 => ?_) (fun h43 => ?_)
       ·skip
        refine RW.gt rfl rfl rfl rfl (V.loadPrim (d := .r (sl 2 Late.c x.late)) rfl rfl (.inr ⟨_, rfl⟩) rfl rfl rfl) ?_
        refine RW.gt rfl rfl rfl rfl (V.mv (d := I (i : Int)) rfl rfl) ?_
        refine RW.gt rfl rfl rfl rfl (V.indexS rfl rfl rfl rfl rfl rfl Late.len hei) ?_
        refine RW.gt rfl rfl rfl rfl (V.fieldR rfl rfl rfl rfl (by decide) rfl (Nat.le_of_ble_eq_true rfl)) ?_
        refine RW.gt rfl rfl rfl rfl (V.loadPrimR (t0 := .v (.string ei.text)) rfl rfl (.inl rfl) rfl rfl) ?_
        refine RW.gt rfl rfl rfl rfl (V.lenStr rfl (by kernel_rfl) rfl) ?_
        refine RW.gcall rfl rfl rfl rfl (spec_l01In_fn (ei.text.size : Int) 1 8) rfl (.cons (.one (.r .r)) (.cons (.one (.r .r)) (.cons (.one (.r .r)) (.nil)))) fun g44 => ?_
        refine RW.gt rfl rfl rfl rfl (V.not rfl rfl) ?_
        refine RW.v rfl (V.pickF (d := Bo (!(inR (ei.text.size : Int) 1 8))) rfl rfl rfl) ?_
        refine RW.nil ?_
        exact ⟨_, by first | rfl | (simp_all; done) | (simp_all; omega) | grind, rfl, Le.c rfl <| Le.c rfl <| Le.c rfl <| Le.e⟩
       ·skip
        refine RW.guardF rfl rfl rfl rfl ?_
        refine RW.guardF rfl rfl rfl rfl ?_
        refine RW.guardF rfl rfl rfl rfl ?_
        refine RW.guardF rfl rfl rfl rfl ?_
        refine RW.guardF rfl rfl rfl rfl ?_
        refine RW.guardF rfl rfl rfl rfl ?_
        refine RW.guardF rfl rfl rfl rfl ?_
        refine RW.guardF rfl rfl rfl rfl ?_
        refine RW.v rfl (V.pickT (d := Bo true) rfl rfl rfl) ?_
        refine RW.nil ?_
        exact ⟨_, by first | rfl | (simp_all; done) | (simp_all; omega) | grind, rfl, Le.c rfl <| Le.c rfl <| Le.c rfl <| Le.e⟩
      ·intro v41 hv45
       refine CW.cond rfl (fun h46 => ?_) (fun h46 => ?_)
       ·skip
        refine CW.seq ?_
        refine CW.region ?_
        refine RW.v rfl (V.as (d := Bo false) rfl rfl) ?_
        refine RW.nil ?_
        refine CW.le [(2, Bo false)] rfl (Le.of rfl) ?_
        refine CW.ret ?_
        exact Post.one (RV.b rfl (by have := all_not (p := lateOk) hei (by first | (simp_all [lateOk, isWord]; done) | grind [lateOk, isWord]); simp [streamOk, this])) (AOs.a rfl AOs.e)
       ·skip
        refine CW.skip ?_
        refine CW.le [(1, .obj b1 ((Stream.c x).map .r)), (3, I (i : Int))] rfl (Le.of rfl) ?_
        refine CW.region ?_
        refine RW.v rfl (V.mv (d := I (i : Int)) rfl rfl) ?_
        refine RW.v rfl (V.inc rfl rfl rfl hii hl0) ?_
        refine RW.v rfl (V.as (d := I ((i + 1 : Nat) : Int)) rfl rfl) ?_
        refine RW.nil ?_
        exact ⟨i + 1, by omega, ⟨by omega, all_snoc hr hei (by first | (simp_all [lateOk, isWord]; done) | grind [lateOk, isWord])⟩, rfl, Le.c rfl <| Le.c rfl <| Le.e⟩
     ·skip
      have hii : x.late.length ≤ i := by have := h40; simp at this; first | exact this | omega | (simp; done) | (simp; omega)
      have hdi : x.late.drop i = [] := List.drop_eq_nil_of_le hii
      refine CW.exit ?_
      refine CW.le [] rfl (Le.of rfl) ?_
      refine CW.seq ?_
      refine CW.region ?_
      refine RW.v rfl (V.as (d := Bo true) rfl rfl) ?_
      refine RW.nil ?_
      refine CW.le [(2, Bo true)] rfl (Le.of rfl) ?_
      refine CW.ret ?_
      exact Post.one (RV.b rfl (by have ht : x.late.all lateOk = true := (by rw [← List.take_of_length_le hii]; exact hr); clear hr hdi; unfold streamOk emp isWord; rw [ht]; first | (simp_all; done) | grind)) (AOs.a rfl AOs.e)
set_option maxHeartbeats 4000000 in
theorem spec_l13Ack_fn (x : Stream) (a : Int) (hx : sentOk x) : Eng.Fn E.P 74 [.ob ((Stream.c x).map .w), .one (.r (.v (.int .i64 a)))] (.tup []) [.ob ((Stream.c (ackedN x a)).map .w), .one (.r (.v (.int .i64 a)))] := by
 refine Eng.Fn.intro (E := E) (rvs := []) Try.func74 rfl rfl rfl (by simp [outSlots, moved, rvSlot, sl]) ?_
 intro B g bo
 refine CW.le [(0, .obj (bo 0) [I x.state, I x.iss, I x.una, I x.rcv, S x.wait, I x.sent, I x.fin, Bo x.peerFin, S x.in_, .w (sl 2 Late.c x.late) (g 0 9), Bo x.owe, I x.due, I x.times]), (1, I a)] rfl (Le.of rfl) ?_
 have hw := hx.w
 have hf1 : (x.fin == 2) = true → flagN (x.fin == 2) = 1 := by intro h; simp [flagN, h]
 have hf0 : (x.fin == 2) = false → flagN (x.fin == 2) = 0 := by intro h; simp [flagN, h]
 refine CW.seq ?_
 refine CW.region ?_
 refine RW.v rfl (V.mv (d := .pt 0 (bo 0) 0) rfl rfl) ?_
 refine RW.v rfl (V.nilP rfl rfl) ?_
 refine RW.v rfl (V.field rfl rfl rfl rfl (by decide) rfl) ?_
 refine RW.v rfl (V.loadPrim (d := I x.una) rfl rfl (.inl rfl) rfl rfl rfl) ?_
 refine RW.v rfl (V.mv (d := I a) rfl rfl) ?_
 refine RW.call rfl (spec_Gap_fn x.una a) rfl (.cons (.one (.r .r)) (.cons (.one (.r .r)) (.nil))) fun g1 => ?_
 refine RW.v rfl (V.as (d := I (gap x.una a)) rfl rfl) ?_
 refine RW.nil ?_
 refine CW.le [(0, .obj (bo 0) [I x.state, I x.iss, I x.una, I x.rcv, S x.wait, I x.sent, I x.fin, Bo x.peerFin, S x.in_, .w (sl 2 Late.c x.late) (g 0 9), Bo x.owe, I x.due, I x.times]), (1, I a), (4, I (gap x.una a))] rfl (Le.of rfl) ?_
 refine CW.seq ?_
 refine CW.region ?_
 refine RW.v rfl (V.mv (d := .pt 0 (bo 0) 0) rfl rfl) ?_
 refine RW.v rfl (V.nilP rfl rfl) ?_
 refine RW.v rfl (V.field rfl rfl rfl rfl (by decide) rfl) ?_
 refine RW.v rfl (V.loadPrim (d := I x.sent) rfl rfl (.inl rfl) rfl rfl rfl) ?_
 refine RW.v rfl (V.as (d := I x.sent) rfl rfl) ?_
 refine RW.nil ?_
 refine CW.le [(0, .obj (bo 0) [I x.state, I x.iss, I x.una, I x.rcv, S x.wait, I x.sent, I x.fin, Bo x.peerFin, S x.in_, .w (sl 2 Late.c x.late) (g 0 9), Bo x.owe, I x.due, I x.times]), (1, I a), (4, I (gap x.una a)), (5, I x.sent)] rfl (Le.of rfl) ?_
 refine CW.seq ?_
 refine CW.seq ?_
 refine CW.region ?_
 refine RW.v rfl (V.mv (d := .pt 0 (bo 0) 0) rfl rfl) ?_
 refine RW.v rfl (V.nilP rfl rfl) ?_
 refine RW.v rfl (V.field rfl rfl rfl rfl (by decide) rfl) ?_
 refine RW.v rfl (V.loadPrim (d := I x.fin) rfl rfl (.inl rfl) rfl rfl rfl) ?_
 refine RW.v rfl (V.cmpInt rfl rfl rfl rfl) ?_
 refine RW.nil ?_
 refine CW.le [(0, .obj (bo 0) [I x.state, I x.iss, I x.una, I x.rcv, S x.wait, I x.sent, I x.fin, Bo x.peerFin, S x.in_, .w (sl 2 Late.c x.late) (g 0 9), Bo x.owe, I x.due, I x.times]), (1, I a), (4, I (gap x.una a)), (5, I x.sent), (21, Bo (x.fin == 2))] rfl (Le.of rfl) ?_
 refine CW.cond rfl (fun h2 => ?_) (fun h2 => ?_)
 ·skip
  refine CW.region ?_
  refine RW.v rfl (V.mv (d := I x.sent) rfl rfl) ?_
  refine RW.v rfl (V.arInt rfl rfl rfl rfl) ?_
  refine RW.v rfl (V.as (d := I (IntKind.i64.wrap (x.sent + 1))) rfl rfl) ?_
  refine RW.nil ?_
  refine CW.le [(0, .obj (bo 0) [I x.state, I x.iss, I x.una, I x.rcv, S x.wait, I x.sent, I x.fin, Bo x.peerFin, S x.in_, .w (sl 2 Late.c x.late) (g 0 9), Bo x.owe, I x.due, I x.times]), (1, I a), (4, I (gap x.una a)), (5, I (IntKind.i64.wrap (x.sent + 1)))] rfl (Le.of rfl) ?_
  refine CW.seq ?_
  refine CW.seqJ 71 (fun (v3 : Bool) => [(0, .obj (bo 0) [I x.state, I x.iss, I x.una, I x.rcv, S x.wait, I x.sent, I x.fin, Bo x.peerFin, S x.in_, .w (sl 2 Late.c x.late) (g 0 9), Bo x.owe, I x.due, I x.times]), (1, I a), (4, I (gap x.una a)), (30, Bo v3)]) (fun v3 => v3 = (decide ((gap x.una a) < 1) || decide ((gap x.una a) > (IntKind.i64.wrap (x.sent + 1))))) ?_ ?_
  ·refine CW.region ?_
   refine RW.v rfl (V.mv (d := I (gap x.una a)) rfl rfl) ?_
   refine RW.v rfl (V.cmpInt rfl rfl rfl rfl) ?_
   refine RW.v rfl (V.mv (d := Bo (decide ((gap x.una a) < 1))) rfl rfl) ?_
   refine RW.gv rfl rfl rfl rfl (fun h4 => V.mv (d := I (gap x.una a)) rfl rfl) (fun h4 => ?_) (fun h4 => ?_)
   ·skip
    refine RW.gt rfl rfl rfl rfl (V.mv (d := I (IntKind.i64.wrap (x.sent + 1))) rfl rfl) ?_
    refine RW.gt rfl rfl rfl rfl (V.cmpInt rfl rfl rfl rfl) ?_
    refine RW.v rfl (V.pickF (d := Bo (decide ((gap x.una a) > (IntKind.i64.wrap (x.sent + 1))))) rfl rfl rfl) ?_
    refine RW.nil ?_
    exact ⟨_, by first | rfl | (simp_all; done) | (simp_all; omega) | grind, rfl, Le.c rfl <| Le.c rfl <| Le.c rfl <| Le.c rfl <| Le.e⟩
   ·skip
    refine RW.guardF rfl rfl rfl rfl ?_
    refine RW.guardF rfl rfl rfl rfl ?_
    refine RW.v rfl (V.pickT (d := Bo true) rfl rfl rfl) ?_
    refine RW.nil ?_
    exact ⟨_, by first | rfl | (simp_all; done) | (simp_all; omega) | grind, rfl, Le.c rfl <| Le.c rfl <| Le.c rfl <| Le.c rfl <| Le.e⟩
  ·intro v3 hv5
   refine CW.cond rfl (fun h6 => ?_) (fun h6 => ?_)
   ·skip
    refine CW.ret ?_
    exact Post.tup (by decide) RVs.e (AOs.obE (f := fun e => (Stream.c e).map .w) (e' := x) rfl (DT.v (DT.v (DT.v (DT.v (DT.v (DT.v (DT.v (DT.v (DT.v (DT.w (DT.v (DT.v (DT.v DT.e))))))))))))) (by unfold ackedN inR; (first | rw [hf1 h2, hw.2] | rw [hf0 h2, hw.1]); first | (simp_all; done) | grind) (AOs.r AOs.e))
   ·skip
    refine CW.skip ?_
    refine CW.le [(0, .obj (bo 0) [I x.state, I x.iss, I x.una, I x.rcv, S x.wait, I x.sent, I x.fin, Bo x.peerFin, S x.in_, .w (sl 2 Late.c x.late) (g 0 9), Bo x.owe, I x.due, I x.times]), (1, I a), (4, I (gap x.una a))] rfl (Le.of rfl) ?_
    refine CW.seq ?_
    refine CW.region ?_
    refine RW.v rfl (V.mv (d := I (gap x.una a)) rfl rfl) ?_
    refine RW.v rfl (V.mv (d := .pt 0 (bo 0) 0) rfl rfl) ?_
    refine RW.v rfl (V.nilP rfl rfl) ?_
    refine RW.v rfl (V.field rfl rfl rfl rfl (by decide) rfl) ?_
    refine RW.v rfl (V.loadPrim (d := I x.sent) rfl rfl (.inl rfl) rfl rfl rfl) ?_
    refine RW.call rfl (spec_l13Less_fn (gap x.una a) x.sent) rfl (.cons (.one (.r .r)) (.cons (.one (.r .r)) (.nil))) fun g7 => ?_
    refine RW.v rfl (V.as (d := I (mnI (gap x.una a) x.sent)) rfl rfl) ?_
    refine RW.nil ?_
    refine CW.le [(0, .obj (bo 0) [I x.state, I x.iss, I x.una, I x.rcv, S x.wait, I x.sent, I x.fin, Bo x.peerFin, S x.in_, .w (sl 2 Late.c x.late) (g 0 9), Bo x.owe, I x.due, I x.times]), (1, I a), (4, I (gap x.una a)), (6, I (mnI (gap x.una a) x.sent))] rfl (Le.of rfl) ?_
    refine CW.seq ?_
    refine CW.seq ?_
    refine CW.region ?_
    refine RW.v rfl (V.mv (d := I (gap x.una a)) rfl rfl) ?_
    refine RW.v rfl (V.mv (d := .pt 0 (bo 0) 0) rfl rfl) ?_
    refine RW.v rfl (V.nilP rfl rfl) ?_
    refine RW.v rfl (V.field rfl rfl rfl rfl (by decide) rfl) ?_
    refine RW.v rfl (V.loadPrim (d := I x.sent) rfl rfl (.inl rfl) rfl rfl rfl) ?_
    refine RW.v rfl (V.cmpInt rfl rfl rfl rfl) ?_
    refine RW.nil ?_
    refine CW.le [(0, .obj (bo 0) [I x.state, I x.iss, I x.una, I x.rcv, S x.wait, I x.sent, I x.fin, Bo x.peerFin, S x.in_, .w (sl 2 Late.c x.late) (g 0 9), Bo x.owe, I x.due, I x.times]), (1, I a), (6, I (mnI (gap x.una a) x.sent)), (42, Bo (decide ((gap x.una a) > x.sent)))] rfl (Le.of rfl) ?_
    refine CW.cond rfl (fun h8 => ?_) (fun h8 => ?_)
    ·skip
     refine CW.region ?_
     refine RW.v rfl (V.mv (d := .pt 0 (bo 0) 0) rfl rfl) ?_
     refine RW.v rfl (V.nilP rfl rfl) ?_
     refine RW.v rfl (V.field rfl rfl rfl rfl (by decide) rfl) ?_
     refine RW.store (d := I 3) rfl rfl rfl rfl rfl rfl rfl (Nat.le_of_ble_eq_true rfl) rfl rfl ?_
     refine RW.nil ?_
     refine CW.le [(0, .obj (bo 0) [I x.state, I x.iss, I x.una, I x.rcv, S x.wait, I x.sent, I 3, Bo x.peerFin, S x.in_, .w (sl 2 Late.c x.late) (g 0 9), Bo x.owe, I x.due, I x.times]), (1, I a), (6, I (mnI (gap x.una a) x.sent))] rfl (Le.of rfl) ?_
     refine CW.seq ?_
     refine CW.region ?_
     refine RW.v rfl (V.mv (d := .pt 0 (bo 0) 0) rfl rfl) ?_
     refine RW.v rfl (V.mv (d := .pt 0 (bo 0) 0) rfl rfl) ?_
     refine RW.v rfl (V.nilP rfl rfl) ?_
     refine RW.v rfl (V.field rfl rfl rfl rfl (by decide) rfl) ?_
     refine RW.v rfl (V.loadPrim (d := S x.wait) rfl rfl (.inl rfl) rfl rfl rfl) ?_
     refine RW.v rfl (V.mv (d := I (mnI (gap x.una a) x.sent)) rfl rfl) ?_
     refine RW.v rfl (V.strSlice (l := (mnI (gap x.una a) x.sent)) (h := (x.wait.size : Int)) rfl (by kernel_rfl) rfl (.inr ⟨_, _, rfl, rfl⟩) (.inl ⟨rfl, rfl⟩) (ack_slice (m := 9223372036854775807) hx (by unfold inR; have h9 := gap_in x.una a; first | (simp_all; omega) | grind))) ?_
     refine RW.v rfl (V.nilP rfl rfl) ?_
     refine RW.v rfl (V.field rfl rfl rfl rfl (by decide) rfl) ?_
     refine RW.store (d := S (x.wait.extract (mnI (gap x.una a) x.sent).toNat (x.wait.size : Int).toNat)) rfl rfl rfl rfl rfl rfl rfl (Nat.le_of_ble_eq_true rfl) rfl rfl ?_
     refine RW.nil ?_
     refine CW.le [(0, .obj (bo 0) [I x.state, I x.iss, I x.una, I x.rcv, S (x.wait.extract (mnI (gap x.una a) x.sent).toNat (x.wait.size : Int).toNat), I x.sent, I 3, Bo x.peerFin, S x.in_, .w (sl 2 Late.c x.late) (g 0 9), Bo x.owe, I x.due, I x.times]), (1, I a), (6, I (mnI (gap x.una a) x.sent))] rfl (Le.of rfl) ?_
     refine CW.seq ?_
     refine CW.region ?_
     refine RW.v rfl (V.mv (d := .pt 0 (bo 0) 0) rfl rfl) ?_
     refine RW.v rfl (V.mv (d := .pt 0 (bo 0) 0) rfl rfl) ?_
     refine RW.v rfl (V.nilP rfl rfl) ?_
     refine RW.v rfl (V.field rfl rfl rfl rfl (by decide) rfl) ?_
     refine RW.v rfl (V.loadPrim (d := I x.sent) rfl rfl (.inl rfl) rfl rfl rfl) ?_
     refine RW.v rfl (V.mv (d := I (mnI (gap x.una a) x.sent)) rfl rfl) ?_
     refine RW.v rfl (V.arInt rfl rfl rfl rfl) ?_
     refine RW.v rfl (V.nilP rfl rfl) ?_
     refine RW.v rfl (V.field rfl rfl rfl rfl (by decide) rfl) ?_
     refine RW.store (d := I (IntKind.i64.wrap (x.sent - (mnI (gap x.una a) x.sent)))) rfl rfl rfl rfl rfl rfl rfl (Nat.le_of_ble_eq_true rfl) rfl rfl ?_
     refine RW.nil ?_
     refine CW.le [(0, .obj (bo 0) [I x.state, I x.iss, I x.una, I x.rcv, S (x.wait.extract (mnI (gap x.una a) x.sent).toNat (x.wait.size : Int).toNat), I (IntKind.i64.wrap (x.sent - (mnI (gap x.una a) x.sent))), I 3, Bo x.peerFin, S x.in_, .w (sl 2 Late.c x.late) (g 0 9), Bo x.owe, I x.due, I x.times]), (1, I a)] rfl (Le.of rfl) ?_
     refine CW.seq ?_
     refine CW.region ?_
     refine RW.v rfl (V.mv (d := .pt 0 (bo 0) 0) rfl rfl) ?_
     refine RW.v rfl (V.mv (d := I a) rfl rfl) ?_
     refine RW.v rfl (V.nilP rfl rfl) ?_
     refine RW.v rfl (V.field rfl rfl rfl rfl (by decide) rfl) ?_
     refine RW.store (d := I a) rfl rfl rfl rfl rfl rfl rfl (Nat.le_of_ble_eq_true rfl) rfl rfl ?_
     refine RW.nil ?_
     refine CW.le [(0, .obj (bo 0) [I x.state, I x.iss, I a, I x.rcv, S (x.wait.extract (mnI (gap x.una a) x.sent).toNat (x.wait.size : Int).toNat), I (IntKind.i64.wrap (x.sent - (mnI (gap x.una a) x.sent))), I 3, Bo x.peerFin, S x.in_, .w (sl 2 Late.c x.late) (g 0 9), Bo x.owe, I x.due, I x.times])] rfl (Le.of rfl) ?_
     refine CW.region ?_
     refine RW.v rfl (V.mv (d := .pt 0 (bo 0) 0) rfl rfl) ?_
     refine RW.v rfl (V.nilP rfl rfl) ?_
     refine RW.v rfl (V.field rfl rfl rfl rfl (by decide) rfl) ?_
     refine RW.store (d := I 0) rfl rfl rfl rfl rfl rfl rfl (Nat.le_of_ble_eq_true rfl) rfl rfl ?_
     refine RW.nil ?_
     exact Post.tup (by decide) RVs.e (AOs.obE (f := fun e => (Stream.c e).map .w) (e' := (⟨x.state, x.iss, a, x.rcv, (x.wait.extract (mnI (gap x.una a) x.sent).toNat (x.wait.size : Int).toNat), (IntKind.i64.wrap (x.sent - (mnI (gap x.una a) x.sent))), 3, x.peerFin, x.in_, x.late, x.owe, x.due, 0⟩ : Stream)) rfl (DT.v (DT.v (DT.v (DT.v (DT.v (DT.v (DT.v (DT.v (DT.v (DT.w (DT.v (DT.v (DT.v DT.e))))))))))))) (by unfold ackedN inR; (first | rw [hf1 h2, hw.2] | rw [hf0 h2, hw.1]); first | (simp_all; done) | grind) (AOs.r AOs.e))
    ·skip
     refine CW.skip ?_
     refine CW.le [(0, .obj (bo 0) [I x.state, I x.iss, I x.una, I x.rcv, S x.wait, I x.sent, I x.fin, Bo x.peerFin, S x.in_, .w (sl 2 Late.c x.late) (g 0 9), Bo x.owe, I x.due, I x.times]), (1, I a), (6, I (mnI (gap x.una a) x.sent))] rfl (Le.of rfl) ?_
     refine CW.seq ?_
     refine CW.region ?_
     refine RW.v rfl (V.mv (d := .pt 0 (bo 0) 0) rfl rfl) ?_
     refine RW.v rfl (V.mv (d := .pt 0 (bo 0) 0) rfl rfl) ?_
     refine RW.v rfl (V.nilP rfl rfl) ?_
     refine RW.v rfl (V.field rfl rfl rfl rfl (by decide) rfl) ?_
     refine RW.v rfl (V.loadPrim (d := S x.wait) rfl rfl (.inl rfl) rfl rfl rfl) ?_
     refine RW.v rfl (V.mv (d := I (mnI (gap x.una a) x.sent)) rfl rfl) ?_
     refine RW.v rfl (V.strSlice (l := (mnI (gap x.una a) x.sent)) (h := (x.wait.size : Int)) rfl (by kernel_rfl) rfl (.inr ⟨_, _, rfl, rfl⟩) (.inl ⟨rfl, rfl⟩) (ack_slice (m := 9223372036854775807) hx (by unfold inR; have h9 := gap_in x.una a; first | (simp_all; omega) | grind))) ?_
     refine RW.v rfl (V.nilP rfl rfl) ?_
     refine RW.v rfl (V.field rfl rfl rfl rfl (by decide) rfl) ?_
     refine RW.store (d := S (x.wait.extract (mnI (gap x.una a) x.sent).toNat (x.wait.size : Int).toNat)) rfl rfl rfl rfl rfl rfl rfl (Nat.le_of_ble_eq_true rfl) rfl rfl ?_
     refine RW.nil ?_
     refine CW.le [(0, .obj (bo 0) [I x.state, I x.iss, I x.una, I x.rcv, S (x.wait.extract (mnI (gap x.una a) x.sent).toNat (x.wait.size : Int).toNat), I x.sent, I x.fin, Bo x.peerFin, S x.in_, .w (sl 2 Late.c x.late) (g 0 9), Bo x.owe, I x.due, I x.times]), (1, I a), (6, I (mnI (gap x.una a) x.sent))] rfl (Le.of rfl) ?_
     refine CW.seq ?_
     refine CW.region ?_
     refine RW.v rfl (V.mv (d := .pt 0 (bo 0) 0) rfl rfl) ?_
     refine RW.v rfl (V.mv (d := .pt 0 (bo 0) 0) rfl rfl) ?_
     refine RW.v rfl (V.nilP rfl rfl) ?_
     refine RW.v rfl (V.field rfl rfl rfl rfl (by decide) rfl) ?_
     refine RW.v rfl (V.loadPrim (d := I x.sent) rfl rfl (.inl rfl) rfl rfl rfl) ?_
     refine RW.v rfl (V.mv (d := I (mnI (gap x.una a) x.sent)) rfl rfl) ?_
     refine RW.v rfl (V.arInt rfl rfl rfl rfl) ?_
     refine RW.v rfl (V.nilP rfl rfl) ?_
     refine RW.v rfl (V.field rfl rfl rfl rfl (by decide) rfl) ?_
     refine RW.store (d := I (IntKind.i64.wrap (x.sent - (mnI (gap x.una a) x.sent)))) rfl rfl rfl rfl rfl rfl rfl (Nat.le_of_ble_eq_true rfl) rfl rfl ?_
     refine RW.nil ?_
     refine CW.le [(0, .obj (bo 0) [I x.state, I x.iss, I x.una, I x.rcv, S (x.wait.extract (mnI (gap x.una a) x.sent).toNat (x.wait.size : Int).toNat), I (IntKind.i64.wrap (x.sent - (mnI (gap x.una a) x.sent))), I x.fin, Bo x.peerFin, S x.in_, .w (sl 2 Late.c x.late) (g 0 9), Bo x.owe, I x.due, I x.times]), (1, I a)] rfl (Le.of rfl) ?_
     refine CW.seq ?_
     refine CW.region ?_
     refine RW.v rfl (V.mv (d := .pt 0 (bo 0) 0) rfl rfl) ?_
     refine RW.v rfl (V.mv (d := I a) rfl rfl) ?_
     refine RW.v rfl (V.nilP rfl rfl) ?_
     refine RW.v rfl (V.field rfl rfl rfl rfl (by decide) rfl) ?_
     refine RW.store (d := I a) rfl rfl rfl rfl rfl rfl rfl (Nat.le_of_ble_eq_true rfl) rfl rfl ?_
     refine RW.nil ?_
     refine CW.le [(0, .obj (bo 0) [I x.state, I x.iss, I a, I x.rcv, S (x.wait.extract (mnI (gap x.una a) x.sent).toNat (x.wait.size : Int).toNat), I (IntKind.i64.wrap (x.sent - (mnI (gap x.una a) x.sent))), I x.fin, Bo x.peerFin, S x.in_, .w (sl 2 Late.c x.late) (g 0 9), Bo x.owe, I x.due, I x.times])] rfl (Le.of rfl) ?_
     refine CW.region ?_
     refine RW.v rfl (V.mv (d := .pt 0 (bo 0) 0) rfl rfl) ?_
     refine RW.v rfl (V.nilP rfl rfl) ?_
     refine RW.v rfl (V.field rfl rfl rfl rfl (by decide) rfl) ?_
     refine RW.store (d := I 0) rfl rfl rfl rfl rfl rfl rfl (Nat.le_of_ble_eq_true rfl) rfl rfl ?_
     refine RW.nil ?_
     exact Post.tup (by decide) RVs.e (AOs.obE (f := fun e => (Stream.c e).map .w) (e' := (⟨x.state, x.iss, a, x.rcv, (x.wait.extract (mnI (gap x.una a) x.sent).toNat (x.wait.size : Int).toNat), (IntKind.i64.wrap (x.sent - (mnI (gap x.una a) x.sent))), x.fin, x.peerFin, x.in_, x.late, x.owe, x.due, 0⟩ : Stream)) rfl (DT.v (DT.v (DT.v (DT.v (DT.v (DT.v (DT.v (DT.v (DT.v (DT.w (DT.v (DT.v (DT.v DT.e))))))))))))) (by unfold ackedN inR; (first | rw [hf1 h2, hw.2] | rw [hf0 h2, hw.1]); first | (simp_all; done) | grind) (AOs.r AOs.e))
 ·skip
  refine CW.skip ?_
  refine CW.le [(0, .obj (bo 0) [I x.state, I x.iss, I x.una, I x.rcv, S x.wait, I x.sent, I x.fin, Bo x.peerFin, S x.in_, .w (sl 2 Late.c x.late) (g 0 9), Bo x.owe, I x.due, I x.times]), (1, I a), (4, I (gap x.una a)), (5, I x.sent)] rfl (Le.of rfl) ?_
  refine CW.seq ?_
  refine CW.seqJ 71 (fun (v9 : Bool) => [(0, .obj (bo 0) [I x.state, I x.iss, I x.una, I x.rcv, S x.wait, I x.sent, I x.fin, Bo x.peerFin, S x.in_, .w (sl 2 Late.c x.late) (g 0 9), Bo x.owe, I x.due, I x.times]), (1, I a), (4, I (gap x.una a)), (30, Bo v9)]) (fun v9 => v9 = (decide ((gap x.una a) < 1) || decide ((gap x.una a) > x.sent))) ?_ ?_
  ·refine CW.region ?_
   refine RW.v rfl (V.mv (d := I (gap x.una a)) rfl rfl) ?_
   refine RW.v rfl (V.cmpInt rfl rfl rfl rfl) ?_
   refine RW.v rfl (V.mv (d := Bo (decide ((gap x.una a) < 1))) rfl rfl) ?_
   refine RW.gv rfl rfl rfl rfl (fun h10 => V.mv (d := I (gap x.una a)) rfl rfl) (fun h10 => ?_) (fun h10 => ?_)
   ·skip
    refine RW.gt rfl rfl rfl rfl (V.mv (d := I x.sent) rfl rfl) ?_
    refine RW.gt rfl rfl rfl rfl (V.cmpInt rfl rfl rfl rfl) ?_
    refine RW.v rfl (V.pickF (d := Bo (decide ((gap x.una a) > x.sent))) rfl rfl rfl) ?_
    refine RW.nil ?_
    exact ⟨_, by first | rfl | (simp_all; done) | (simp_all; omega) | grind, rfl, Le.c rfl <| Le.c rfl <| Le.c rfl <| Le.c rfl <| Le.e⟩
   ·skip
    refine RW.guardF rfl rfl rfl rfl ?_
    refine RW.guardF rfl rfl rfl rfl ?_
    refine RW.v rfl (V.pickT (d := Bo true) rfl rfl rfl) ?_
    refine RW.nil ?_
    exact ⟨_, by first | rfl | (simp_all; done) | (simp_all; omega) | grind, rfl, Le.c rfl <| Le.c rfl <| Le.c rfl <| Le.c rfl <| Le.e⟩
  ·intro v9 hv11
   refine CW.cond rfl (fun h12 => ?_) (fun h12 => ?_)
   ·skip
    refine CW.ret ?_
    exact Post.tup (by decide) RVs.e (AOs.obE (f := fun e => (Stream.c e).map .w) (e' := x) rfl (DT.v (DT.v (DT.v (DT.v (DT.v (DT.v (DT.v (DT.v (DT.v (DT.w (DT.v (DT.v (DT.v DT.e))))))))))))) (by unfold ackedN inR; (first | rw [hf1 h2, hw.2] | rw [hf0 h2, hw.1]); first | (simp_all; done) | grind) (AOs.r AOs.e))
   ·skip
    refine CW.skip ?_
    refine CW.le [(0, .obj (bo 0) [I x.state, I x.iss, I x.una, I x.rcv, S x.wait, I x.sent, I x.fin, Bo x.peerFin, S x.in_, .w (sl 2 Late.c x.late) (g 0 9), Bo x.owe, I x.due, I x.times]), (1, I a), (4, I (gap x.una a))] rfl (Le.of rfl) ?_
    refine CW.seq ?_
    refine CW.region ?_
    refine RW.v rfl (V.mv (d := I (gap x.una a)) rfl rfl) ?_
    refine RW.v rfl (V.mv (d := .pt 0 (bo 0) 0) rfl rfl) ?_
    refine RW.v rfl (V.nilP rfl rfl) ?_
    refine RW.v rfl (V.field rfl rfl rfl rfl (by decide) rfl) ?_
    refine RW.v rfl (V.loadPrim (d := I x.sent) rfl rfl (.inl rfl) rfl rfl rfl) ?_
    refine RW.call rfl (spec_l13Less_fn (gap x.una a) x.sent) rfl (.cons (.one (.r .r)) (.cons (.one (.r .r)) (.nil))) fun g13 => ?_
    refine RW.v rfl (V.as (d := I (mnI (gap x.una a) x.sent)) rfl rfl) ?_
    refine RW.nil ?_
    refine CW.le [(0, .obj (bo 0) [I x.state, I x.iss, I x.una, I x.rcv, S x.wait, I x.sent, I x.fin, Bo x.peerFin, S x.in_, .w (sl 2 Late.c x.late) (g 0 9), Bo x.owe, I x.due, I x.times]), (1, I a), (4, I (gap x.una a)), (6, I (mnI (gap x.una a) x.sent))] rfl (Le.of rfl) ?_
    refine CW.seq ?_
    refine CW.seq ?_
    refine CW.region ?_
    refine RW.v rfl (V.mv (d := I (gap x.una a)) rfl rfl) ?_
    refine RW.v rfl (V.mv (d := .pt 0 (bo 0) 0) rfl rfl) ?_
    refine RW.v rfl (V.nilP rfl rfl) ?_
    refine RW.v rfl (V.field rfl rfl rfl rfl (by decide) rfl) ?_
    refine RW.v rfl (V.loadPrim (d := I x.sent) rfl rfl (.inl rfl) rfl rfl rfl) ?_
    refine RW.v rfl (V.cmpInt rfl rfl rfl rfl) ?_
    refine RW.nil ?_
    refine CW.le [(0, .obj (bo 0) [I x.state, I x.iss, I x.una, I x.rcv, S x.wait, I x.sent, I x.fin, Bo x.peerFin, S x.in_, .w (sl 2 Late.c x.late) (g 0 9), Bo x.owe, I x.due, I x.times]), (1, I a), (6, I (mnI (gap x.una a) x.sent)), (42, Bo (decide ((gap x.una a) > x.sent)))] rfl (Le.of rfl) ?_
    refine CW.cond rfl (fun h14 => ?_) (fun h14 => ?_)
    ·skip
     refine CW.region ?_
     refine RW.v rfl (V.mv (d := .pt 0 (bo 0) 0) rfl rfl) ?_
     refine RW.v rfl (V.nilP rfl rfl) ?_
     refine RW.v rfl (V.field rfl rfl rfl rfl (by decide) rfl) ?_
     refine RW.store (d := I 3) rfl rfl rfl rfl rfl rfl rfl (Nat.le_of_ble_eq_true rfl) rfl rfl ?_
     refine RW.nil ?_
     refine CW.le [(0, .obj (bo 0) [I x.state, I x.iss, I x.una, I x.rcv, S x.wait, I x.sent, I 3, Bo x.peerFin, S x.in_, .w (sl 2 Late.c x.late) (g 0 9), Bo x.owe, I x.due, I x.times]), (1, I a), (6, I (mnI (gap x.una a) x.sent))] rfl (Le.of rfl) ?_
     refine CW.seq ?_
     refine CW.region ?_
     refine RW.v rfl (V.mv (d := .pt 0 (bo 0) 0) rfl rfl) ?_
     refine RW.v rfl (V.mv (d := .pt 0 (bo 0) 0) rfl rfl) ?_
     refine RW.v rfl (V.nilP rfl rfl) ?_
     refine RW.v rfl (V.field rfl rfl rfl rfl (by decide) rfl) ?_
     refine RW.v rfl (V.loadPrim (d := S x.wait) rfl rfl (.inl rfl) rfl rfl rfl) ?_
     refine RW.v rfl (V.mv (d := I (mnI (gap x.una a) x.sent)) rfl rfl) ?_
     refine RW.v rfl (V.strSlice (l := (mnI (gap x.una a) x.sent)) (h := (x.wait.size : Int)) rfl (by kernel_rfl) rfl (.inr ⟨_, _, rfl, rfl⟩) (.inl ⟨rfl, rfl⟩) (ack_slice (m := 9223372036854775807) hx (by unfold inR; have h9 := gap_in x.una a; first | (simp_all; omega) | grind))) ?_
     refine RW.v rfl (V.nilP rfl rfl) ?_
     refine RW.v rfl (V.field rfl rfl rfl rfl (by decide) rfl) ?_
     refine RW.store (d := S (x.wait.extract (mnI (gap x.una a) x.sent).toNat (x.wait.size : Int).toNat)) rfl rfl rfl rfl rfl rfl rfl (Nat.le_of_ble_eq_true rfl) rfl rfl ?_
     refine RW.nil ?_
     refine CW.le [(0, .obj (bo 0) [I x.state, I x.iss, I x.una, I x.rcv, S (x.wait.extract (mnI (gap x.una a) x.sent).toNat (x.wait.size : Int).toNat), I x.sent, I 3, Bo x.peerFin, S x.in_, .w (sl 2 Late.c x.late) (g 0 9), Bo x.owe, I x.due, I x.times]), (1, I a), (6, I (mnI (gap x.una a) x.sent))] rfl (Le.of rfl) ?_
     refine CW.seq ?_
     refine CW.region ?_
     refine RW.v rfl (V.mv (d := .pt 0 (bo 0) 0) rfl rfl) ?_
     refine RW.v rfl (V.mv (d := .pt 0 (bo 0) 0) rfl rfl) ?_
     refine RW.v rfl (V.nilP rfl rfl) ?_
     refine RW.v rfl (V.field rfl rfl rfl rfl (by decide) rfl) ?_
     refine RW.v rfl (V.loadPrim (d := I x.sent) rfl rfl (.inl rfl) rfl rfl rfl) ?_
     refine RW.v rfl (V.mv (d := I (mnI (gap x.una a) x.sent)) rfl rfl) ?_
     refine RW.v rfl (V.arInt rfl rfl rfl rfl) ?_
     refine RW.v rfl (V.nilP rfl rfl) ?_
     refine RW.v rfl (V.field rfl rfl rfl rfl (by decide) rfl) ?_
     refine RW.store (d := I (IntKind.i64.wrap (x.sent - (mnI (gap x.una a) x.sent)))) rfl rfl rfl rfl rfl rfl rfl (Nat.le_of_ble_eq_true rfl) rfl rfl ?_
     refine RW.nil ?_
     refine CW.le [(0, .obj (bo 0) [I x.state, I x.iss, I x.una, I x.rcv, S (x.wait.extract (mnI (gap x.una a) x.sent).toNat (x.wait.size : Int).toNat), I (IntKind.i64.wrap (x.sent - (mnI (gap x.una a) x.sent))), I 3, Bo x.peerFin, S x.in_, .w (sl 2 Late.c x.late) (g 0 9), Bo x.owe, I x.due, I x.times]), (1, I a)] rfl (Le.of rfl) ?_
     refine CW.seq ?_
     refine CW.region ?_
     refine RW.v rfl (V.mv (d := .pt 0 (bo 0) 0) rfl rfl) ?_
     refine RW.v rfl (V.mv (d := I a) rfl rfl) ?_
     refine RW.v rfl (V.nilP rfl rfl) ?_
     refine RW.v rfl (V.field rfl rfl rfl rfl (by decide) rfl) ?_
     refine RW.store (d := I a) rfl rfl rfl rfl rfl rfl rfl (Nat.le_of_ble_eq_true rfl) rfl rfl ?_
     refine RW.nil ?_
     refine CW.le [(0, .obj (bo 0) [I x.state, I x.iss, I a, I x.rcv, S (x.wait.extract (mnI (gap x.una a) x.sent).toNat (x.wait.size : Int).toNat), I (IntKind.i64.wrap (x.sent - (mnI (gap x.una a) x.sent))), I 3, Bo x.peerFin, S x.in_, .w (sl 2 Late.c x.late) (g 0 9), Bo x.owe, I x.due, I x.times])] rfl (Le.of rfl) ?_
     refine CW.region ?_
     refine RW.v rfl (V.mv (d := .pt 0 (bo 0) 0) rfl rfl) ?_
     refine RW.v rfl (V.nilP rfl rfl) ?_
     refine RW.v rfl (V.field rfl rfl rfl rfl (by decide) rfl) ?_
     refine RW.store (d := I 0) rfl rfl rfl rfl rfl rfl rfl (Nat.le_of_ble_eq_true rfl) rfl rfl ?_
     refine RW.nil ?_
     exact Post.tup (by decide) RVs.e (AOs.obE (f := fun e => (Stream.c e).map .w) (e' := (⟨x.state, x.iss, a, x.rcv, (x.wait.extract (mnI (gap x.una a) x.sent).toNat (x.wait.size : Int).toNat), (IntKind.i64.wrap (x.sent - (mnI (gap x.una a) x.sent))), 3, x.peerFin, x.in_, x.late, x.owe, x.due, 0⟩ : Stream)) rfl (DT.v (DT.v (DT.v (DT.v (DT.v (DT.v (DT.v (DT.v (DT.v (DT.w (DT.v (DT.v (DT.v DT.e))))))))))))) (by unfold ackedN inR; (first | rw [hf1 h2, hw.2] | rw [hf0 h2, hw.1]); first | (simp_all; done) | grind) (AOs.r AOs.e))
    ·skip
     refine CW.skip ?_
     refine CW.le [(0, .obj (bo 0) [I x.state, I x.iss, I x.una, I x.rcv, S x.wait, I x.sent, I x.fin, Bo x.peerFin, S x.in_, .w (sl 2 Late.c x.late) (g 0 9), Bo x.owe, I x.due, I x.times]), (1, I a), (6, I (mnI (gap x.una a) x.sent))] rfl (Le.of rfl) ?_
     refine CW.seq ?_
     refine CW.region ?_
     refine RW.v rfl (V.mv (d := .pt 0 (bo 0) 0) rfl rfl) ?_
     refine RW.v rfl (V.mv (d := .pt 0 (bo 0) 0) rfl rfl) ?_
     refine RW.v rfl (V.nilP rfl rfl) ?_
     refine RW.v rfl (V.field rfl rfl rfl rfl (by decide) rfl) ?_
     refine RW.v rfl (V.loadPrim (d := S x.wait) rfl rfl (.inl rfl) rfl rfl rfl) ?_
     refine RW.v rfl (V.mv (d := I (mnI (gap x.una a) x.sent)) rfl rfl) ?_
     refine RW.v rfl (V.strSlice (l := (mnI (gap x.una a) x.sent)) (h := (x.wait.size : Int)) rfl (by kernel_rfl) rfl (.inr ⟨_, _, rfl, rfl⟩) (.inl ⟨rfl, rfl⟩) (ack_slice (m := 9223372036854775807) hx (by unfold inR; have h9 := gap_in x.una a; first | (simp_all; omega) | grind))) ?_
     refine RW.v rfl (V.nilP rfl rfl) ?_
     refine RW.v rfl (V.field rfl rfl rfl rfl (by decide) rfl) ?_
     refine RW.store (d := S (x.wait.extract (mnI (gap x.una a) x.sent).toNat (x.wait.size : Int).toNat)) rfl rfl rfl rfl rfl rfl rfl (Nat.le_of_ble_eq_true rfl) rfl rfl ?_
     refine RW.nil ?_
     refine CW.le [(0, .obj (bo 0) [I x.state, I x.iss, I x.una, I x.rcv, S (x.wait.extract (mnI (gap x.una a) x.sent).toNat (x.wait.size : Int).toNat), I x.sent, I x.fin, Bo x.peerFin, S x.in_, .w (sl 2 Late.c x.late) (g 0 9), Bo x.owe, I x.due, I x.times]), (1, I a), (6, I (mnI (gap x.una a) x.sent))] rfl (Le.of rfl) ?_
     refine CW.seq ?_
     refine CW.region ?_
     refine RW.v rfl (V.mv (d := .pt 0 (bo 0) 0) rfl rfl) ?_
     refine RW.v rfl (V.mv (d := .pt 0 (bo 0) 0) rfl rfl) ?_
     refine RW.v rfl (V.nilP rfl rfl) ?_
     refine RW.v rfl (V.field rfl rfl rfl rfl (by decide) rfl) ?_
     refine RW.v rfl (V.loadPrim (d := I x.sent) rfl rfl (.inl rfl) rfl rfl rfl) ?_
     refine RW.v rfl (V.mv (d := I (mnI (gap x.una a) x.sent)) rfl rfl) ?_
     refine RW.v rfl (V.arInt rfl rfl rfl rfl) ?_
     refine RW.v rfl (V.nilP rfl rfl) ?_
     refine RW.v rfl (V.field rfl rfl rfl rfl (by decide) rfl) ?_
     refine RW.store (d := I (IntKind.i64.wrap (x.sent - (mnI (gap x.una a) x.sent)))) rfl rfl rfl rfl rfl rfl rfl (Nat.le_of_ble_eq_true rfl) rfl rfl ?_
     refine RW.nil ?_
     refine CW.le [(0, .obj (bo 0) [I x.state, I x.iss, I x.una, I x.rcv, S (x.wait.extract (mnI (gap x.una a) x.sent).toNat (x.wait.size : Int).toNat), I (IntKind.i64.wrap (x.sent - (mnI (gap x.una a) x.sent))), I x.fin, Bo x.peerFin, S x.in_, .w (sl 2 Late.c x.late) (g 0 9), Bo x.owe, I x.due, I x.times]), (1, I a)] rfl (Le.of rfl) ?_
     refine CW.seq ?_
     refine CW.region ?_
     refine RW.v rfl (V.mv (d := .pt 0 (bo 0) 0) rfl rfl) ?_
     refine RW.v rfl (V.mv (d := I a) rfl rfl) ?_
     refine RW.v rfl (V.nilP rfl rfl) ?_
     refine RW.v rfl (V.field rfl rfl rfl rfl (by decide) rfl) ?_
     refine RW.store (d := I a) rfl rfl rfl rfl rfl rfl rfl (Nat.le_of_ble_eq_true rfl) rfl rfl ?_
     refine RW.nil ?_
     refine CW.le [(0, .obj (bo 0) [I x.state, I x.iss, I a, I x.rcv, S (x.wait.extract (mnI (gap x.una a) x.sent).toNat (x.wait.size : Int).toNat), I (IntKind.i64.wrap (x.sent - (mnI (gap x.una a) x.sent))), I x.fin, Bo x.peerFin, S x.in_, .w (sl 2 Late.c x.late) (g 0 9), Bo x.owe, I x.due, I x.times])] rfl (Le.of rfl) ?_
     refine CW.region ?_
     refine RW.v rfl (V.mv (d := .pt 0 (bo 0) 0) rfl rfl) ?_
     refine RW.v rfl (V.nilP rfl rfl) ?_
     refine RW.v rfl (V.field rfl rfl rfl rfl (by decide) rfl) ?_
     refine RW.store (d := I 0) rfl rfl rfl rfl rfl rfl rfl (Nat.le_of_ble_eq_true rfl) rfl rfl ?_
     refine RW.nil ?_
     exact Post.tup (by decide) RVs.e (AOs.obE (f := fun e => (Stream.c e).map .w) (e' := (⟨x.state, x.iss, a, x.rcv, (x.wait.extract (mnI (gap x.una a) x.sent).toNat (x.wait.size : Int).toNat), (IntKind.i64.wrap (x.sent - (mnI (gap x.una a) x.sent))), x.fin, x.peerFin, x.in_, x.late, x.owe, x.due, 0⟩ : Stream)) rfl (DT.v (DT.v (DT.v (DT.v (DT.v (DT.v (DT.v (DT.v (DT.v (DT.w (DT.v (DT.v (DT.v DT.e))))))))))))) (by unfold ackedN inR; (first | rw [hf1 h2, hw.2] | rw [hf0 h2, hw.1]); first | (simp_all; done) | grind) (AOs.r AOs.e))
set_option maxHeartbeats 4000000 in
theorem spec_l13Body_fn (x : Stream) (num : Int) (text : ByteArray) (hx : partIn x) (ht : text.size ≤ 8) : Eng.Fn E.P 75 [.ob ((Stream.c x).map .w), .one (.r (.v (.int .i64 num))), .one (.r (.v (.string text)))] (.tup []) [.ob ((Stream.c (partT { x with owe := true } num text)).map .w), .one (.r (.v (.int .i64 num))), .one (.r (.v (.string text)))] := by
 refine Eng.Fn.intro (E := E) (rvs := []) Try.func75 rfl rfl rfl (by simp [outSlots, moved, rvSlot, sl]) ?_
 intro B g bo
 refine CW.le [(0, .obj (bo 0) [I x.state, I x.iss, I x.una, I x.rcv, S x.wait, I x.sent, I x.fin, Bo x.peerFin, S x.in_, .w (sl 2 Late.c x.late) (g 0 9), Bo x.owe, I x.due, I x.times]), (1, I num), (2, S text)] rfl (Le.of rfl) ?_
 have hx1 := hx.1
 have hx2 := hx.2.1
 refine CW.seq ?_
 refine CW.region ?_
 refine RW.v rfl (V.mv (d := .pt 0 (bo 0) 0) rfl rfl) ?_
 refine RW.v rfl (V.nilP rfl rfl) ?_
 refine RW.v rfl (V.field rfl rfl rfl rfl (by decide) rfl) ?_
 refine RW.store (d := Bo true) rfl rfl rfl rfl rfl rfl rfl (Nat.le_of_ble_eq_true rfl) rfl rfl ?_
 refine RW.nil ?_
 refine CW.le [(0, .obj (bo 0) [I x.state, I x.iss, I x.una, I x.rcv, S x.wait, I x.sent, I x.fin, Bo x.peerFin, S x.in_, .w (sl 2 Late.c x.late) (g 0 9), Bo true, I x.due, I x.times]), (1, I num), (2, S text)] rfl (Le.of rfl) ?_
 refine CW.seq ?_
 refine CW.seq ?_
 refine CW.region ?_
 refine RW.v rfl (V.mv (d := I num) rfl rfl) ?_
 refine RW.v rfl (V.mv (d := .pt 0 (bo 0) 0) rfl rfl) ?_
 refine RW.v rfl (V.nilP rfl rfl) ?_
 refine RW.v rfl (V.field rfl rfl rfl rfl (by decide) rfl) ?_
 refine RW.v rfl (V.loadPrim (d := I x.rcv) rfl rfl (.inl rfl) rfl rfl rfl) ?_
 refine RW.call rfl (spec_Gap_fn num x.rcv) rfl (.cons (.one (.r .r)) (.cons (.one (.r .r)) (.nil))) fun g1 => ?_
 refine RW.v rfl (V.cmpInt rfl rfl rfl rfl) ?_
 refine RW.nil ?_
 refine CW.le [(0, .obj (bo 0) [I x.state, I x.iss, I x.una, I x.rcv, S x.wait, I x.sent, I x.fin, Bo x.peerFin, S x.in_, .w (sl 2 Late.c x.late) (g 0 9), Bo true, I x.due, I x.times]), (1, I num), (2, S text), (21, Bo (decide ((gap num x.rcv) < 32768)))] rfl (Le.of rfl) ?_
 refine CW.joinS 140 (fun (z : Stream × Value) => match z with | (y, Y) => [(0, .obj (bo 0) [I y.state, I y.iss, I y.una, I y.rcv, S y.wait, I y.sent, I y.fin, Bo y.peerFin, S y.in_, .w (sl 2 Late.c y.late) Y, Bo y.owe, I y.due, I y.times])]) (fun (z : Stream × Value) => match z with | (y, Y) => y = preT { x with owe := true } num text) ?_ ?_
 ·skip
  refine CW.cond rfl (fun h2 => ?_) (fun h2 => ?_)
  ·skip
   refine CW.region ?_
   refine RW.v rfl (V.mv (d := .pt 0 (bo 0) 0) rfl rfl) ?_
   refine RW.v rfl (V.mv (d := I num) rfl rfl) ?_
   refine RW.v rfl (V.mv (d := S text) rfl rfl) ?_
   refine RW.callW (k := 0) (spec_l13Take_fn (⟨x.state, x.iss, x.una, x.rcv, x.wait, x.sent, x.fin, x.peerFin, x.in_, x.late, true, x.due, x.times⟩ : Stream) num text (by show x.in_.size ≤ 100000; omega) ht) rfl rfl (Nat.le_of_ble_eq_true rfl) (by decide) (.here (AsW.ob (DT.v (DT.v (DT.v (DT.v (DT.v (DT.v (DT.v (DT.v (DT.v (DT.w (DT.v (DT.v (DT.v DT.e))))))))))))) rfl) (.cons (.one (.r .r)) (.cons (.one (.r .r)) (.nil)))) rfl fun g3 q4 => ?_
   refine RW.nil ?_
   exact ⟨((takeN (⟨x.state, x.iss, x.una, x.rcv, x.wait, x.sent, x.fin, x.peerFin, x.in_, x.late, true, x.due, x.times⟩ : Stream) num text), (q4 9)), by unfold preT; first | (simp_all; done) | grind, rfl, Le.c rfl <| Le.e⟩
  ·skip
   refine CW.seq ?_
   refine CW.region ?_
   refine RW.v rfl (V.mv (d := .pt 0 (bo 0) 0) rfl rfl) ?_
   refine RW.v rfl (V.nilP rfl rfl) ?_
   refine RW.v rfl (V.field rfl rfl rfl rfl (by decide) rfl) ?_
   refine RW.v rfl (V.loadPrim (d := I x.rcv) rfl rfl (.inl rfl) rfl rfl rfl) ?_
   refine RW.v rfl (V.mv (d := I num) rfl rfl) ?_
   refine RW.call rfl (spec_Gap_fn x.rcv num) rfl (.cons (.one (.r .r)) (.cons (.one (.r .r)) (.nil))) fun g5 => ?_
   refine RW.v rfl (V.cmpInt rfl rfl rfl rfl) ?_
   refine RW.nil ?_
   refine CW.le [(0, .obj (bo 0) [I x.state, I x.iss, I x.una, I x.rcv, S x.wait, I x.sent, I x.fin, Bo x.peerFin, S x.in_, .w (sl 2 Late.c x.late) (g 0 9), Bo true, I x.due, I x.times]), (1, I num), (2, S text), (32, Bo (decide ((gap x.rcv num) < 64)))] rfl (Le.of rfl) ?_
   refine CW.cond rfl (fun h6 => ?_) (fun h6 => ?_)
   ·skip
    refine CW.seq ?_
    refine CW.region ?_
    refine RW.v rfl (V.as (d := Bo false) rfl rfl) ?_
    refine RW.nil ?_
    refine CW.le [(0, .obj (bo 0) [I x.state, I x.iss, I x.una, I x.rcv, S x.wait, I x.sent, I x.fin, Bo x.peerFin, S x.in_, .w (sl 2 Late.c x.late) (g 0 9), Bo true, I x.due, I x.times]), (1, I num), (2, S text), (6, Bo false)] rfl (Le.of rfl) ?_
    refine CW.seq ?_
    refine CW.seq ?_
    refine CW.region ?_
    refine RW.v rfl (V.as (d := I 0) rfl rfl) ?_
    refine RW.nil ?_
    refine CW.le [(0, .obj (bo 0) [I x.state, I x.iss, I x.una, I x.rcv, S x.wait, I x.sent, I x.fin, Bo x.peerFin, S x.in_, .w (sl 2 Late.c x.late) (g 0 9), Bo true, I x.due, I x.times]), (1, I num), (2, S text), (6, Bo false), (7, I 0)] rfl (Le.of rfl) ?_
    refine CW.block ?_
    refine CW.loopI 140 (fun (zz : Nat × Bool) => match zz with | (i, b) => [(0, .obj (bo 0) [I x.state, I x.iss, I x.una, I x.rcv, S x.wait, I x.sent, I x.fin, Bo x.peerFin, S x.in_, .w (sl 2 Late.c x.late) (g 0 9), Bo true, I x.due, I x.times]), (1, I num), (2, S text), (6, Bo b), (7, I (i : Int))]) (fun (zz : Nat × Bool) => match zz with | (i, b) => i ≤ x.late.length ∧ b = ((x.late.take i).any fun l => l.num == num)) (fun (zz : Nat × Bool) => match zz with | (i, b) => x.late.length - i) (0, _) rfl (Le.c rfl <| Le.c rfl <| Le.c rfl <| Le.c rfl <| Le.c rfl <| Le.e) ⟨by omega, by simp⟩ ?_
    rintro ⟨i, b⟩ ⟨hb, hr⟩
    have hl0 : x.late.length ≤ maxLen := by simp only [maxLen]; omega
    refine CW.seq ?_
    refine CW.seq ?_
    refine CW.region ?_
    refine RW.v rfl (V.mv (d := I (i : Int)) rfl rfl) ?_
    refine RW.v rfl (V.mv (d := .pt 0 (bo 0) 0) rfl rfl) ?_
    refine RW.v rfl (V.nilP rfl rfl) ?_
    refine RW.v rfl (V.field rfl rfl rfl rfl (by decide) rfl) ?_
    refine RW.v rfl (V.loadPrim (d := .al 0 (some 9) 2 x.late.length (g 0 9) 0) rfl rfl (.inr ⟨_, rfl⟩) rfl rfl rfl) ?_
    refine RW.v rfl (V.lenT (n := x.late.length) rfl rfl rfl (.alo (k := none) (i := 0) (j := 9) (sz := 2) (V := (g 0 9)) rfl rfl rfl nofun)) ?_
    refine RW.v rfl (V.cmpInt rfl rfl rfl rfl) ?_
    refine RW.nil ?_
    refine CW.le [(0, .obj (bo 0) [I x.state, I x.iss, I x.una, I x.rcv, S x.wait, I x.sent, I x.fin, Bo x.peerFin, S x.in_, .w (sl 2 Late.c x.late) (g 0 9), Bo true, I x.due, I x.times]), (1, I num), (2, S text), (6, Bo b), (7, I (i : Int)), (39, Bo (decide ((i : Int) < (x.late.length : Int))))] rfl (Le.of rfl) ?_
    refine CW.cond rfl (fun h7 => ?_) (fun h7 => ?_)
    ·skip
     have hii : i < x.late.length := by have := h7; simp at this; first | exact this | omega | (simp; done) | (simp; omega)
     obtain ⟨ei, hei⟩ : ∃ e, x.late[i]? = some e := ⟨_, List.getElem?_eq_getElem hii⟩
     have hdi := drop_get hei
     refine CW.skip ?_
     refine CW.le [(0, .obj (bo 0) [I x.state, I x.iss, I x.una, I x.rcv, S x.wait, I x.sent, I x.fin, Bo x.peerFin, S x.in_, .w (sl 2 Late.c x.late) (g 0 9), Bo true, I x.due, I x.times]), (1, I num), (2, S text), (6, Bo b), (7, I (i : Int))] rfl (Le.of rfl) ?_
     refine CW.seq ?_
     refine CW.block ?_
     refine CW.oneP 140 (fun (v8 : Bool) => [(0, .obj (bo 0) [I x.state, I x.iss, I x.una, I x.rcv, S x.wait, I x.sent, I x.fin, Bo x.peerFin, S x.in_, .w (sl 2 Late.c x.late) (g 0 9), Bo true, I x.due, I x.times]), (1, I num), (2, S text), (6, Bo v8), (7, I (i : Int))]) (fun v8 => v8 = (b || (ei.num == num))) ?_ ?_
     ·refine CW.region ?_
      refine RW.v rfl (V.mv (d := Bo b) rfl rfl) ?_
      refine RW.v rfl (V.mv (d := Bo b) rfl rfl) ?_
      refine RW.gv rfl rfl rfl rfl (fun h9 => V.mv (d := .pt 0 (bo 0) 0) rfl rfl) (fun h9 => ?_) (fun h9 => ?_)
      ·skip
       refine RW.gt rfl rfl rfl rfl (V.nilP rfl rfl) ?_
       refine RW.gt rfl rfl rfl rfl (V.field rfl rfl rfl rfl (by decide) rfl) ?_
       refine RW.gt rfl rfl rfl rfl (V.loadPrim (d := .al 0 (some 9) 2 x.late.length (g 0 9) 0) rfl rfl (.inr ⟨_, rfl⟩) rfl rfl rfl) ?_
       refine RW.gt rfl rfl rfl rfl (V.mv (d := I (i : Int)) rfl rfl) ?_
       refine RW.swapO 47 0 9 (by decide) rfl rfl rfl ?_
       refine RW.gt rfl rfl rfl rfl (V.indexW rfl rfl rfl rfl rfl rfl rfl hii) ?_
       refine RW.gt rfl rfl rfl rfl (V.fieldE rfl rfl rfl rfl (by decide) rfl) ?_
       refine RW.gt rfl rfl rfl rfl (V.loadF (m := i) (off := 0) rfl rfl (.inl rfl) rfl rfl Late.len hei (by decide) rfl) ?_
       refine RW.gt rfl rfl rfl rfl (V.mv (d := I num) rfl rfl) ?_
       refine RW.gt rfl rfl rfl rfl (V.cmpInt rfl rfl rfl rfl) ?_
       refine RW.v rfl (V.pickF (d := Bo (ei.num == num)) rfl rfl rfl) ?_
       refine RW.v rfl (V.as (d := Bo (ei.num == num)) rfl rfl) ?_
       refine RW.pullT (k := 0) (l := 47) (j := 9) 0 47 9 rfl rfl rfl (by decide) rfl rfl rfl ?_
       refine RW.nil ?_
       exact ⟨rfl, _, by first | rfl | (simp_all; done) | (simp_all; omega) | grind, rfl, Le.c rfl <| Le.c rfl <| Le.c rfl <| Le.c rfl <| Le.c rfl <| Le.e⟩
      ·skip
       refine RW.guardF rfl rfl rfl rfl ?_
       refine RW.guardF rfl rfl rfl rfl ?_
       refine RW.guardF rfl rfl rfl rfl ?_
       refine RW.guardF rfl rfl rfl rfl ?_
       refine RW.guardF rfl rfl rfl rfl ?_
       refine RW.guardF rfl rfl rfl rfl ?_
       refine RW.guardF rfl rfl rfl rfl ?_
       refine RW.guardF rfl rfl rfl rfl ?_
       refine RW.guardF rfl rfl rfl rfl ?_
       refine RW.v rfl (V.pickT (d := Bo true) rfl rfl rfl) ?_
       refine RW.v rfl (V.as (d := Bo true) rfl rfl) ?_
       refine RW.nil ?_
       exact ⟨rfl, _, by first | rfl | (simp_all; done) | (simp_all; omega) | grind, rfl, Le.c rfl <| Le.c rfl <| Le.c rfl <| Le.c rfl <| Le.c rfl <| Le.e⟩
     ·intro v8 hv10
      refine CW.le [(0, .obj (bo 0) [I x.state, I x.iss, I x.una, I x.rcv, S x.wait, I x.sent, I x.fin, Bo x.peerFin, S x.in_, .w (sl 2 Late.c x.late) (g 0 9), Bo true, I x.due, I x.times]), (1, I num), (2, S text), (6, Bo v8), (7, I (i : Int))] rfl (Le.of rfl) ?_
      refine CW.region ?_
      refine RW.v rfl (V.mv (d := I (i : Int)) rfl rfl) ?_
      refine RW.v rfl (V.inc rfl rfl rfl hii hl0) ?_
      refine RW.v rfl (V.as (d := I ((i + 1 : Nat) : Int)) rfl rfl) ?_
      refine RW.nil ?_
      exact ⟨(i + 1, v8), by simp only []; omega, ⟨by omega, by rw [take_snoc hei, List.any_append, ← hr]; simp_all⟩, rfl, Le.c rfl <| Le.c rfl <| Le.c rfl <| Le.c rfl <| Le.c rfl <| Le.e⟩
    ·skip
     have hii : x.late.length ≤ i := by have := h7; simp at this; first | exact this | omega | (simp; done) | (simp; omega)
     have hdi : x.late.drop i = [] := List.drop_eq_nil_of_le hii
     rw [List.take_of_length_le hii] at hr
     refine CW.exit ?_
     refine CW.le [(0, .obj (bo 0) [I x.state, I x.iss, I x.una, I x.rcv, S x.wait, I x.sent, I x.fin, Bo x.peerFin, S x.in_, .w (sl 2 Late.c x.late) (g 0 9), Bo true, I x.due, I x.times]), (1, I num), (2, S text), (6, Bo b)] rfl (Le.of rfl) ?_
     refine CW.seqJ 140 (fun (v11 : Bool) => [(0, .obj (bo 0) [I x.state, I x.iss, I x.una, I x.rcv, S x.wait, I x.sent, I x.fin, Bo x.peerFin, S x.in_, .w (sl 2 Late.c x.late) (g 0 9), Bo true, I x.due, I x.times]), (1, I num), (2, S text), (64, Bo v11)]) (fun v11 => v11 = ((!b) && decide ((x.late.length : Int) < 8))) ?_ ?_
     ·refine CW.region ?_
      refine RW.v rfl (V.mv (d := Bo b) rfl rfl) ?_
      refine RW.v rfl (V.not rfl rfl) ?_
      refine RW.v rfl (V.mv (d := Bo (!b)) rfl rfl) ?_
      refine RW.gv rfl rfl rfl rfl (fun h12 => V.mv (d := .pt 0 (bo 0) 0) rfl rfl) (fun h12 => ?_) (fun h12 => ?_)
      ·skip
       refine RW.gt rfl rfl rfl rfl (V.nilP rfl rfl) ?_
       refine RW.gt rfl rfl rfl rfl (V.field rfl rfl rfl rfl (by decide) rfl) ?_
       refine RW.gt rfl rfl rfl rfl (V.loadPrim (d := .al 0 (some 9) 2 x.late.length (g 0 9) 0) rfl rfl (.inr ⟨_, rfl⟩) rfl rfl rfl) ?_
       refine RW.gt rfl rfl rfl rfl (V.lenT (n := x.late.length) rfl rfl rfl (.alo (k := none) (i := 0) (j := 9) (sz := 2) (V := (g 0 9)) rfl rfl rfl nofun)) ?_
       refine RW.gt rfl rfl rfl rfl (V.cmpInt rfl rfl rfl rfl) ?_
       refine RW.v rfl (V.pickT (d := Bo (decide ((x.late.length : Int) < 8))) rfl rfl rfl) ?_
       refine RW.nil ?_
       exact ⟨_, by first | rfl | (simp_all; done) | (simp_all; omega) | grind, rfl, Le.c rfl <| Le.c rfl <| Le.c rfl <| Le.c rfl <| Le.e⟩
      ·skip
       refine RW.guardF rfl rfl rfl rfl ?_
       refine RW.guardF rfl rfl rfl rfl ?_
       refine RW.guardF rfl rfl rfl rfl ?_
       refine RW.guardF rfl rfl rfl rfl ?_
       refine RW.guardF rfl rfl rfl rfl ?_
       refine RW.v rfl (V.pickF (d := Bo false) rfl rfl rfl) ?_
       refine RW.nil ?_
       exact ⟨_, by first | rfl | (simp_all; done) | (simp_all; omega) | grind, rfl, Le.c rfl <| Le.c rfl <| Le.c rfl <| Le.c rfl <| Le.e⟩
     ·intro v11 hv13
      refine CW.cond rfl (fun h14 => ?_) (fun h14 => ?_)
      ·skip
       refine CW.region ?_
       refine RW.v rfl (V.mv (d := .pt 0 (bo 0) 0) rfl rfl) ?_
       refine RW.v rfl (V.mv (d := .pt 0 (bo 0) 0) rfl rfl) ?_
       refine RW.v rfl (V.nilP rfl rfl) ?_
       refine RW.v rfl (V.field rfl rfl rfl rfl (by decide) rfl) ?_
       refine RW.v rfl (V.loadPrim (d := .al 0 (some 9) 2 x.late.length (g 0 9) 0) rfl rfl (.inr ⟨_, rfl⟩) rfl rfl rfl) ?_
       refine RW.v rfl (V.mv (d := I num) rfl rfl) ?_
       refine RW.v rfl (V.mv (d := S text) rfl rfl) ?_
       refine RW.v rfl (V.build (ds := [I num, S text]) rfl rfl rfl rfl (.one rfl rfl rfl (Nat.le_of_ble_eq_true rfl) (.one rfl rfl rfl (Nat.le_of_ble_eq_true rfl) (.nil)))) ?_
       refine RW.build1 (c := Late.c) (v := (⟨num, text⟩ : Late)) rfl rfl rfl rfl rfl rfl (DW.v (DW.v DW.e)) Late.len (by decide) (by decide) fun X15 => ?_
       refine RW.takeO 69 0 9 (by decide) rfl rfl rfl ?_
       refine RW.appendSR (c := Late.c) (l1 := x.late) (l2 := [(⟨num, text⟩ : Late)]) rfl rfl rfl rfl rfl rfl rfl rfl (.al (k := none) (i := 73) (sz := 2) (V := X15) rfl rfl nofun) (by decide) (Nat.le_of_ble_eq_true rfl) Late.len (fun _ => rfl) rfl (by first | (simp only [maxLen, List.length_singleton]; omega) | (have h9 := hP.ok.2.1; simp [maxLen]; omega)) (by first | (simp only [maxLen, List.length_singleton]; omega) | (have h9 := hP.ok.2.1; simp [maxLen]; omega)) fun X16 => ?_
       refine RW.v rfl (V.nilP rfl rfl) ?_
       refine RW.v rfl (V.field rfl rfl rfl rfl (by decide) rfl) ?_
       refine RW.store (d := .al 74 none 2 ((x.late ++ ([(⟨num, text⟩ : Late)])).length) X16 0) rfl rfl rfl rfl rfl rfl rfl (Nat.le_of_ble_eq_true rfl) rfl rfl ?_
       refine RW.le [(0, .obj (bo 0) [I x.state, I x.iss, I x.una, I x.rcv, S x.wait, I x.sent, I x.fin, Bo x.peerFin, S x.in_, .al 74 none 2 ((x.late ++ ([(⟨num, text⟩ : Late)])).length) X16 0, Bo true, I x.due, I x.times]), (74, .w (sl 2 Late.c (x.late ++ ([(⟨num, text⟩ : Late)]))) X16)] rfl (Le.of rfl) ?_
       refine RW.pullT (k := 0) (l := 74) (j := 9) 0 74 9 rfl rfl rfl (by decide) rfl rfl rfl ?_
       refine RW.le [(0, .obj (bo 0) [I x.state, I x.iss, I x.una, I x.rcv, S x.wait, I x.sent, I x.fin, Bo x.peerFin, S x.in_, .w (sl 2 Late.c (x.late ++ ([(⟨num, text⟩ : Late)]))) X16, Bo true, I x.due, I x.times])] rfl (Le.of rfl) ?_
       refine RW.nil ?_
       exact ⟨((⟨x.state, x.iss, x.una, x.rcv, x.wait, x.sent, x.fin, x.peerFin, x.in_, (x.late ++ ([(⟨num, text⟩ : Late)])), true, x.due, x.times⟩ : Stream), X16), by unfold preT; first | (simp_all; done) | grind, rfl, Le.c rfl <| Le.e⟩
      ·skip
       refine CW.skip ?_
       exact ⟨((⟨x.state, x.iss, x.una, x.rcv, x.wait, x.sent, x.fin, x.peerFin, x.in_, x.late, true, x.due, x.times⟩ : Stream), (g 0 9)), by unfold preT; first | (simp_all; done) | grind, rfl, Le.c rfl <| Le.e⟩
   ·skip
    refine CW.skip ?_
    exact ⟨((⟨x.state, x.iss, x.una, x.rcv, x.wait, x.sent, x.fin, x.peerFin, x.in_, x.late, true, x.due, x.times⟩ : Stream), (g 0 9)), by unfold preT; first | (simp_all; done) | grind, rfl, Le.c rfl <| Le.e⟩
 ·rintro ⟨y, Y⟩ hy
  have hyo : partOk y := by rw [hy]; exact preT_ok (x := { x with owe := true }) hx ht
  refine CW.le [(0, .obj (bo 0) [I y.state, I y.iss, I y.una, I y.rcv, S y.wait, I y.sent, I y.fin, Bo y.peerFin, S y.in_, .w (sl 2 Late.c y.late) Y, Bo y.owe, I y.due, I y.times])] rfl (Le.of rfl) ?_
  refine CW.seq ?_
  refine CW.region ?_
  refine RW.v rfl (V.as (d := I 0) rfl rfl) ?_
  refine RW.nil ?_
  refine CW.le [(0, .obj (bo 0) [I y.state, I y.iss, I y.una, I y.rcv, S y.wait, I y.sent, I y.fin, Bo y.peerFin, S y.in_, .w (sl 2 Late.c y.late) Y, Bo y.owe, I y.due, I y.times]), (8, I 0)] rfl (Le.of rfl) ?_
  refine CW.block ?_
  refine CW.loopI 140 (fun (zz : Nat × Stream × Value) => match zz with | (r, z, X) => [(0, .obj (bo 0) [I z.state, I z.iss, I z.una, I z.rcv, S z.wait, I z.sent, I z.fin, Bo z.peerFin, S z.in_, .w (sl 2 Late.c z.late) X, Bo z.owe, I z.due, I z.times]), (8, I (r : Int))]) (fun (zz : Nat × Stream × Value) => match zz with | (r, z, X) => SpP y r z) (fun (zz : Nat × Stream × Value) => match zz with | (r, z, X) => 9 - r) (0, y, _) rfl (Le.c rfl <| Le.c rfl <| Le.e) (SpP.init hyo) ?_
  rintro ⟨r, z, X⟩ hP
  have hl0 := hP.len
  refine CW.seq ?_
  refine CW.seq ?_
  refine CW.region ?_
  refine RW.v rfl (V.mv (d := I (r : Int)) rfl rfl) ?_
  refine RW.v rfl (V.cmpInt rfl rfl rfl rfl) ?_
  refine RW.nil ?_
  refine CW.le [(0, .obj (bo 0) [I z.state, I z.iss, I z.una, I z.rcv, S z.wait, I z.sent, I z.fin, Bo z.peerFin, S z.in_, .w (sl 2 Late.c z.late) X, Bo z.owe, I z.due, I z.times]), (8, I (r : Int)), (78, Bo (decide ((r : Int) < 9)))] rfl (Le.of rfl) ?_
  refine CW.cond rfl (fun h17 => ?_) (fun h17 => ?_)
  ·skip
   have hr9 : r < 9 := by simp at h17; omega
   refine CW.skip ?_
   refine CW.le [(0, .obj (bo 0) [I z.state, I z.iss, I z.una, I z.rcv, S z.wait, I z.sent, I z.fin, Bo z.peerFin, S z.in_, .w (sl 2 Late.c z.late) X, Bo z.owe, I z.due, I z.times]), (8, I (r : Int))] rfl (Le.of rfl) ?_
   refine CW.seq ?_
   refine CW.block ?_
   refine CW.seq ?_
   refine CW.region ?_
   refine RW.v rfl (V.as (d := I (-1)) rfl rfl) ?_
   refine RW.nil ?_
   refine CW.le [(0, .obj (bo 0) [I z.state, I z.iss, I z.una, I z.rcv, S z.wait, I z.sent, I z.fin, Bo z.peerFin, S z.in_, .w (sl 2 Late.c z.late) X, Bo z.owe, I z.due, I z.times]), (8, I (r : Int)), (9, I (-1))] rfl (Le.of rfl) ?_
   refine CW.seq ?_
   refine CW.seq ?_
   refine CW.region ?_
   refine RW.v rfl (V.mv (d := .pt 0 (bo 0) 0) rfl rfl) ?_
   refine RW.v rfl (V.nilP rfl rfl) ?_
   refine RW.v rfl (V.field rfl rfl rfl rfl (by decide) rfl) ?_
   refine RW.v rfl (V.loadPrim (d := .al 0 (some 9) 2 z.late.length X 0) rfl rfl (.inr ⟨_, rfl⟩) rfl rfl rfl) ?_
   refine RW.v rfl (V.lenT (n := z.late.length) rfl rfl rfl (.alo (k := none) (i := 0) (j := 9) (sz := 2) (V := X) rfl rfl rfl nofun)) ?_
   refine RW.v rfl (V.arInt rfl rfl rfl rfl) ?_
   refine RW.v rfl (V.as (d := I (IntKind.i64.wrap ((z.late.length : Int) - 1))) rfl rfl) ?_
   refine RW.nil ?_
   refine CW.le [(0, .obj (bo 0) [I z.state, I z.iss, I z.una, I z.rcv, S z.wait, I z.sent, I z.fin, Bo z.peerFin, S z.in_, .w (sl 2 Late.c z.late) X, Bo z.owe, I z.due, I z.times]), (8, I (r : Int)), (9, I (-1)), (10, I (IntKind.i64.wrap ((z.late.length : Int) - 1)))] rfl (Le.of rfl) ?_
   refine CW.block ?_
   refine CW.loopI 140 (fun (zz : Nat × Int) => match zz with | (i, k) => [(0, .obj (bo 0) [I z.state, I z.iss, I z.una, I z.rcv, S z.wait, I z.sent, I z.fin, Bo z.peerFin, S z.in_, .w (sl 2 Late.c z.late) X, Bo z.owe, I z.due, I z.times]), (8, I (r : Int)), (9, I k), (10, I ((i : Int) - 1))]) (fun (zz : Nat × Int) => match zz with | (i, k) => i ≤ z.late.length ∧ k = kF (covers z.rcv) z.late i) (fun (zz : Nat × Int) => match zz with | (i, k) => i) (z.late.length, -1) rfl (Le.c rfl <| Le.c rfl <| Le.c rfl <| Le.c (congrArg I (wrap_pred hl0)) <| Le.e) ⟨by omega, kF_end _ _⟩ ?_
   rintro ⟨i, k⟩ ⟨hb, hk⟩
   refine CW.seq ?_
   refine CW.seq ?_
   refine CW.region ?_
   refine RW.v rfl (V.mv (d := I ((i : Int) - 1)) rfl rfl) ?_
   refine RW.v rfl (V.cmpInt rfl rfl rfl rfl) ?_
   refine RW.nil ?_
   refine CW.le [(0, .obj (bo 0) [I z.state, I z.iss, I z.una, I z.rcv, S z.wait, I z.sent, I z.fin, Bo z.peerFin, S z.in_, .w (sl 2 Late.c z.late) X, Bo z.owe, I z.due, I z.times]), (8, I (r : Int)), (9, I k), (10, I ((i : Int) - 1)), (88, Bo (decide (((i : Int) - 1) ≥ 0)))] rfl (Le.of rfl) ?_
   refine CW.cond rfl (fun h18 => ?_) (fun h18 => ?_)
   ·skip
    have hi1 : 0 < i := by simp at h18; omega
    have hlt : i - 1 < z.late.length := by omega
    obtain ⟨ei, hei⟩ : ∃ e, z.late[i - 1]? = some e := ⟨_, List.getElem?_eq_getElem hlt⟩
    refine CW.skip ?_
    refine CW.le [(0, .obj (bo 0) [I z.state, I z.iss, I z.una, I z.rcv, S z.wait, I z.sent, I z.fin, Bo z.peerFin, S z.in_, .w (sl 2 Late.c z.late) X, Bo z.owe, I z.due, I z.times]), (8, I (r : Int)), (9, I k), (10, I ((i : Int) - 1))] rfl (Le.of rfl) ?_
    refine CW.seq ?_
    refine CW.block ?_
    refine CW.seq ?_
    refine CW.drawn (by kernel_rfl) ?_
    refine RQ.v rfl (V.mv (d := .pt 0 (bo 0) 0) rfl rfl) ?_
    refine RQ.v rfl (V.nilP rfl rfl) ?_
    refine RQ.v rfl (V.field rfl rfl rfl rfl (by decide) rfl) ?_
    refine RQ.v rfl (V.loadPrim (d := .al 0 (some 9) 2 z.late.length X 0) rfl rfl (.inr ⟨_, rfl⟩) rfl rfl rfl) ?_
    refine RQ.v rfl (V.mv (d := I ((i : Int) - 1)) rfl rfl) ?_
    refine RQ.swapO 94 0 9 (by decide) rfl rfl rfl ?_
    refine RQ.v rfl (V.indexWZ (m := (i - 1)) rfl rfl rfl rfl rfl rfl rfl (by omega) hlt) ?_
    refine RQ.v rfl (V.fieldE rfl rfl rfl rfl (by decide) rfl) ?_
    refine RQ.v rfl (V.loadF (m := (i - 1)) (off := 0) rfl rfl (.inl rfl) rfl rfl Late.len hei (by decide) rfl) ?_
    refine RQ.v rfl (V.mv (d := .pt 0 (bo 0) 0) rfl rfl) ?_
    refine RQ.v rfl (V.nilP rfl rfl) ?_
    refine RQ.v rfl (V.field rfl rfl rfl rfl (by decide) rfl) ?_
    refine RQ.v rfl (V.loadPrim (d := I z.rcv) rfl rfl (.inl rfl) rfl rfl rfl) ?_
    refine RQ.cons rfl (QOK.call (spec_Gap_fn ei.num z.rcv) rfl (.cons (.one (.r .r)) (.cons (.one (.r .r)) (.nil))) ?_)
    refine RQ.v rfl (V.cmpInt rfl rfl rfl rfl) ?_
    refine RQ.pullT (k := 0) (l := 94) (j := 9) 0 94 9 rfl rfl rfl (by decide) rfl rfl rfl ?_
    refine RQ.nil ?_
    refine CW.le [(0, .obj (bo 0) [I z.state, I z.iss, I z.una, I z.rcv, S z.wait, I z.sent, I z.fin, Bo z.peerFin, S z.in_, .w (sl 2 Late.c z.late) X, Bo z.owe, I z.due, I z.times]), (8, I (r : Int)), (9, I k), (10, I ((i : Int) - 1)), (104, Bo (decide ((gap ei.num z.rcv) < 32768)))] rfl (Le.of rfl) ?_
    refine CW.cond rfl (fun h19 => ?_) (fun h19 => ?_)
    ·skip
     have hcv : covers z.rcv ei = true := by simpa [covers] using h19
     refine CW.region ?_
     refine RW.v rfl (V.mv (d := I ((i : Int) - 1)) rfl rfl) ?_
     refine RW.v rfl (V.as (d := I ((i : Int) - 1)) rfl rfl) ?_
     refine RW.nil ?_
     refine CW.le [(0, .obj (bo 0) [I z.state, I z.iss, I z.una, I z.rcv, S z.wait, I z.sent, I z.fin, Bo z.peerFin, S z.in_, .w (sl 2 Late.c z.late) X, Bo z.owe, I z.due, I z.times]), (8, I (r : Int)), (9, I ((i : Int) - 1)), (10, I ((i : Int) - 1))] rfl (Le.of rfl) ?_
     refine CW.region ?_
     refine RW.v rfl (V.mv (d := I ((i : Int) - 1)) rfl rfl) ?_
     refine RW.v rfl (V.arInt rfl rfl rfl rfl) ?_
     refine RW.v rfl (V.as (d := I (IntKind.i64.wrap (((i : Int) - 1) - 1))) rfl rfl) ?_
     refine RW.nil ?_
     exact ⟨(i - 1, ((i : Int) - 1)), by simp only []; omega, ⟨by omega, kF_yes hi1 hei hcv⟩, rfl, Le.c rfl <| Le.c rfl <| Le.c rfl <| Le.c (congrArg I (wrap_pp hi1 hb hl0)) <| Le.e⟩
    ·skip
     have hnc : covers z.rcv ei = false := by simpa [covers] using h19
     refine CW.skip ?_
     refine CW.le [(0, .obj (bo 0) [I z.state, I z.iss, I z.una, I z.rcv, S z.wait, I z.sent, I z.fin, Bo z.peerFin, S z.in_, .w (sl 2 Late.c z.late) X, Bo z.owe, I z.due, I z.times]), (8, I (r : Int)), (9, I k), (10, I ((i : Int) - 1))] rfl (Le.of rfl) ?_
     refine CW.region ?_
     refine RW.v rfl (V.mv (d := I ((i : Int) - 1)) rfl rfl) ?_
     refine RW.v rfl (V.arInt rfl rfl rfl rfl) ?_
     refine RW.v rfl (V.as (d := I (IntKind.i64.wrap (((i : Int) - 1) - 1))) rfl rfl) ?_
     refine RW.nil ?_
     exact ⟨(i - 1, k), by simp only []; omega, ⟨by omega, by rw [hk]; exact kF_no hi1 hei hnc⟩, rfl, Le.c rfl <| Le.c rfl <| Le.c rfl <| Le.c (congrArg I (wrap_pp hi1 hb hl0)) <| Le.e⟩
   ·skip
    have hi0 : i = 0 := by simp at h18; omega
    subst hi0
    refine CW.exit ?_
    refine CW.le [(0, .obj (bo 0) [I z.state, I z.iss, I z.una, I z.rcv, S z.wait, I z.sent, I z.fin, Bo z.peerFin, S z.in_, .w (sl 2 Late.c z.late) X, Bo z.owe, I z.due, I z.times]), (8, I (r : Int)), (9, I k)] rfl (Le.of rfl) ?_
    refine CW.seq ?_
    refine CW.seq ?_
    refine CW.region ?_
    refine RW.v rfl (V.mv (d := I k) rfl rfl) ?_
    refine RW.v rfl (V.cmpInt rfl rfl rfl rfl) ?_
    refine RW.nil ?_
    refine CW.le [(0, .obj (bo 0) [I z.state, I z.iss, I z.una, I z.rcv, S z.wait, I z.sent, I z.fin, Bo z.peerFin, S z.in_, .w (sl 2 Late.c z.late) X, Bo z.owe, I z.due, I z.times]), (8, I (r : Int)), (9, I k), (107, Bo (decide (k < 0)))] rfl (Le.of rfl) ?_
    refine CW.cond rfl (fun h20 => ?_) (fun h20 => ?_)
    ·skip
     have hst := hP.stop (kF_neg (by rw [← hk]; simpa using h20))
     refine CW.ret ?_
     exact Post.tup (by decide) RVs.e (AOs.obE (f := fun e => (Stream.c e).map .w) (e' := z) rfl (DT.v (DT.v (DT.v (DT.v (DT.v (DT.v (DT.v (DT.v (DT.v (DT.w (DT.v (DT.v (DT.v DT.e))))))))))))) (by rw [partT_pre, ← hy]; exact hst) (AOs.r (AOs.r AOs.e)))
    ·skip
     obtain ⟨q, hkq, hfq, hq1⟩ := kF_pos hk (by simpa using h20)
     subst hkq
     obtain ⟨eq_, heq⟩ : ∃ e, z.late[q]? = some e := ⟨_, List.getElem?_eq_getElem hq1⟩
     refine CW.skip ?_
     refine CW.le [(0, .obj (bo 0) [I z.state, I z.iss, I z.una, I z.rcv, S z.wait, I z.sent, I z.fin, Bo z.peerFin, S z.in_, .w (sl 2 Late.c z.late) X, Bo z.owe, I z.due, I z.times]), (8, I (r : Int)), (9, I (q : Int))] rfl (Le.of rfl) ?_
     refine CW.seq ?_
     refine CW.region ?_
     refine RW.v rfl (V.mv (d := .pt 0 (bo 0) 0) rfl rfl) ?_
     refine RW.v rfl (V.nilP rfl rfl) ?_
     refine RW.v rfl (V.field rfl rfl rfl rfl (by decide) rfl) ?_
     refine RW.v rfl (V.loadPrim (d := .al 0 (some 9) 2 z.late.length X 0) rfl rfl (.inr ⟨_, rfl⟩) rfl rfl rfl) ?_
     refine RW.v rfl (V.mv (d := I (q : Int)) rfl rfl) ?_
     refine RW.swapO 111 0 9 (by decide) rfl rfl rfl ?_
     refine RW.v rfl (V.indexW rfl rfl rfl rfl rfl rfl rfl hq1) ?_
     refine RW.v rfl (V.loadAggF (m := q) rfl rfl rfl rfl rfl Late.len heq (vs := Late.vs eq_) rfl (by decide)) ?_
     refine RW.alloc (ds := [I 0, S (⟨#[]⟩)]) rfl rfl rfl rfl fun b21 => ?_
     refine RW.storeAgg (es := ((Late.c eq_).map .r)) rfl rfl rfl rfl rfl rfl rfl rfl (Nat.le_of_ble_eq_true rfl) rfl ?_
     refine RW.pullT (k := 0) (l := 111) (j := 9) 0 111 9 rfl rfl rfl (by decide) rfl rfl rfl ?_
     refine RW.nil ?_
     refine CW.le [(0, .obj (bo 0) [I z.state, I z.iss, I z.una, I z.rcv, S z.wait, I z.sent, I z.fin, Bo z.peerFin, S z.in_, .w (sl 2 Late.c z.late) X, Bo z.owe, I z.due, I z.times]), (8, I (r : Int)), (9, I (q : Int)), (11, .obj b21 ((Late.c eq_).map .r))] rfl (Le.of rfl) ?_
     refine CW.anyJ (fc := [(11, b21, [.int .i64 eq_.num, .string eq_.text])]) 140 (fun (zz : Value × Value × Value) => match zz with | (Xo22_16_1, Xo22_1_1, Xo22_8_1) => [(0, .obj (bo 0) [I z.state, I z.iss, I z.una, I z.rcv, S z.wait, I z.sent, I z.fin, Bo z.peerFin, S z.in_, .w (sl 2 Late.c ((([] : List Late) ++ (z.late.take q)) ++ (z.late.drop (q + 1)))) Xo22_16_1, Bo z.owe, I z.due, I z.times]), (8, I (r : Int)), (11, .obj b21 ((Late.c eq_).map .r))]) (fun all hall K hK => ?_) ?_
     ·skip
      have ro22_11111111111111111111 : ∀ (Xo22_16_1 : Value), ∀ (Xo22_1_1 : Value), ∀ (Xo22_8_1 : Value), RA [(11, b21, [.int .i64 eq_.num, .string eq_.text])] E B all 0 #[true, true, true, true, true, true, true, true, true, true, true, true, true, true, true, true, true, true, true, true] ⟨140, [(0, .obj (bo 0) [I z.state, I z.iss, I z.una, I z.rcv, S z.wait, I z.sent, I z.fin, Bo z.peerFin, S z.in_, .w (sl 2 Late.c ((([] : List Late) ++ (z.late.take q)) ++ (z.late.drop (q + 1)))) Xo22_16_1, Bo z.owe, I z.due, I z.times]), (8, I (r : Int)), (11, .obj b21 ((Late.c eq_).map .r))]⟩ K := by
       intro Xo22_16_1 Xo22_1_1 Xo22_8_1
       exact RA.of hall (RA.finH (Tell.c rfl rfl Tell.e) (by kernel_rfl) (hK (Xo22_16_1, Xo22_1_1, Xo22_8_1) _ rfl (Le.of rfl)))
      have ro22_11111111111111111110 : ∀ (Xo22_16_1 : Value), ∀ (Xo22_1_1 : Value), ∀ (Xo22_8_1 : Value), RA [(11, b21, [.int .i64 eq_.num, .string eq_.text])] E B all 1 #[true, true, true, true, true, true, true, true, true, true, true, true, true, true, true, true, true, true, true, false] ⟨140, [(0, .obj (bo 0) [I z.state, I z.iss, I z.una, I z.rcv, S z.wait, I z.sent, I z.fin, Bo z.peerFin, S z.in_, .w (sl 2 Late.c z.late) X, Bo z.owe, I z.due, I z.times]), (8, I (r : Int)), (11, .obj b21 ((Late.c eq_).map .r)), (131, .w (sl 2 Late.c ((([] : List Late) ++ (z.late.take q)) ++ (z.late.drop (q + 1)))) Xo22_16_1), (133, .pt 0 (bo 0) 9)]⟩ K := by
       intro Xo22_16_1 Xo22_1_1 Xo22_8_1
       refine RA.of hall (RA.stepH (L := [19]) (Tell.c rfl rfl Tell.e) (by kernel_rfl) (by simp) (RA.each ?_ (RA.each0)))
       ·skip
        refine RO.store (d := .al 131 none 2 (((([] : List Late) ++ (z.late.take q)) ++ (z.late.drop (q + 1))).length) Xo22_16_1 0) rfl rfl rfl rfl rfl rfl rfl rfl rfl (Nat.le_of_ble_eq_true rfl) rfl rfl ?_
        refine RA.le [(0, .obj (bo 0) [I z.state, I z.iss, I z.una, I z.rcv, S z.wait, I z.sent, I z.fin, Bo z.peerFin, S z.in_, .al 131 none 2 (((([] : List Late) ++ (z.late.take q)) ++ (z.late.drop (q + 1))).length) Xo22_16_1 0, Bo z.owe, I z.due, I z.times]), (8, I (r : Int)), (11, .obj b21 ((Late.c eq_).map .r)), (131, .w (sl 2 Late.c ((([] : List Late) ++ (z.late.take q)) ++ (z.late.drop (q + 1)))) Xo22_16_1)] rfl (Le.of rfl) ?_
        refine RA.pullT (k := 0) (l := 131) (j := 9) 0 131 9 rfl rfl rfl (by decide) rfl rfl rfl ?_
        refine RA.le [(0, .obj (bo 0) [I z.state, I z.iss, I z.una, I z.rcv, S z.wait, I z.sent, I z.fin, Bo z.peerFin, S z.in_, .w (sl 2 Late.c ((([] : List Late) ++ (z.late.take q)) ++ (z.late.drop (q + 1)))) Xo22_16_1, Bo z.owe, I z.due, I z.times]), (8, I (r : Int)), (11, .obj b21 ((Late.c eq_).map .r))] rfl (Le.of rfl) ?_
        exact RA.to hall (RA.lr (ro22_11111111111111111111 Xo22_16_1 Xo22_1_1 Xo22_8_1) rfl rfl)
      have ro22_11111111111111110000 : ∀ (Xo22_1_1 : Value), ∀ (Xo22_8_1 : Value), RA [(11, b21, [.int .i64 eq_.num, .string eq_.text])] E B all 4 #[true, true, true, true, true, true, true, true, true, true, true, true, true, true, true, true, false, false, false, false] ⟨140, [(0, .obj (bo 0) [I z.state, I z.iss, I z.una, I z.rcv, S z.wait, I z.sent, I z.fin, Bo z.peerFin, S z.in_, .w (sl 2 Late.c z.late) X, Bo z.owe, I z.due, I z.times]), (8, I (r : Int)), (11, .obj b21 ((Late.c eq_).map .r)), (115, .pt 0 (bo 0) 0), (123, .w (sl 2 Late.c (([] : List Late) ++ (z.late.take q))) Xo22_8_1), (130, .al 0 (some 9) 2 (z.late.length - (q + 1)) X (q + 1))]⟩ K := by
       intro Xo22_1_1 Xo22_8_1
       refine RA.of hall (RA.stepH (L := [16]) (Tell.c rfl rfl Tell.e) (by kernel_rfl) (by simp) (RA.each ?_ (RA.each0)))
       ·skip
        refine RO.appendSR (c := Late.c) (l1 := (([] : List Late) ++ (z.late.take q))) (l2 := (z.late.drop (q + 1))) rfl rfl rfl rfl rfl rfl rfl rfl rfl rfl (.dropO rfl rfl Late.len (by omega) nofun) (by decide) (Nat.le_of_ble_eq_true rfl) Late.len (fun _ => rfl) rfl (by first | (simp only [maxLen, List.length_singleton]; omega) | (have h9 := hP.ok.2.1; simp [maxLen]; omega)) (by first | (simp only [maxLen, List.length_singleton]; omega) | (have h9 := hP.ok.2.1; simp [maxLen]; omega)) fun Xo22_16_1 => ?_
        refine RA.first (i := 17) (ls' := #[true, true, true, true, true, true, true, true, true, true, true, true, true, true, true, true, true, true, false, false]) (Tell.c rfl rfl Tell.e) (by kernel_rfl) rfl rfl rfl (VF.p (V.nilP rfl rfl)) ?_
        refine RA.first (i := 18) (ls' := #[true, true, true, true, true, true, true, true, true, true, true, true, true, true, true, true, true, true, true, false]) (Tell.c rfl rfl Tell.e) (by kernel_rfl) rfl rfl rfl (VF.p (V.field rfl rfl rfl rfl (by decide) rfl)) ?_
        exact RA.to hall (RA.lr (ro22_11111111111111111110 Xo22_16_1 Xo22_1_1 Xo22_8_1) rfl rfl)
      have ro22_11111111011111110000 : ∀ (Xo22_1_1 : Value), RA [(11, b21, [.int .i64 eq_.num, .string eq_.text])] E B all 5 #[true, true, true, true, true, true, true, true, false, true, true, true, true, true, true, true, false, false, false, false] ⟨140, [(0, .obj (bo 0) [I z.state, I z.iss, I z.una, I z.rcv, S z.wait, I z.sent, I z.fin, Bo z.peerFin, S z.in_, .w (sl 2 Late.c z.late) X, Bo z.owe, I z.due, I z.times]), (8, I (r : Int)), (11, .obj b21 ((Late.c eq_).map .r)), (115, .pt 0 (bo 0) 0), (116, .w (sl 2 Late.c ([] : List Late)) Xo22_1_1), (122, .al 0 (some 9) 2 q X 0), (130, .al 0 (some 9) 2 (z.late.length - (q + 1)) X (q + 1))]⟩ K := by
       intro Xo22_1_1
       refine RA.of hall (RA.stepH (L := [8]) (Tell.c rfl rfl Tell.e) (by kernel_rfl) (by simp) (RA.each ?_ (RA.each0)))
       ·skip
        refine RO.appendSR (c := Late.c) (l1 := ([] : List Late)) (l2 := (z.late.take q)) rfl rfl rfl rfl rfl rfl rfl rfl rfl rfl (.takeO rfl rfl Late.len (by omega) nofun) (by decide) (Nat.le_of_ble_eq_true rfl) Late.len (fun _ => rfl) rfl (by first | (simp only [maxLen, List.length_singleton]; omega) | (have h9 := hP.ok.2.1; simp [maxLen]; omega)) (by first | (simp only [maxLen, List.length_singleton]; omega) | (have h9 := hP.ok.2.1; simp [maxLen]; omega)) fun Xo22_8_1 => ?_
        exact RA.to hall (RA.lr (ro22_11111111111111110000 Xo22_1_1 Xo22_8_1) rfl rfl)
      have ro22_11111111111101100000 : ∀ (Xo22_1_1 : Value), ∀ (Xo22_8_1 : Value), RA [(11, b21, [.int .i64 eq_.num, .string eq_.text])] E B all 6 #[true, true, true, true, true, true, true, true, true, true, true, true, false, true, true, false, false, false, false, false] ⟨140, [(0, .obj (bo 0) [I z.state, I z.iss, I z.una, I z.rcv, S z.wait, I z.sent, I z.fin, Bo z.peerFin, S z.in_, .w (sl 2 Late.c z.late) X, Bo z.owe, I z.due, I z.times]), (8, I (r : Int)), (11, .obj b21 ((Late.c eq_).map .r)), (115, .pt 0 (bo 0) 0), (123, .w (sl 2 Late.c (([] : List Late) ++ (z.late.take q))) Xo22_8_1), (126, .pt 0 (bo 0) 9), (129, I ((q + 1 : Nat) : Int))]⟩ K := by
       intro Xo22_1_1 Xo22_8_1
       refine RA.of hall (RA.stepH (L := [12]) (Tell.c rfl rfl Tell.e) (by kernel_rfl) (by simp) (RA.each ?_ (RA.each0)))
       ·skip
        refine RO.v rfl rfl (V.loadPrim (d := .al 0 (some 9) 2 z.late.length X 0) rfl rfl (.inr ⟨_, rfl⟩) rfl rfl rfl) rfl ?_
        refine RA.first (i := 15) (ls' := #[true, true, true, true, true, true, true, true, true, true, true, true, true, true, true, true, false, false, false, false]) (Tell.c rfl rfl Tell.e) (by kernel_rfl) rfl rfl rfl (VF.p (V.cutLo (m := (q + 1)) rfl rfl rfl rfl rfl (.o rfl rfl) rfl rfl hq1)) ?_
        exact RA.to hall (RA.lr (ro22_11111111111111110000 Xo22_1_1 Xo22_8_1) rfl rfl)
      have ro22_10111111011111110000 : RA [(11, b21, [.int .i64 eq_.num, .string eq_.text])] E B all 6 #[true, false, true, true, true, true, true, true, false, true, true, true, true, true, true, true, false, false, false, false] ⟨140, [(0, .obj (bo 0) [I z.state, I z.iss, I z.una, I z.rcv, S z.wait, I z.sent, I z.fin, Bo z.peerFin, S z.in_, .w (sl 2 Late.c z.late) X, Bo z.owe, I z.due, I z.times]), (8, I (r : Int)), (11, .obj b21 ((Late.c eq_).map .r)), (115, .pt 0 (bo 0) 0), (122, .al 0 (some 9) 2 q X 0), (130, .al 0 (some 9) 2 (z.late.length - (q + 1)) X (q + 1))]⟩ K := by
       refine RA.of hall (RA.stepH (L := [1]) (Tell.c rfl rfl Tell.e) (by kernel_rfl) (by simp) (RA.each ?_ (RA.each0)))
       ·skip
        refine RO.build0 Late.c rfl rfl rfl rfl rfl rfl rfl fun Xo22_1_1 => ?_
        exact RA.to hall (RA.lr (ro22_11111111011111110000 Xo22_1_1) rfl rfl)
      have ro22_11111010011111110000 : ∀ (Xo22_1_1 : Value), RA [(11, b21, [.int .i64 eq_.num, .string eq_.text])] E B all 7 #[true, true, true, true, true, false, true, false, false, true, true, true, true, true, true, true, false, false, false, false] ⟨140, [(0, .obj (bo 0) [I z.state, I z.iss, I z.una, I z.rcv, S z.wait, I z.sent, I z.fin, Bo z.peerFin, S z.in_, .w (sl 2 Late.c z.late) X, Bo z.owe, I z.due, I z.times]), (8, I (r : Int)), (11, .obj b21 ((Late.c eq_).map .r)), (115, .pt 0 (bo 0) 0), (116, .w (sl 2 Late.c ([] : List Late)) Xo22_1_1), (119, .pt 0 (bo 0) 9), (121, I (q : Int)), (130, .al 0 (some 9) 2 (z.late.length - (q + 1)) X (q + 1))]⟩ K := by
       intro Xo22_1_1
       refine RA.of hall (RA.stepH (L := [5]) (Tell.c rfl rfl Tell.e) (by kernel_rfl) (by simp) (RA.each ?_ (RA.each0)))
       ·skip
        refine RO.v rfl rfl (V.loadPrim (d := .al 0 (some 9) 2 z.late.length X 0) rfl rfl (.inr ⟨_, rfl⟩) rfl rfl rfl) rfl ?_
        refine RA.first (i := 7) (ls' := #[true, true, true, true, true, true, true, true, false, true, true, true, true, true, true, true, false, false, false, false]) (Tell.c rfl rfl Tell.e) (by kernel_rfl) rfl rfl rfl (VF.p (V.cutHi (m := q) rfl rfl rfl rfl rfl (.o rfl rfl) rfl (Nat.le_of_lt hq1))) ?_
        exact RA.to hall (RA.lr (ro22_11111111011111110000 Xo22_1_1) rfl rfl)
      have ro22_11111111011101100000 : ∀ (Xo22_1_1 : Value), RA [(11, b21, [.int .i64 eq_.num, .string eq_.text])] E B all 7 #[true, true, true, true, true, true, true, true, false, true, true, true, false, true, true, false, false, false, false, false] ⟨140, [(0, .obj (bo 0) [I z.state, I z.iss, I z.una, I z.rcv, S z.wait, I z.sent, I z.fin, Bo z.peerFin, S z.in_, .w (sl 2 Late.c z.late) X, Bo z.owe, I z.due, I z.times]), (8, I (r : Int)), (11, .obj b21 ((Late.c eq_).map .r)), (115, .pt 0 (bo 0) 0), (116, .w (sl 2 Late.c ([] : List Late)) Xo22_1_1), (122, .al 0 (some 9) 2 q X 0), (126, .pt 0 (bo 0) 9), (129, I ((q + 1 : Nat) : Int))]⟩ K := by
       intro Xo22_1_1
       refine RA.of hall (RA.stepH (L := [8, 12]) (Tell.c rfl rfl Tell.e) (by kernel_rfl) (by simp) (RA.each ?_ (RA.each ?_ (RA.each0))))
       ·skip
        refine RO.appendSR (c := Late.c) (l1 := ([] : List Late)) (l2 := (z.late.take q)) rfl rfl rfl rfl rfl rfl rfl rfl rfl rfl (.takeO rfl rfl Late.len (by omega) nofun) (by decide) (Nat.le_of_ble_eq_true rfl) Late.len (fun _ => rfl) rfl (by first | (simp only [maxLen, List.length_singleton]; omega) | (have h9 := hP.ok.2.1; simp [maxLen]; omega)) (by first | (simp only [maxLen, List.length_singleton]; omega) | (have h9 := hP.ok.2.1; simp [maxLen]; omega)) fun Xo22_8_1 => ?_
        exact RA.to hall (RA.lr (ro22_11111111111101100000 Xo22_1_1 Xo22_8_1) rfl rfl)
       ·skip
        refine RO.v rfl rfl (V.loadPrim (d := .al 0 (some 9) 2 z.late.length X 0) rfl rfl (.inr ⟨_, rfl⟩) rfl rfl rfl) rfl ?_
        refine RA.first (i := 15) (ls' := #[true, true, true, true, true, true, true, true, false, true, true, true, true, true, true, true, false, false, false, false]) (Tell.c rfl rfl Tell.e) (by kernel_rfl) rfl rfl rfl (VF.p (V.cutLo (m := (q + 1)) rfl rfl rfl rfl rfl (.o rfl rfl) rfl rfl hq1)) ?_
        exact RA.to hall (RA.lr (ro22_11111111011111110000 Xo22_1_1) rfl rfl)
      have ro22_10111010011111110000 : RA [(11, b21, [.int .i64 eq_.num, .string eq_.text])] E B all 8 #[true, false, true, true, true, false, true, false, false, true, true, true, true, true, true, true, false, false, false, false] ⟨140, [(0, .obj (bo 0) [I z.state, I z.iss, I z.una, I z.rcv, S z.wait, I z.sent, I z.fin, Bo z.peerFin, S z.in_, .w (sl 2 Late.c z.late) X, Bo z.owe, I z.due, I z.times]), (8, I (r : Int)), (11, .obj b21 ((Late.c eq_).map .r)), (115, .pt 0 (bo 0) 0), (119, .pt 0 (bo 0) 9), (121, I (q : Int)), (130, .al 0 (some 9) 2 (z.late.length - (q + 1)) X (q + 1))]⟩ K := by
       refine RA.of hall (RA.stepH (L := [1, 5]) (Tell.c rfl rfl Tell.e) (by kernel_rfl) (by simp) (RA.each ?_ (RA.each ?_ (RA.each0))))
       ·skip
        refine RO.build0 Late.c rfl rfl rfl rfl rfl rfl rfl fun Xo22_1_1 => ?_
        exact RA.to hall (RA.lr (ro22_11111010011111110000 Xo22_1_1) rfl rfl)
       ·skip
        refine RO.v rfl rfl (V.loadPrim (d := .al 0 (some 9) 2 z.late.length X 0) rfl rfl (.inr ⟨_, rfl⟩) rfl rfl rfl) rfl ?_
        refine RA.first (i := 7) (ls' := #[true, false, true, true, true, true, true, true, false, true, true, true, true, true, true, true, false, false, false, false]) (Tell.c rfl rfl Tell.e) (by kernel_rfl) rfl rfl rfl (VF.p (V.cutHi (m := q) rfl rfl rfl rfl rfl (.o rfl rfl) rfl (Nat.le_of_lt hq1))) ?_
        exact RA.to hall (RA.lr ro22_10111111011111110000 rfl rfl)
      have ro22_10111111011101100000 : RA [(11, b21, [.int .i64 eq_.num, .string eq_.text])] E B all 8 #[true, false, true, true, true, true, true, true, false, true, true, true, false, true, true, false, false, false, false, false] ⟨140, [(0, .obj (bo 0) [I z.state, I z.iss, I z.una, I z.rcv, S z.wait, I z.sent, I z.fin, Bo z.peerFin, S z.in_, .w (sl 2 Late.c z.late) X, Bo z.owe, I z.due, I z.times]), (8, I (r : Int)), (11, .obj b21 ((Late.c eq_).map .r)), (115, .pt 0 (bo 0) 0), (122, .al 0 (some 9) 2 q X 0), (126, .pt 0 (bo 0) 9), (129, I ((q + 1 : Nat) : Int))]⟩ K := by
       refine RA.of hall (RA.stepH (L := [1, 12]) (Tell.c rfl rfl Tell.e) (by kernel_rfl) (by simp) (RA.each ?_ (RA.each ?_ (RA.each0))))
       ·skip
        refine RO.build0 Late.c rfl rfl rfl rfl rfl rfl rfl fun Xo22_1_1 => ?_
        exact RA.to hall (RA.lr (ro22_11111111011101100000 Xo22_1_1) rfl rfl)
       ·skip
        refine RO.v rfl rfl (V.loadPrim (d := .al 0 (some 9) 2 z.late.length X 0) rfl rfl (.inr ⟨_, rfl⟩) rfl rfl rfl) rfl ?_
        refine RA.first (i := 15) (ls' := #[true, false, true, true, true, true, true, true, false, true, true, true, true, true, true, true, false, false, false, false]) (Tell.c rfl rfl Tell.e) (by kernel_rfl) rfl rfl rfl (VF.p (V.cutLo (m := (q + 1)) rfl rfl rfl rfl rfl (.o rfl rfl) rfl rfl hq1)) ?_
        exact RA.to hall (RA.lr ro22_10111111011111110000 rfl rfl)
      have ro22_11111010011101100000 : ∀ (Xo22_1_1 : Value), RA [(11, b21, [.int .i64 eq_.num, .string eq_.text])] E B all 9 #[true, true, true, true, true, false, true, false, false, true, true, true, false, true, true, false, false, false, false, false] ⟨140, [(0, .obj (bo 0) [I z.state, I z.iss, I z.una, I z.rcv, S z.wait, I z.sent, I z.fin, Bo z.peerFin, S z.in_, .w (sl 2 Late.c z.late) X, Bo z.owe, I z.due, I z.times]), (8, I (r : Int)), (11, .obj b21 ((Late.c eq_).map .r)), (115, .pt 0 (bo 0) 0), (116, .w (sl 2 Late.c ([] : List Late)) Xo22_1_1), (119, .pt 0 (bo 0) 9), (121, I (q : Int)), (126, .pt 0 (bo 0) 9), (129, I ((q + 1 : Nat) : Int))]⟩ K := by
       intro Xo22_1_1
       refine RA.of hall (RA.stepH (L := [5, 12]) (Tell.c rfl rfl Tell.e) (by kernel_rfl) (by simp) (RA.each ?_ (RA.each ?_ (RA.each0))))
       ·skip
        refine RO.v rfl rfl (V.loadPrim (d := .al 0 (some 9) 2 z.late.length X 0) rfl rfl (.inr ⟨_, rfl⟩) rfl rfl rfl) rfl ?_
        refine RA.first (i := 7) (ls' := #[true, true, true, true, true, true, true, true, false, true, true, true, false, true, true, false, false, false, false, false]) (Tell.c rfl rfl Tell.e) (by kernel_rfl) rfl rfl rfl (VF.p (V.cutHi (m := q) rfl rfl rfl rfl rfl (.o rfl rfl) rfl (Nat.le_of_lt hq1))) ?_
        exact RA.to hall (RA.lr (ro22_11111111011101100000 Xo22_1_1) rfl rfl)
       ·skip
        refine RO.v rfl rfl (V.loadPrim (d := .al 0 (some 9) 2 z.late.length X 0) rfl rfl (.inr ⟨_, rfl⟩) rfl rfl rfl) rfl ?_
        refine RA.first (i := 15) (ls' := #[true, true, true, true, true, false, true, false, false, true, true, true, true, true, true, true, false, false, false, false]) (Tell.c rfl rfl Tell.e) (by kernel_rfl) rfl rfl rfl (VF.p (V.cutLo (m := (q + 1)) rfl rfl rfl rfl rfl (.o rfl rfl) rfl rfl hq1)) ?_
        exact RA.to hall (RA.lr (ro22_11111010011111110000 Xo22_1_1) rfl rfl)
      have ro22_10111010011101100000 : RA [(11, b21, [.int .i64 eq_.num, .string eq_.text])] E B all 10 #[true, false, true, true, true, false, true, false, false, true, true, true, false, true, true, false, false, false, false, false] ⟨140, [(0, .obj (bo 0) [I z.state, I z.iss, I z.una, I z.rcv, S z.wait, I z.sent, I z.fin, Bo z.peerFin, S z.in_, .w (sl 2 Late.c z.late) X, Bo z.owe, I z.due, I z.times]), (8, I (r : Int)), (11, .obj b21 ((Late.c eq_).map .r)), (115, .pt 0 (bo 0) 0), (119, .pt 0 (bo 0) 9), (121, I (q : Int)), (126, .pt 0 (bo 0) 9), (129, I ((q + 1 : Nat) : Int))]⟩ K := by
       refine RA.of hall (RA.stepH (L := [1, 5, 12]) (Tell.c rfl rfl Tell.e) (by kernel_rfl) (by simp) (RA.each ?_ (RA.each ?_ (RA.each ?_ (RA.each0)))))
       ·skip
        refine RO.build0 Late.c rfl rfl rfl rfl rfl rfl rfl fun Xo22_1_1 => ?_
        exact RA.to hall (RA.lr (ro22_11111010011101100000 Xo22_1_1) rfl rfl)
       ·skip
        refine RO.v rfl rfl (V.loadPrim (d := .al 0 (some 9) 2 z.late.length X 0) rfl rfl (.inr ⟨_, rfl⟩) rfl rfl rfl) rfl ?_
        refine RA.first (i := 7) (ls' := #[true, false, true, true, true, true, true, true, false, true, true, true, false, true, true, false, false, false, false, false]) (Tell.c rfl rfl Tell.e) (by kernel_rfl) rfl rfl rfl (VF.p (V.cutHi (m := q) rfl rfl rfl rfl rfl (.o rfl rfl) rfl (Nat.le_of_lt hq1))) ?_
        exact RA.to hall (RA.lr ro22_10111111011101100000 rfl rfl)
       ·skip
        refine RO.v rfl rfl (V.loadPrim (d := .al 0 (some 9) 2 z.late.length X 0) rfl rfl (.inr ⟨_, rfl⟩) rfl rfl rfl) rfl ?_
        refine RA.first (i := 15) (ls' := #[true, false, true, true, true, false, true, false, false, true, true, true, true, true, true, true, false, false, false, false]) (Tell.c rfl rfl Tell.e) (by kernel_rfl) rfl rfl rfl (VF.p (V.cutLo (m := (q + 1)) rfl rfl rfl rfl rfl (.o rfl rfl) rfl rfl hq1)) ?_
        exact RA.to hall (RA.lr ro22_10111010011111110000 rfl rfl)
      have ro22_S : RA [(11, b21, [.int .i64 eq_.num, .string eq_.text])] E B all 20 #[false, false, false, false, false, false, false, false, false, false, false, false, false, false, false, false, false, false, false, false] ⟨140, [(0, .obj (bo 0) [I z.state, I z.iss, I z.una, I z.rcv, S z.wait, I z.sent, I z.fin, Bo z.peerFin, S z.in_, .w (sl 2 Late.c z.late) X, Bo z.owe, I z.due, I z.times]), (8, I (r : Int)), (9, I (q : Int)), (11, .obj b21 ((Late.c eq_).map .r))]⟩ K := by
       refine RA.of hall ?_
       refine RA.first (i := 0) (ls' := #[true, false, false, false, false, false, false, false, false, false, false, false, false, false, false, false, false, false, false, false]) (Tell.c rfl rfl Tell.e) (by kernel_rfl) rfl rfl rfl (VF.p (V.mv (d := .pt 0 (bo 0) 0) rfl rfl)) ?_
       refine RA.first (i := 2) (ls' := #[true, false, true, false, false, false, false, false, false, false, false, false, false, false, false, false, false, false, false, false]) (Tell.c rfl rfl Tell.e) (by kernel_rfl) rfl rfl rfl (VF.p (V.mv (d := .pt 0 (bo 0) 0) rfl rfl)) ?_
       refine RA.first (i := 3) (ls' := #[true, false, true, true, false, false, false, false, false, false, false, false, false, false, false, false, false, false, false, false]) (Tell.c rfl rfl Tell.e) (by kernel_rfl) rfl rfl rfl (VF.p (V.nilP rfl rfl)) ?_
       refine RA.first (i := 4) (ls' := #[true, false, true, true, true, false, false, false, false, false, false, false, false, false, false, false, false, false, false, false]) (Tell.c rfl rfl Tell.e) (by kernel_rfl) rfl rfl rfl (VF.p (V.field rfl rfl rfl rfl (by decide) rfl)) ?_
       refine RA.le [(0, .obj (bo 0) [I z.state, I z.iss, I z.una, I z.rcv, S z.wait, I z.sent, I z.fin, Bo z.peerFin, S z.in_, .w (sl 2 Late.c z.late) X, Bo z.owe, I z.due, I z.times]), (8, I (r : Int)), (9, I (q : Int)), (11, .obj b21 ((Late.c eq_).map .r)), (115, .pt 0 (bo 0) 0), (119, .pt 0 (bo 0) 9)] rfl (Le.of rfl) ?_
       refine RA.first (i := 6) (ls' := #[true, false, true, true, true, false, true, false, false, false, false, false, false, false, false, false, false, false, false, false]) (Tell.c rfl rfl Tell.e) (by kernel_rfl) rfl rfl rfl (VF.p (V.mv (d := I (q : Int)) rfl rfl)) ?_
       refine RA.first (i := 9) (ls' := #[true, false, true, true, true, false, true, false, false, true, false, false, false, false, false, false, false, false, false, false]) (Tell.c rfl rfl Tell.e) (by kernel_rfl) rfl rfl rfl (VF.p (V.mv (d := .pt 0 (bo 0) 0) rfl rfl)) ?_
       refine RA.first (i := 10) (ls' := #[true, false, true, true, true, false, true, false, false, true, true, false, false, false, false, false, false, false, false, false]) (Tell.c rfl rfl Tell.e) (by kernel_rfl) rfl rfl rfl (VF.p (V.nilP rfl rfl)) ?_
       refine RA.first (i := 11) (ls' := #[true, false, true, true, true, false, true, false, false, true, true, true, false, false, false, false, false, false, false, false]) (Tell.c rfl rfl Tell.e) (by kernel_rfl) rfl rfl rfl (VF.p (V.field rfl rfl rfl rfl (by decide) rfl)) ?_
       refine RA.le [(0, .obj (bo 0) [I z.state, I z.iss, I z.una, I z.rcv, S z.wait, I z.sent, I z.fin, Bo z.peerFin, S z.in_, .w (sl 2 Late.c z.late) X, Bo z.owe, I z.due, I z.times]), (8, I (r : Int)), (9, I (q : Int)), (11, .obj b21 ((Late.c eq_).map .r)), (115, .pt 0 (bo 0) 0), (119, .pt 0 (bo 0) 9), (121, I (q : Int)), (126, .pt 0 (bo 0) 9)] rfl (Le.of rfl) ?_
       refine RA.first (i := 13) (ls' := #[true, false, true, true, true, false, true, false, false, true, true, true, false, true, false, false, false, false, false, false]) (Tell.c rfl rfl Tell.e) (by kernel_rfl) rfl rfl rfl (VF.p (V.mv (d := I (q : Int)) rfl rfl)) ?_
       refine RA.first (i := 14) (ls' := #[true, false, true, true, true, false, true, false, false, true, true, true, false, true, true, false, false, false, false, false]) (Tell.c rfl rfl Tell.e) (by kernel_rfl) rfl rfl rfl (VF.p (V.inc rfl rfl rfl hq1 hl0)) ?_
       exact RA.to hall (RA.lr ro22_10111010011101100000 rfl rfl)
      exact RA.start (by kernel_rfl) (by kernel_rfl) (RA.lr ro22_S rfl rfl)
     ·rintro ⟨Xo22_16_1, Xo22_1_1, Xo22_8_1⟩
      refine CW.region ?_
      refine RW.v rfl (V.mv (d := .pt 0 (bo 0) 0) rfl rfl) ?_
      refine RW.v rfl (V.field rfl rfl rfl rfl (by decide) rfl) ?_
      refine RW.v rfl (V.loadPrim (d := I eq_.num) rfl rfl (.inl rfl) rfl rfl rfl) ?_
      refine RW.v rfl (V.field rfl rfl rfl rfl (by decide) rfl) ?_
      refine RW.v rfl (V.loadPrim (d := S eq_.text) rfl rfl (.inl rfl) rfl rfl rfl) ?_
      refine RW.callW (k := 0) (spec_l13Take_fn (⟨z.state, z.iss, z.una, z.rcv, z.wait, z.sent, z.fin, z.peerFin, z.in_, ((([] : List Late) ++ (z.late.take q)) ++ (z.late.drop (q + 1))), z.owe, z.due, z.times⟩ : Stream) eq_.num eq_.text (by have := hP.ok.1; show z.in_.size ≤ 100000; omega) (hP.ok.2.2 eq_ (List.mem_of_getElem? heq))) rfl rfl (Nat.le_of_ble_eq_true rfl) (by decide) (.here (AsW.ob (DT.v (DT.v (DT.v (DT.v (DT.v (DT.v (DT.v (DT.v (DT.v (DT.w (DT.v (DT.v (DT.v DT.e))))))))))))) rfl) (.cons (.one (.r .r)) (.cons (.one (.r .r)) (.nil)))) rfl fun g23 q24 => ?_
      refine RW.nil ?_
      refine CW.le [(0, .obj (bo 0) [I ((takeN (⟨z.state, z.iss, z.una, z.rcv, z.wait, z.sent, z.fin, z.peerFin, z.in_, ((([] : List Late) ++ (z.late.take q)) ++ (z.late.drop (q + 1))), z.owe, z.due, z.times⟩ : Stream) eq_.num eq_.text).state), I ((takeN (⟨z.state, z.iss, z.una, z.rcv, z.wait, z.sent, z.fin, z.peerFin, z.in_, ((([] : List Late) ++ (z.late.take q)) ++ (z.late.drop (q + 1))), z.owe, z.due, z.times⟩ : Stream) eq_.num eq_.text).iss), I ((takeN (⟨z.state, z.iss, z.una, z.rcv, z.wait, z.sent, z.fin, z.peerFin, z.in_, ((([] : List Late) ++ (z.late.take q)) ++ (z.late.drop (q + 1))), z.owe, z.due, z.times⟩ : Stream) eq_.num eq_.text).una), I ((takeN (⟨z.state, z.iss, z.una, z.rcv, z.wait, z.sent, z.fin, z.peerFin, z.in_, ((([] : List Late) ++ (z.late.take q)) ++ (z.late.drop (q + 1))), z.owe, z.due, z.times⟩ : Stream) eq_.num eq_.text).rcv), S ((takeN (⟨z.state, z.iss, z.una, z.rcv, z.wait, z.sent, z.fin, z.peerFin, z.in_, ((([] : List Late) ++ (z.late.take q)) ++ (z.late.drop (q + 1))), z.owe, z.due, z.times⟩ : Stream) eq_.num eq_.text).wait), I ((takeN (⟨z.state, z.iss, z.una, z.rcv, z.wait, z.sent, z.fin, z.peerFin, z.in_, ((([] : List Late) ++ (z.late.take q)) ++ (z.late.drop (q + 1))), z.owe, z.due, z.times⟩ : Stream) eq_.num eq_.text).sent), I ((takeN (⟨z.state, z.iss, z.una, z.rcv, z.wait, z.sent, z.fin, z.peerFin, z.in_, ((([] : List Late) ++ (z.late.take q)) ++ (z.late.drop (q + 1))), z.owe, z.due, z.times⟩ : Stream) eq_.num eq_.text).fin), Bo ((takeN (⟨z.state, z.iss, z.una, z.rcv, z.wait, z.sent, z.fin, z.peerFin, z.in_, ((([] : List Late) ++ (z.late.take q)) ++ (z.late.drop (q + 1))), z.owe, z.due, z.times⟩ : Stream) eq_.num eq_.text).peerFin), S ((takeN (⟨z.state, z.iss, z.una, z.rcv, z.wait, z.sent, z.fin, z.peerFin, z.in_, ((([] : List Late) ++ (z.late.take q)) ++ (z.late.drop (q + 1))), z.owe, z.due, z.times⟩ : Stream) eq_.num eq_.text).in_), .w (sl 2 Late.c ((takeN (⟨z.state, z.iss, z.una, z.rcv, z.wait, z.sent, z.fin, z.peerFin, z.in_, ((([] : List Late) ++ (z.late.take q)) ++ (z.late.drop (q + 1))), z.owe, z.due, z.times⟩ : Stream) eq_.num eq_.text).late)) (q24 9), Bo ((takeN (⟨z.state, z.iss, z.una, z.rcv, z.wait, z.sent, z.fin, z.peerFin, z.in_, ((([] : List Late) ++ (z.late.take q)) ++ (z.late.drop (q + 1))), z.owe, z.due, z.times⟩ : Stream) eq_.num eq_.text).owe), I ((takeN (⟨z.state, z.iss, z.una, z.rcv, z.wait, z.sent, z.fin, z.peerFin, z.in_, ((([] : List Late) ++ (z.late.take q)) ++ (z.late.drop (q + 1))), z.owe, z.due, z.times⟩ : Stream) eq_.num eq_.text).due), I ((takeN (⟨z.state, z.iss, z.una, z.rcv, z.wait, z.sent, z.fin, z.peerFin, z.in_, ((([] : List Late) ++ (z.late.take q)) ++ (z.late.drop (q + 1))), z.owe, z.due, z.times⟩ : Stream) eq_.num eq_.text).times)]), (8, I (r : Int))] rfl (Le.of rfl) ?_
      refine CW.region ?_
      refine RW.v rfl (V.mv (d := I (r : Int)) rfl rfl) ?_
      refine RW.v rfl (V.inc rfl rfl rfl hr9 (by simp only [maxLen]; omega)) ?_
      refine RW.v rfl (V.as (d := I ((r + 1 : Nat) : Int)) rfl rfl) ?_
      refine RW.nil ?_
      exact ⟨(r + 1, (takeN (⟨z.state, z.iss, z.una, z.rcv, z.wait, z.sent, z.fin, z.peerFin, z.in_, ((([] : List Late) ++ (z.late.take q)) ++ (z.late.drop (q + 1))), z.owe, z.due, z.times⟩ : Stream) eq_.num eq_.text), _), by simp only []; omega, (hP.go hr9 hfq heq), rfl, Le.c rfl <| Le.c rfl <| Le.e⟩
  ·skip
   have hge : 9 ≤ r := by simp at h17; omega
   refine CW.exit ?_
   exact Post.tup (by decide) RVs.e (AOs.obE (f := fun e => (Stream.c e).map .w) (e' := z) rfl (DT.v (DT.v (DT.v (DT.v (DT.v (DT.v (DT.v (DT.v (DT.v (DT.w (DT.v (DT.v (DT.v DT.e))))))))))))) (by rw [partT_pre, ← hy]; exact hP.fin hge) (AOs.r (AOs.r AOs.e)))
set_option maxHeartbeats 4000000 in
theorem spec_l13Heard_fn (x : Stream) (s : Seg) (hx : sentOk x) (hp : partIn x) (hs : segOk s = true) : Eng.Fn E.P 46 [.ob ((Stream.c x).map .w), .agg ((Seg.c s).map .r)] (.tup []) [.ob ((Stream.c (heardN x s)).map .w), .agg ((Seg.c s).map .r)] := by
 refine Eng.Fn.intro (E := E) (rvs := []) Try.func46 rfl rfl rfl (by simp [outSlots, moved, rvSlot, sl]) ?_
 intro B g bo
 refine CW.le [(0, .obj (bo 0) [I x.state, I x.iss, I x.una, I x.rcv, S x.wait, I x.sent, I x.fin, Bo x.peerFin, S x.in_, .w (sl 2 Late.c x.late) (g 0 9), Bo x.owe, I x.due, I x.times]), (1, .agg ((Seg.c s).map .r))] rfl (Le.of rfl) ?_
 refine CW.seq ?_
 refine CW.region ?_
 refine RW.box (ds := ((Seg.c s).map .r)) rfl rfl rfl fun b1 => ?_
 refine RW.nil ?_
 refine CW.le [(0, .obj (bo 0) [I x.state, I x.iss, I x.una, I x.rcv, S x.wait, I x.sent, I x.fin, Bo x.peerFin, S x.in_, .w (sl 2 Late.c x.late) (g 0 9), Bo x.owe, I x.due, I x.times]), (3, .obj b1 ((Seg.c s).map .r))] rfl (Le.of rfl) ?_
 refine CW.seq ?_
 refine CW.seq ?_
 refine CW.region ?_
 refine RW.v rfl (V.loadAgg rfl rfl rfl rfl rfl (Nat.le_of_ble_eq_true rfl)) ?_
 refine RW.call rfl (spec_l12Has_fn s 1 (by decide)) rfl (.cons (.agg (.cons (.r .r) (.cons (.r .r) (.cons (.r .r) (.cons (.r .r) (.nil)))))) (.cons (.one (.r .r)) (.nil))) fun g2 => ?_
 refine RW.nil ?_
 refine CW.le [(0, .obj (bo 0) [I x.state, I x.iss, I x.una, I x.rcv, S x.wait, I x.sent, I x.fin, Bo x.peerFin, S x.in_, .w (sl 2 Late.c x.late) (g 0 9), Bo x.owe, I x.due, I x.times]), (3, .obj b1 ((Seg.c s).map .r)), (5, Bo (hasB s.flags 1))] rfl (Le.of rfl) ?_
 refine CW.cond rfl (fun h3 => ?_) (fun h3 => ?_)
 ·skip
  refine CW.seq ?_
  refine CW.region ?_
  refine RW.v rfl (V.mv (d := .pt 0 (bo 0) 0) rfl rfl) ?_
  refine RW.v rfl (V.nilP rfl rfl) ?_
  refine RW.v rfl (V.field rfl rfl rfl rfl (by decide) rfl) ?_
  refine RW.store (d := Bo true) rfl rfl rfl rfl rfl rfl rfl (Nat.le_of_ble_eq_true rfl) rfl rfl ?_
  refine RW.nil ?_
  refine CW.le [(0, .obj (bo 0) [I x.state, I x.iss, I x.una, I x.rcv, S x.wait, I x.sent, I x.fin, Bo x.peerFin, S x.in_, .w (sl 2 Late.c x.late) (g 0 9), Bo true, I x.due, I x.times])] rfl (Le.of rfl) ?_
  refine CW.ret ?_
  exact Post.tup (by decide) RVs.e (AOs.obE (f := fun e => (Stream.c e).map .w) (e' := (⟨x.state, x.iss, x.una, x.rcv, x.wait, x.sent, x.fin, x.peerFin, x.in_, x.late, true, x.due, x.times⟩ : Stream)) rfl (DT.v (DT.v (DT.v (DT.v (DT.v (DT.v (DT.v (DT.v (DT.v (DT.w (DT.v (DT.v (DT.v DT.e))))))))))))) (by unfold heardN hearOpenN finN emp partN; first | (simp_all; done) | grind) (AOs.a rfl AOs.e))
 ·skip
  refine CW.skip ?_
  refine CW.le [(0, .obj (bo 0) [I x.state, I x.iss, I x.una, I x.rcv, S x.wait, I x.sent, I x.fin, Bo x.peerFin, S x.in_, .w (sl 2 Late.c x.late) (g 0 9), Bo x.owe, I x.due, I x.times]), (3, .obj b1 ((Seg.c s).map .r))] rfl (Le.of rfl) ?_
  refine CW.seq ?_
  refine CW.seq ?_
  refine CW.region ?_
  refine RW.v rfl (V.loadAgg rfl rfl rfl rfl rfl (Nat.le_of_ble_eq_true rfl)) ?_
  refine RW.call rfl (spec_l12Has_fn s 2 (by decide)) rfl (.cons (.agg (.cons (.r .r) (.cons (.r .r) (.cons (.r .r) (.cons (.r .r) (.nil)))))) (.cons (.one (.r .r)) (.nil))) fun g4 => ?_
  refine RW.nil ?_
  refine CW.le [(0, .obj (bo 0) [I x.state, I x.iss, I x.una, I x.rcv, S x.wait, I x.sent, I x.fin, Bo x.peerFin, S x.in_, .w (sl 2 Late.c x.late) (g 0 9), Bo x.owe, I x.due, I x.times]), (3, .obj b1 ((Seg.c s).map .r)), (10, Bo (hasB s.flags 2))] rfl (Le.of rfl) ?_
  refine CW.cond rfl (fun h5 => ?_) (fun h5 => ?_)
  ·skip
   refine CW.region ?_
   refine RW.v rfl (V.mv (d := .pt 0 (bo 0) 0) rfl rfl) ?_
   refine RW.v rfl (V.field rfl rfl rfl rfl (by decide) rfl) ?_
   refine RW.v rfl (V.loadPrim (d := I s.ack) rfl rfl (.inl rfl) rfl rfl rfl) ?_
   refine RW.callW (k := 0) (spec_l13Ack_fn x s.ack hx) rfl rfl (Nat.le_of_ble_eq_true rfl) (by decide) (.here (AsW.ob (DT.v (DT.v (DT.v (DT.v (DT.v (DT.v (DT.v (DT.v (DT.v (DT.w (DT.v (DT.v (DT.v DT.e))))))))))))) rfl) (.cons (.one (.r .r)) (.nil))) rfl fun g6 q7 => ?_
   refine RW.nil ?_
   refine CW.le [(0, .obj (bo 0) [I ((ackedN x s.ack).state), I ((ackedN x s.ack).iss), I ((ackedN x s.ack).una), I ((ackedN x s.ack).rcv), S ((ackedN x s.ack).wait), I ((ackedN x s.ack).sent), I ((ackedN x s.ack).fin), Bo ((ackedN x s.ack).peerFin), S ((ackedN x s.ack).in_), .w (sl 2 Late.c ((ackedN x s.ack).late)) (q7 9), Bo ((ackedN x s.ack).owe), I ((ackedN x s.ack).due), I ((ackedN x s.ack).times)]), (3, .obj b1 ((Seg.c s).map .r))] rfl (Le.of rfl) ?_
   refine CW.seq ?_
   refine CW.seq ?_
   refine CW.region ?_
   refine RW.v rfl (V.field rfl rfl rfl rfl (by decide) rfl) ?_
   refine RW.v rfl (V.loadPrim (d := S s.body) rfl rfl (.inl rfl) rfl rfl rfl) ?_
   refine RW.v rfl (V.strCmp rfl rfl rfl rfl) ?_
   refine RW.nil ?_
   refine CW.le [(0, .obj (bo 0) [I ((ackedN x s.ack).state), I ((ackedN x s.ack).iss), I ((ackedN x s.ack).una), I ((ackedN x s.ack).rcv), S ((ackedN x s.ack).wait), I ((ackedN x s.ack).sent), I ((ackedN x s.ack).fin), Bo ((ackedN x s.ack).peerFin), S ((ackedN x s.ack).in_), .w (sl 2 Late.c ((ackedN x s.ack).late)) (q7 9), Bo ((ackedN x s.ack).owe), I ((ackedN x s.ack).due), I ((ackedN x s.ack).times)]), (3, .obj b1 ((Seg.c s).map .r)), (17, Bo (!(s.body.toList == (⟨#[]⟩ : ByteArray).toList)))] rfl (Le.of rfl) ?_
   refine CW.cond rfl (fun h8 => ?_) (fun h8 => ?_)
   ·skip
    refine CW.region ?_
    refine RW.v rfl (V.mv (d := .pt 0 (bo 0) 0) rfl rfl) ?_
    refine RW.v rfl (V.field rfl rfl rfl rfl (by decide) rfl) ?_
    refine RW.v rfl (V.loadPrim (d := I s.num) rfl rfl (.inl rfl) rfl rfl rfl) ?_
    refine RW.v rfl (V.field rfl rfl rfl rfl (by decide) rfl) ?_
    refine RW.v rfl (V.loadPrim (d := S s.body) rfl rfl (.inl rfl) rfl rfl rfl) ?_
    refine RW.callW (k := 0) (spec_l13Body_fn (ackedN x s.ack) s.num s.body (by first | exact hp | exact ackedN_part hp _) (segOk_body hs)) rfl rfl (Nat.le_of_ble_eq_true rfl) (by decide) (.here (AsW.ob (DT.v (DT.v (DT.v (DT.v (DT.v (DT.v (DT.v (DT.v (DT.v (DT.w (DT.v (DT.v (DT.v DT.e))))))))))))) rfl) (.cons (.one (.r .r)) (.cons (.one (.r .r)) (.nil)))) rfl fun g9 q10 => ?_
    refine RW.nil ?_
    refine CW.le [(0, .obj (bo 0) [I ((partT { (ackedN x s.ack) with owe := true } s.num s.body).state), I ((partT { (ackedN x s.ack) with owe := true } s.num s.body).iss), I ((partT { (ackedN x s.ack) with owe := true } s.num s.body).una), I ((partT { (ackedN x s.ack) with owe := true } s.num s.body).rcv), S ((partT { (ackedN x s.ack) with owe := true } s.num s.body).wait), I ((partT { (ackedN x s.ack) with owe := true } s.num s.body).sent), I ((partT { (ackedN x s.ack) with owe := true } s.num s.body).fin), Bo ((partT { (ackedN x s.ack) with owe := true } s.num s.body).peerFin), S ((partT { (ackedN x s.ack) with owe := true } s.num s.body).in_), .w (sl 2 Late.c ((partT { (ackedN x s.ack) with owe := true } s.num s.body).late)) (q10 9), Bo ((partT { (ackedN x s.ack) with owe := true } s.num s.body).owe), I ((partT { (ackedN x s.ack) with owe := true } s.num s.body).due), I ((partT { (ackedN x s.ack) with owe := true } s.num s.body).times)]), (3, .obj b1 ((Seg.c s).map .r))] rfl (Le.of rfl) ?_
    refine CW.seq ?_
    refine CW.region ?_
    refine RW.v rfl (V.loadAgg rfl rfl rfl rfl rfl (Nat.le_of_ble_eq_true rfl)) ?_
    refine RW.call rfl (spec_l12Has_fn s 4 (by decide)) rfl (.cons (.agg (.cons (.r .r) (.cons (.r .r) (.cons (.r .r) (.cons (.r .r) (.nil)))))) (.cons (.one (.r .r)) (.nil))) fun g11 => ?_
    refine RW.nil ?_
    refine CW.le [(0, .obj (bo 0) [I ((partT { (ackedN x s.ack) with owe := true } s.num s.body).state), I ((partT { (ackedN x s.ack) with owe := true } s.num s.body).iss), I ((partT { (ackedN x s.ack) with owe := true } s.num s.body).una), I ((partT { (ackedN x s.ack) with owe := true } s.num s.body).rcv), S ((partT { (ackedN x s.ack) with owe := true } s.num s.body).wait), I ((partT { (ackedN x s.ack) with owe := true } s.num s.body).sent), I ((partT { (ackedN x s.ack) with owe := true } s.num s.body).fin), Bo ((partT { (ackedN x s.ack) with owe := true } s.num s.body).peerFin), S ((partT { (ackedN x s.ack) with owe := true } s.num s.body).in_), .w (sl 2 Late.c ((partT { (ackedN x s.ack) with owe := true } s.num s.body).late)) (q10 9), Bo ((partT { (ackedN x s.ack) with owe := true } s.num s.body).owe), I ((partT { (ackedN x s.ack) with owe := true } s.num s.body).due), I ((partT { (ackedN x s.ack) with owe := true } s.num s.body).times)]), (3, .obj b1 ((Seg.c s).map .r)), (25, Bo (hasB s.flags 4))] rfl (Le.of rfl) ?_
    refine CW.cond rfl (fun h12 => ?_) (fun h12 => ?_)
    ·skip
     refine CW.seq ?_
     refine CW.region ?_
     refine RW.v rfl (V.mv (d := .pt 0 (bo 0) 0) rfl rfl) ?_
     refine RW.v rfl (V.nilP rfl rfl) ?_
     refine RW.v rfl (V.field rfl rfl rfl rfl (by decide) rfl) ?_
     refine RW.store (d := Bo true) rfl rfl rfl rfl rfl rfl rfl (Nat.le_of_ble_eq_true rfl) rfl rfl ?_
     refine RW.nil ?_
     refine CW.le [(0, .obj (bo 0) [I ((partT { (ackedN x s.ack) with owe := true } s.num s.body).state), I ((partT { (ackedN x s.ack) with owe := true } s.num s.body).iss), I ((partT { (ackedN x s.ack) with owe := true } s.num s.body).una), I ((partT { (ackedN x s.ack) with owe := true } s.num s.body).rcv), S ((partT { (ackedN x s.ack) with owe := true } s.num s.body).wait), I ((partT { (ackedN x s.ack) with owe := true } s.num s.body).sent), I ((partT { (ackedN x s.ack) with owe := true } s.num s.body).fin), Bo ((partT { (ackedN x s.ack) with owe := true } s.num s.body).peerFin), S ((partT { (ackedN x s.ack) with owe := true } s.num s.body).in_), .w (sl 2 Late.c ((partT { (ackedN x s.ack) with owe := true } s.num s.body).late)) (q10 9), Bo true, I ((partT { (ackedN x s.ack) with owe := true } s.num s.body).due), I ((partT { (ackedN x s.ack) with owe := true } s.num s.body).times)]), (3, .obj b1 ((Seg.c s).map .r))] rfl (Le.of rfl) ?_
     refine CW.seqJ 58 (fun (v13 : Bool) => [(0, .obj (bo 0) [I ((partT { (ackedN x s.ack) with owe := true } s.num s.body).state), I ((partT { (ackedN x s.ack) with owe := true } s.num s.body).iss), I ((partT { (ackedN x s.ack) with owe := true } s.num s.body).una), I ((partT { (ackedN x s.ack) with owe := true } s.num s.body).rcv), S ((partT { (ackedN x s.ack) with owe := true } s.num s.body).wait), I ((partT { (ackedN x s.ack) with owe := true } s.num s.body).sent), I ((partT { (ackedN x s.ack) with owe := true } s.num s.body).fin), Bo ((partT { (ackedN x s.ack) with owe := true } s.num s.body).peerFin), S ((partT { (ackedN x s.ack) with owe := true } s.num s.body).in_), .w (sl 2 Late.c ((partT { (ackedN x s.ack) with owe := true } s.num s.body).late)) (q10 9), Bo true, I ((partT { (ackedN x s.ack) with owe := true } s.num s.body).due), I ((partT { (ackedN x s.ack) with owe := true } s.num s.body).times)]), (46, Bo v13)]) (fun v13 => v13 = (((addNum s.num (s.body.size : Int)) == (partT { (ackedN x s.ack) with owe := true } s.num s.body).rcv) && (!(partT { (ackedN x s.ack) with owe := true } s.num s.body).peerFin))) ?_ ?_
     ·refine CW.drawn (by kernel_rfl) ?_
      refine RQ.v rfl (V.field rfl rfl rfl rfl (by decide) rfl) ?_
      refine RQ.v rfl (V.loadPrim (d := I s.num) rfl rfl (.inl rfl) rfl rfl rfl) ?_
      refine RQ.v rfl (V.field rfl rfl rfl rfl (by decide) rfl) ?_
      refine RQ.v rfl (V.loadPrim (d := S s.body) rfl rfl (.inl rfl) rfl rfl rfl) ?_
      refine RQ.v rfl (V.lenStr rfl (by kernel_rfl) rfl) ?_
      refine RQ.cons rfl (QOK.call (spec_AddNum_fn s.num (s.body.size : Int)) rfl (.cons (.one (.r .r)) (.cons (.one (.r .r)) (.nil))) ?_)
      refine RQ.v rfl (V.mv (d := .pt 0 (bo 0) 0) rfl rfl) ?_
      refine RQ.v rfl (V.nilP rfl rfl) ?_
      refine RQ.v rfl (V.field rfl rfl rfl rfl (by decide) rfl) ?_
      refine RQ.v rfl (V.loadPrim (d := I ((partT { (ackedN x s.ack) with owe := true } s.num s.body).rcv)) rfl rfl (.inl rfl) rfl rfl rfl) ?_
      refine RQ.v rfl (V.cmpInt rfl rfl rfl rfl) ?_
      refine RQ.v rfl (V.mv (d := Bo ((addNum s.num (s.body.size : Int)) == (partT { (ackedN x s.ack) with owe := true } s.num s.body).rcv)) rfl rfl) ?_
      refine RQ.gv rfl rfl rfl rfl (fun h14 => V.mv (d := .pt 0 (bo 0) 0) rfl rfl) (fun h14 => ?_) (fun h14 => ?_)
      ·skip
       refine RQ.gt rfl rfl rfl rfl (V.nilP rfl rfl) ?_
       refine RQ.gt rfl rfl rfl rfl (V.field rfl rfl rfl rfl (by decide) rfl) ?_
       refine RQ.gt rfl rfl rfl rfl (V.loadPrim (d := Bo ((partT { (ackedN x s.ack) with owe := true } s.num s.body).peerFin)) rfl rfl (.inl rfl) rfl rfl rfl) ?_
       refine RQ.gt rfl rfl rfl rfl (V.not rfl rfl) ?_
       refine RQ.v rfl (V.pickT (d := Bo (!(partT { (ackedN x s.ack) with owe := true } s.num s.body).peerFin)) rfl rfl rfl) ?_
       refine RQ.nil ?_
       exact ⟨_, by first | rfl | (simp_all; done) | (simp_all; omega) | grind, rfl, Le.c rfl <| Le.c rfl <| Le.e⟩
      ·skip
       refine RQ.guardF rfl rfl rfl rfl ?_
       refine RQ.guardF rfl rfl rfl rfl ?_
       refine RQ.guardF rfl rfl rfl rfl ?_
       refine RQ.guardF rfl rfl rfl rfl ?_
       refine RQ.v rfl (V.pickF (d := Bo false) rfl rfl rfl) ?_
       refine RQ.nil ?_
       exact ⟨_, by first | rfl | (simp_all; done) | (simp_all; omega) | grind, rfl, Le.c rfl <| Le.c rfl <| Le.e⟩
     ·intro v13 hv15
      refine CW.cond rfl (fun h16 => ?_) (fun h16 => ?_)
      ·skip
       refine CW.seq ?_
       refine CW.region ?_
       refine RW.v rfl (V.mv (d := .pt 0 (bo 0) 0) rfl rfl) ?_
       refine RW.v rfl (V.nilP rfl rfl) ?_
       refine RW.v rfl (V.field rfl rfl rfl rfl (by decide) rfl) ?_
       refine RW.store (d := Bo true) rfl rfl rfl rfl rfl rfl rfl (Nat.le_of_ble_eq_true rfl) rfl rfl ?_
       refine RW.nil ?_
       refine CW.le [(0, .obj (bo 0) [I ((partT { (ackedN x s.ack) with owe := true } s.num s.body).state), I ((partT { (ackedN x s.ack) with owe := true } s.num s.body).iss), I ((partT { (ackedN x s.ack) with owe := true } s.num s.body).una), I ((partT { (ackedN x s.ack) with owe := true } s.num s.body).rcv), S ((partT { (ackedN x s.ack) with owe := true } s.num s.body).wait), I ((partT { (ackedN x s.ack) with owe := true } s.num s.body).sent), I ((partT { (ackedN x s.ack) with owe := true } s.num s.body).fin), Bo true, S ((partT { (ackedN x s.ack) with owe := true } s.num s.body).in_), .w (sl 2 Late.c ((partT { (ackedN x s.ack) with owe := true } s.num s.body).late)) (q10 9), Bo true, I ((partT { (ackedN x s.ack) with owe := true } s.num s.body).due), I ((partT { (ackedN x s.ack) with owe := true } s.num s.body).times)])] rfl (Le.of rfl) ?_
       refine CW.region ?_
       refine RW.v rfl (V.mv (d := .pt 0 (bo 0) 0) rfl rfl) ?_
       refine RW.v rfl (V.mv (d := .pt 0 (bo 0) 0) rfl rfl) ?_
       refine RW.v rfl (V.nilP rfl rfl) ?_
       refine RW.v rfl (V.field rfl rfl rfl rfl (by decide) rfl) ?_
       refine RW.v rfl (V.loadPrim (d := I ((partT { (ackedN x s.ack) with owe := true } s.num s.body).rcv)) rfl rfl (.inl rfl) rfl rfl rfl) ?_
       refine RW.call rfl (spec_AddNum_fn ((partT { (ackedN x s.ack) with owe := true } s.num s.body).rcv) 1) rfl (.cons (.one (.r .r)) (.cons (.one (.r .r)) (.nil))) fun g17 => ?_
       refine RW.v rfl (V.nilP rfl rfl) ?_
       refine RW.v rfl (V.field rfl rfl rfl rfl (by decide) rfl) ?_
       refine RW.store (d := I (addNum ((partT { (ackedN x s.ack) with owe := true } s.num s.body).rcv) 1)) rfl rfl rfl rfl rfl rfl rfl (Nat.le_of_ble_eq_true rfl) rfl rfl ?_
       refine RW.nil ?_
       exact Post.tup (by decide) RVs.e (AOs.obE (f := fun e => (Stream.c e).map .w) (e' := (⟨(partT { (ackedN x s.ack) with owe := true } s.num s.body).state, (partT { (ackedN x s.ack) with owe := true } s.num s.body).iss, (partT { (ackedN x s.ack) with owe := true } s.num s.body).una, (addNum ((partT { (ackedN x s.ack) with owe := true } s.num s.body).rcv) 1), (partT { (ackedN x s.ack) with owe := true } s.num s.body).wait, (partT { (ackedN x s.ack) with owe := true } s.num s.body).sent, (partT { (ackedN x s.ack) with owe := true } s.num s.body).fin, true, (partT { (ackedN x s.ack) with owe := true } s.num s.body).in_, (partT { (ackedN x s.ack) with owe := true } s.num s.body).late, true, (partT { (ackedN x s.ack) with owe := true } s.num s.body).due, (partT { (ackedN x s.ack) with owe := true } s.num s.body).times⟩ : Stream)) rfl (DT.v (DT.v (DT.v (DT.v (DT.v (DT.v (DT.v (DT.v (DT.v (DT.w (DT.v (DT.v (DT.v DT.e))))))))))))) (by unfold heardN hearOpenN finN emp partN; first | (simp_all; done) | grind) (AOs.a rfl AOs.e))
      ·skip
       refine CW.skip ?_
       exact Post.tup (by decide) RVs.e (AOs.obE (f := fun e => (Stream.c e).map .w) (e' := (⟨(partT { (ackedN x s.ack) with owe := true } s.num s.body).state, (partT { (ackedN x s.ack) with owe := true } s.num s.body).iss, (partT { (ackedN x s.ack) with owe := true } s.num s.body).una, (partT { (ackedN x s.ack) with owe := true } s.num s.body).rcv, (partT { (ackedN x s.ack) with owe := true } s.num s.body).wait, (partT { (ackedN x s.ack) with owe := true } s.num s.body).sent, (partT { (ackedN x s.ack) with owe := true } s.num s.body).fin, (partT { (ackedN x s.ack) with owe := true } s.num s.body).peerFin, (partT { (ackedN x s.ack) with owe := true } s.num s.body).in_, (partT { (ackedN x s.ack) with owe := true } s.num s.body).late, true, (partT { (ackedN x s.ack) with owe := true } s.num s.body).due, (partT { (ackedN x s.ack) with owe := true } s.num s.body).times⟩ : Stream)) rfl (DT.v (DT.v (DT.v (DT.v (DT.v (DT.v (DT.v (DT.v (DT.v (DT.w (DT.v (DT.v (DT.v DT.e))))))))))))) (by unfold heardN hearOpenN finN emp partN; first | (simp_all; done) | grind) (AOs.a rfl AOs.e))
    ·skip
     refine CW.skip ?_
     exact Post.tup (by decide) RVs.e (AOs.obE (f := fun e => (Stream.c e).map .w) (e' := (partT { (ackedN x s.ack) with owe := true } s.num s.body)) rfl (DT.v (DT.v (DT.v (DT.v (DT.v (DT.v (DT.v (DT.v (DT.v (DT.w (DT.v (DT.v (DT.v DT.e))))))))))))) (by unfold heardN hearOpenN finN emp partN; first | (simp_all; done) | grind) (AOs.a rfl AOs.e))
   ·skip
    refine CW.skip ?_
    refine CW.le [(0, .obj (bo 0) [I ((ackedN x s.ack).state), I ((ackedN x s.ack).iss), I ((ackedN x s.ack).una), I ((ackedN x s.ack).rcv), S ((ackedN x s.ack).wait), I ((ackedN x s.ack).sent), I ((ackedN x s.ack).fin), Bo ((ackedN x s.ack).peerFin), S ((ackedN x s.ack).in_), .w (sl 2 Late.c ((ackedN x s.ack).late)) (q7 9), Bo ((ackedN x s.ack).owe), I ((ackedN x s.ack).due), I ((ackedN x s.ack).times)]), (3, .obj b1 ((Seg.c s).map .r))] rfl (Le.of rfl) ?_
    refine CW.seq ?_
    refine CW.region ?_
    refine RW.v rfl (V.loadAgg rfl rfl rfl rfl rfl (Nat.le_of_ble_eq_true rfl)) ?_
    refine RW.call rfl (spec_l12Has_fn s 4 (by decide)) rfl (.cons (.agg (.cons (.r .r) (.cons (.r .r) (.cons (.r .r) (.cons (.r .r) (.nil)))))) (.cons (.one (.r .r)) (.nil))) fun g18 => ?_
    refine RW.nil ?_
    refine CW.le [(0, .obj (bo 0) [I ((ackedN x s.ack).state), I ((ackedN x s.ack).iss), I ((ackedN x s.ack).una), I ((ackedN x s.ack).rcv), S ((ackedN x s.ack).wait), I ((ackedN x s.ack).sent), I ((ackedN x s.ack).fin), Bo ((ackedN x s.ack).peerFin), S ((ackedN x s.ack).in_), .w (sl 2 Late.c ((ackedN x s.ack).late)) (q7 9), Bo ((ackedN x s.ack).owe), I ((ackedN x s.ack).due), I ((ackedN x s.ack).times)]), (3, .obj b1 ((Seg.c s).map .r)), (25, Bo (hasB s.flags 4))] rfl (Le.of rfl) ?_
    refine CW.cond rfl (fun h19 => ?_) (fun h19 => ?_)
    ·skip
     refine CW.seq ?_
     refine CW.region ?_
     refine RW.v rfl (V.mv (d := .pt 0 (bo 0) 0) rfl rfl) ?_
     refine RW.v rfl (V.nilP rfl rfl) ?_
     refine RW.v rfl (V.field rfl rfl rfl rfl (by decide) rfl) ?_
     refine RW.store (d := Bo true) rfl rfl rfl rfl rfl rfl rfl (Nat.le_of_ble_eq_true rfl) rfl rfl ?_
     refine RW.nil ?_
     refine CW.le [(0, .obj (bo 0) [I ((ackedN x s.ack).state), I ((ackedN x s.ack).iss), I ((ackedN x s.ack).una), I ((ackedN x s.ack).rcv), S ((ackedN x s.ack).wait), I ((ackedN x s.ack).sent), I ((ackedN x s.ack).fin), Bo ((ackedN x s.ack).peerFin), S ((ackedN x s.ack).in_), .w (sl 2 Late.c ((ackedN x s.ack).late)) (q7 9), Bo true, I ((ackedN x s.ack).due), I ((ackedN x s.ack).times)]), (3, .obj b1 ((Seg.c s).map .r))] rfl (Le.of rfl) ?_
     refine CW.seqJ 58 (fun (v20 : Bool) => [(0, .obj (bo 0) [I ((ackedN x s.ack).state), I ((ackedN x s.ack).iss), I ((ackedN x s.ack).una), I ((ackedN x s.ack).rcv), S ((ackedN x s.ack).wait), I ((ackedN x s.ack).sent), I ((ackedN x s.ack).fin), Bo ((ackedN x s.ack).peerFin), S ((ackedN x s.ack).in_), .w (sl 2 Late.c ((ackedN x s.ack).late)) (q7 9), Bo true, I ((ackedN x s.ack).due), I ((ackedN x s.ack).times)]), (46, Bo v20)]) (fun v20 => v20 = (((addNum s.num (s.body.size : Int)) == (ackedN x s.ack).rcv) && (!(ackedN x s.ack).peerFin))) ?_ ?_
     ·refine CW.drawn (by kernel_rfl) ?_
      refine RQ.v rfl (V.field rfl rfl rfl rfl (by decide) rfl) ?_
      refine RQ.v rfl (V.loadPrim (d := I s.num) rfl rfl (.inl rfl) rfl rfl rfl) ?_
      refine RQ.v rfl (V.field rfl rfl rfl rfl (by decide) rfl) ?_
      refine RQ.v rfl (V.loadPrim (d := S s.body) rfl rfl (.inl rfl) rfl rfl rfl) ?_
      refine RQ.v rfl (V.lenStr rfl (by kernel_rfl) rfl) ?_
      refine RQ.cons rfl (QOK.call (spec_AddNum_fn s.num (s.body.size : Int)) rfl (.cons (.one (.r .r)) (.cons (.one (.r .r)) (.nil))) ?_)
      refine RQ.v rfl (V.mv (d := .pt 0 (bo 0) 0) rfl rfl) ?_
      refine RQ.v rfl (V.nilP rfl rfl) ?_
      refine RQ.v rfl (V.field rfl rfl rfl rfl (by decide) rfl) ?_
      refine RQ.v rfl (V.loadPrim (d := I ((ackedN x s.ack).rcv)) rfl rfl (.inl rfl) rfl rfl rfl) ?_
      refine RQ.v rfl (V.cmpInt rfl rfl rfl rfl) ?_
      refine RQ.v rfl (V.mv (d := Bo ((addNum s.num (s.body.size : Int)) == (ackedN x s.ack).rcv)) rfl rfl) ?_
      refine RQ.gv rfl rfl rfl rfl (fun h21 => V.mv (d := .pt 0 (bo 0) 0) rfl rfl) (fun h21 => ?_) (fun h21 => ?_)
      ·skip
       refine RQ.gt rfl rfl rfl rfl (V.nilP rfl rfl) ?_
       refine RQ.gt rfl rfl rfl rfl (V.field rfl rfl rfl rfl (by decide) rfl) ?_
       refine RQ.gt rfl rfl rfl rfl (V.loadPrim (d := Bo ((ackedN x s.ack).peerFin)) rfl rfl (.inl rfl) rfl rfl rfl) ?_
       refine RQ.gt rfl rfl rfl rfl (V.not rfl rfl) ?_
       refine RQ.v rfl (V.pickT (d := Bo (!(ackedN x s.ack).peerFin)) rfl rfl rfl) ?_
       refine RQ.nil ?_
       exact ⟨_, by first | rfl | (simp_all; done) | (simp_all; omega) | grind, rfl, Le.c rfl <| Le.c rfl <| Le.e⟩
      ·skip
       refine RQ.guardF rfl rfl rfl rfl ?_
       refine RQ.guardF rfl rfl rfl rfl ?_
       refine RQ.guardF rfl rfl rfl rfl ?_
       refine RQ.guardF rfl rfl rfl rfl ?_
       refine RQ.v rfl (V.pickF (d := Bo false) rfl rfl rfl) ?_
       refine RQ.nil ?_
       exact ⟨_, by first | rfl | (simp_all; done) | (simp_all; omega) | grind, rfl, Le.c rfl <| Le.c rfl <| Le.e⟩
     ·intro v20 hv22
      refine CW.cond rfl (fun h23 => ?_) (fun h23 => ?_)
      ·skip
       refine CW.seq ?_
       refine CW.region ?_
       refine RW.v rfl (V.mv (d := .pt 0 (bo 0) 0) rfl rfl) ?_
       refine RW.v rfl (V.nilP rfl rfl) ?_
       refine RW.v rfl (V.field rfl rfl rfl rfl (by decide) rfl) ?_
       refine RW.store (d := Bo true) rfl rfl rfl rfl rfl rfl rfl (Nat.le_of_ble_eq_true rfl) rfl rfl ?_
       refine RW.nil ?_
       refine CW.le [(0, .obj (bo 0) [I ((ackedN x s.ack).state), I ((ackedN x s.ack).iss), I ((ackedN x s.ack).una), I ((ackedN x s.ack).rcv), S ((ackedN x s.ack).wait), I ((ackedN x s.ack).sent), I ((ackedN x s.ack).fin), Bo true, S ((ackedN x s.ack).in_), .w (sl 2 Late.c ((ackedN x s.ack).late)) (q7 9), Bo true, I ((ackedN x s.ack).due), I ((ackedN x s.ack).times)])] rfl (Le.of rfl) ?_
       refine CW.region ?_
       refine RW.v rfl (V.mv (d := .pt 0 (bo 0) 0) rfl rfl) ?_
       refine RW.v rfl (V.mv (d := .pt 0 (bo 0) 0) rfl rfl) ?_
       refine RW.v rfl (V.nilP rfl rfl) ?_
       refine RW.v rfl (V.field rfl rfl rfl rfl (by decide) rfl) ?_
       refine RW.v rfl (V.loadPrim (d := I ((ackedN x s.ack).rcv)) rfl rfl (.inl rfl) rfl rfl rfl) ?_
       refine RW.call rfl (spec_AddNum_fn ((ackedN x s.ack).rcv) 1) rfl (.cons (.one (.r .r)) (.cons (.one (.r .r)) (.nil))) fun g24 => ?_
       refine RW.v rfl (V.nilP rfl rfl) ?_
       refine RW.v rfl (V.field rfl rfl rfl rfl (by decide) rfl) ?_
       refine RW.store (d := I (addNum ((ackedN x s.ack).rcv) 1)) rfl rfl rfl rfl rfl rfl rfl (Nat.le_of_ble_eq_true rfl) rfl rfl ?_
       refine RW.nil ?_
       exact Post.tup (by decide) RVs.e (AOs.obE (f := fun e => (Stream.c e).map .w) (e' := (⟨(ackedN x s.ack).state, (ackedN x s.ack).iss, (ackedN x s.ack).una, (addNum ((ackedN x s.ack).rcv) 1), (ackedN x s.ack).wait, (ackedN x s.ack).sent, (ackedN x s.ack).fin, true, (ackedN x s.ack).in_, (ackedN x s.ack).late, true, (ackedN x s.ack).due, (ackedN x s.ack).times⟩ : Stream)) rfl (DT.v (DT.v (DT.v (DT.v (DT.v (DT.v (DT.v (DT.v (DT.v (DT.w (DT.v (DT.v (DT.v DT.e))))))))))))) (by unfold heardN hearOpenN finN emp partN; first | (simp_all; done) | grind) (AOs.a rfl AOs.e))
      ·skip
       refine CW.skip ?_
       exact Post.tup (by decide) RVs.e (AOs.obE (f := fun e => (Stream.c e).map .w) (e' := (⟨(ackedN x s.ack).state, (ackedN x s.ack).iss, (ackedN x s.ack).una, (ackedN x s.ack).rcv, (ackedN x s.ack).wait, (ackedN x s.ack).sent, (ackedN x s.ack).fin, (ackedN x s.ack).peerFin, (ackedN x s.ack).in_, (ackedN x s.ack).late, true, (ackedN x s.ack).due, (ackedN x s.ack).times⟩ : Stream)) rfl (DT.v (DT.v (DT.v (DT.v (DT.v (DT.v (DT.v (DT.v (DT.v (DT.w (DT.v (DT.v (DT.v DT.e))))))))))))) (by unfold heardN hearOpenN finN emp partN; first | (simp_all; done) | grind) (AOs.a rfl AOs.e))
    ·skip
     refine CW.skip ?_
     exact Post.tup (by decide) RVs.e (AOs.obE (f := fun e => (Stream.c e).map .w) (e' := (ackedN x s.ack)) rfl (DT.v (DT.v (DT.v (DT.v (DT.v (DT.v (DT.v (DT.v (DT.v (DT.w (DT.v (DT.v (DT.v DT.e))))))))))))) (by unfold heardN hearOpenN finN emp partN; first | (simp_all; done) | grind) (AOs.a rfl AOs.e))
  ·skip
   refine CW.skip ?_
   refine CW.le [(0, .obj (bo 0) [I x.state, I x.iss, I x.una, I x.rcv, S x.wait, I x.sent, I x.fin, Bo x.peerFin, S x.in_, .w (sl 2 Late.c x.late) (g 0 9), Bo x.owe, I x.due, I x.times]), (3, .obj b1 ((Seg.c s).map .r))] rfl (Le.of rfl) ?_
   refine CW.seq ?_
   refine CW.seq ?_
   refine CW.region ?_
   refine RW.v rfl (V.field rfl rfl rfl rfl (by decide) rfl) ?_
   refine RW.v rfl (V.loadPrim (d := S s.body) rfl rfl (.inl rfl) rfl rfl rfl) ?_
   refine RW.v rfl (V.strCmp rfl rfl rfl rfl) ?_
   refine RW.nil ?_
   refine CW.le [(0, .obj (bo 0) [I x.state, I x.iss, I x.una, I x.rcv, S x.wait, I x.sent, I x.fin, Bo x.peerFin, S x.in_, .w (sl 2 Late.c x.late) (g 0 9), Bo x.owe, I x.due, I x.times]), (3, .obj b1 ((Seg.c s).map .r)), (17, Bo (!(s.body.toList == (⟨#[]⟩ : ByteArray).toList)))] rfl (Le.of rfl) ?_
   refine CW.cond rfl (fun h25 => ?_) (fun h25 => ?_)
   ·skip
    refine CW.region ?_
    refine RW.v rfl (V.mv (d := .pt 0 (bo 0) 0) rfl rfl) ?_
    refine RW.v rfl (V.field rfl rfl rfl rfl (by decide) rfl) ?_
    refine RW.v rfl (V.loadPrim (d := I s.num) rfl rfl (.inl rfl) rfl rfl rfl) ?_
    refine RW.v rfl (V.field rfl rfl rfl rfl (by decide) rfl) ?_
    refine RW.v rfl (V.loadPrim (d := S s.body) rfl rfl (.inl rfl) rfl rfl rfl) ?_
    refine RW.callW (k := 0) (spec_l13Body_fn x s.num s.body (by first | exact hp | exact ackedN_part hp _) (segOk_body hs)) rfl rfl (Nat.le_of_ble_eq_true rfl) (by decide) (.here (AsW.ob (DT.v (DT.v (DT.v (DT.v (DT.v (DT.v (DT.v (DT.v (DT.v (DT.w (DT.v (DT.v (DT.v DT.e))))))))))))) rfl) (.cons (.one (.r .r)) (.cons (.one (.r .r)) (.nil)))) rfl fun g26 q27 => ?_
    refine RW.nil ?_
    refine CW.le [(0, .obj (bo 0) [I ((partT { x with owe := true } s.num s.body).state), I ((partT { x with owe := true } s.num s.body).iss), I ((partT { x with owe := true } s.num s.body).una), I ((partT { x with owe := true } s.num s.body).rcv), S ((partT { x with owe := true } s.num s.body).wait), I ((partT { x with owe := true } s.num s.body).sent), I ((partT { x with owe := true } s.num s.body).fin), Bo ((partT { x with owe := true } s.num s.body).peerFin), S ((partT { x with owe := true } s.num s.body).in_), .w (sl 2 Late.c ((partT { x with owe := true } s.num s.body).late)) (q27 9), Bo ((partT { x with owe := true } s.num s.body).owe), I ((partT { x with owe := true } s.num s.body).due), I ((partT { x with owe := true } s.num s.body).times)]), (3, .obj b1 ((Seg.c s).map .r))] rfl (Le.of rfl) ?_
    refine CW.seq ?_
    refine CW.region ?_
    refine RW.v rfl (V.loadAgg rfl rfl rfl rfl rfl (Nat.le_of_ble_eq_true rfl)) ?_
    refine RW.call rfl (spec_l12Has_fn s 4 (by decide)) rfl (.cons (.agg (.cons (.r .r) (.cons (.r .r) (.cons (.r .r) (.cons (.r .r) (.nil)))))) (.cons (.one (.r .r)) (.nil))) fun g28 => ?_
    refine RW.nil ?_
    refine CW.le [(0, .obj (bo 0) [I ((partT { x with owe := true } s.num s.body).state), I ((partT { x with owe := true } s.num s.body).iss), I ((partT { x with owe := true } s.num s.body).una), I ((partT { x with owe := true } s.num s.body).rcv), S ((partT { x with owe := true } s.num s.body).wait), I ((partT { x with owe := true } s.num s.body).sent), I ((partT { x with owe := true } s.num s.body).fin), Bo ((partT { x with owe := true } s.num s.body).peerFin), S ((partT { x with owe := true } s.num s.body).in_), .w (sl 2 Late.c ((partT { x with owe := true } s.num s.body).late)) (q27 9), Bo ((partT { x with owe := true } s.num s.body).owe), I ((partT { x with owe := true } s.num s.body).due), I ((partT { x with owe := true } s.num s.body).times)]), (3, .obj b1 ((Seg.c s).map .r)), (25, Bo (hasB s.flags 4))] rfl (Le.of rfl) ?_
    refine CW.cond rfl (fun h29 => ?_) (fun h29 => ?_)
    ·skip
     refine CW.seq ?_
     refine CW.region ?_
     refine RW.v rfl (V.mv (d := .pt 0 (bo 0) 0) rfl rfl) ?_
     refine RW.v rfl (V.nilP rfl rfl) ?_
     refine RW.v rfl (V.field rfl rfl rfl rfl (by decide) rfl) ?_
     refine RW.store (d := Bo true) rfl rfl rfl rfl rfl rfl rfl (Nat.le_of_ble_eq_true rfl) rfl rfl ?_
     refine RW.nil ?_
     refine CW.le [(0, .obj (bo 0) [I ((partT { x with owe := true } s.num s.body).state), I ((partT { x with owe := true } s.num s.body).iss), I ((partT { x with owe := true } s.num s.body).una), I ((partT { x with owe := true } s.num s.body).rcv), S ((partT { x with owe := true } s.num s.body).wait), I ((partT { x with owe := true } s.num s.body).sent), I ((partT { x with owe := true } s.num s.body).fin), Bo ((partT { x with owe := true } s.num s.body).peerFin), S ((partT { x with owe := true } s.num s.body).in_), .w (sl 2 Late.c ((partT { x with owe := true } s.num s.body).late)) (q27 9), Bo true, I ((partT { x with owe := true } s.num s.body).due), I ((partT { x with owe := true } s.num s.body).times)]), (3, .obj b1 ((Seg.c s).map .r))] rfl (Le.of rfl) ?_
     refine CW.seqJ 58 (fun (v30 : Bool) => [(0, .obj (bo 0) [I ((partT { x with owe := true } s.num s.body).state), I ((partT { x with owe := true } s.num s.body).iss), I ((partT { x with owe := true } s.num s.body).una), I ((partT { x with owe := true } s.num s.body).rcv), S ((partT { x with owe := true } s.num s.body).wait), I ((partT { x with owe := true } s.num s.body).sent), I ((partT { x with owe := true } s.num s.body).fin), Bo ((partT { x with owe := true } s.num s.body).peerFin), S ((partT { x with owe := true } s.num s.body).in_), .w (sl 2 Late.c ((partT { x with owe := true } s.num s.body).late)) (q27 9), Bo true, I ((partT { x with owe := true } s.num s.body).due), I ((partT { x with owe := true } s.num s.body).times)]), (46, Bo v30)]) (fun v30 => v30 = (((addNum s.num (s.body.size : Int)) == (partT { x with owe := true } s.num s.body).rcv) && (!(partT { x with owe := true } s.num s.body).peerFin))) ?_ ?_
     ·refine CW.drawn (by kernel_rfl) ?_
      refine RQ.v rfl (V.field rfl rfl rfl rfl (by decide) rfl) ?_
      refine RQ.v rfl (V.loadPrim (d := I s.num) rfl rfl (.inl rfl) rfl rfl rfl) ?_
      refine RQ.v rfl (V.field rfl rfl rfl rfl (by decide) rfl) ?_
      refine RQ.v rfl (V.loadPrim (d := S s.body) rfl rfl (.inl rfl) rfl rfl rfl) ?_
      refine RQ.v rfl (V.lenStr rfl (by kernel_rfl) rfl) ?_
      refine RQ.cons rfl (QOK.call (spec_AddNum_fn s.num (s.body.size : Int)) rfl (.cons (.one (.r .r)) (.cons (.one (.r .r)) (.nil))) ?_)
      refine RQ.v rfl (V.mv (d := .pt 0 (bo 0) 0) rfl rfl) ?_
      refine RQ.v rfl (V.nilP rfl rfl) ?_
      refine RQ.v rfl (V.field rfl rfl rfl rfl (by decide) rfl) ?_
      refine RQ.v rfl (V.loadPrim (d := I ((partT { x with owe := true } s.num s.body).rcv)) rfl rfl (.inl rfl) rfl rfl rfl) ?_
      refine RQ.v rfl (V.cmpInt rfl rfl rfl rfl) ?_
      refine RQ.v rfl (V.mv (d := Bo ((addNum s.num (s.body.size : Int)) == (partT { x with owe := true } s.num s.body).rcv)) rfl rfl) ?_
      refine RQ.gv rfl rfl rfl rfl (fun h31 => V.mv (d := .pt 0 (bo 0) 0) rfl rfl) (fun h31 => ?_) (fun h31 => ?_)
      ·skip
       refine RQ.gt rfl rfl rfl rfl (V.nilP rfl rfl) ?_
       refine RQ.gt rfl rfl rfl rfl (V.field rfl rfl rfl rfl (by decide) rfl) ?_
       refine RQ.gt rfl rfl rfl rfl (V.loadPrim (d := Bo ((partT { x with owe := true } s.num s.body).peerFin)) rfl rfl (.inl rfl) rfl rfl rfl) ?_
       refine RQ.gt rfl rfl rfl rfl (V.not rfl rfl) ?_
       refine RQ.v rfl (V.pickT (d := Bo (!(partT { x with owe := true } s.num s.body).peerFin)) rfl rfl rfl) ?_
       refine RQ.nil ?_
       exact ⟨_, by first | rfl | (simp_all; done) | (simp_all; omega) | grind, rfl, Le.c rfl <| Le.c rfl <| Le.e⟩
      ·skip
       refine RQ.guardF rfl rfl rfl rfl ?_
       refine RQ.guardF rfl rfl rfl rfl ?_
       refine RQ.guardF rfl rfl rfl rfl ?_
       refine RQ.guardF rfl rfl rfl rfl ?_
       refine RQ.v rfl (V.pickF (d := Bo false) rfl rfl rfl) ?_
       refine RQ.nil ?_
       exact ⟨_, by first | rfl | (simp_all; done) | (simp_all; omega) | grind, rfl, Le.c rfl <| Le.c rfl <| Le.e⟩
     ·intro v30 hv32
      refine CW.cond rfl (fun h33 => ?_) (fun h33 => ?_)
      ·skip
       refine CW.seq ?_
       refine CW.region ?_
       refine RW.v rfl (V.mv (d := .pt 0 (bo 0) 0) rfl rfl) ?_
       refine RW.v rfl (V.nilP rfl rfl) ?_
       refine RW.v rfl (V.field rfl rfl rfl rfl (by decide) rfl) ?_
       refine RW.store (d := Bo true) rfl rfl rfl rfl rfl rfl rfl (Nat.le_of_ble_eq_true rfl) rfl rfl ?_
       refine RW.nil ?_
       refine CW.le [(0, .obj (bo 0) [I ((partT { x with owe := true } s.num s.body).state), I ((partT { x with owe := true } s.num s.body).iss), I ((partT { x with owe := true } s.num s.body).una), I ((partT { x with owe := true } s.num s.body).rcv), S ((partT { x with owe := true } s.num s.body).wait), I ((partT { x with owe := true } s.num s.body).sent), I ((partT { x with owe := true } s.num s.body).fin), Bo true, S ((partT { x with owe := true } s.num s.body).in_), .w (sl 2 Late.c ((partT { x with owe := true } s.num s.body).late)) (q27 9), Bo true, I ((partT { x with owe := true } s.num s.body).due), I ((partT { x with owe := true } s.num s.body).times)])] rfl (Le.of rfl) ?_
       refine CW.region ?_
       refine RW.v rfl (V.mv (d := .pt 0 (bo 0) 0) rfl rfl) ?_
       refine RW.v rfl (V.mv (d := .pt 0 (bo 0) 0) rfl rfl) ?_
       refine RW.v rfl (V.nilP rfl rfl) ?_
       refine RW.v rfl (V.field rfl rfl rfl rfl (by decide) rfl) ?_
       refine RW.v rfl (V.loadPrim (d := I ((partT { x with owe := true } s.num s.body).rcv)) rfl rfl (.inl rfl) rfl rfl rfl) ?_
       refine RW.call rfl (spec_AddNum_fn ((partT { x with owe := true } s.num s.body).rcv) 1) rfl (.cons (.one (.r .r)) (.cons (.one (.r .r)) (.nil))) fun g34 => ?_
       refine RW.v rfl (V.nilP rfl rfl) ?_
       refine RW.v rfl (V.field rfl rfl rfl rfl (by decide) rfl) ?_
       refine RW.store (d := I (addNum ((partT { x with owe := true } s.num s.body).rcv) 1)) rfl rfl rfl rfl rfl rfl rfl (Nat.le_of_ble_eq_true rfl) rfl rfl ?_
       refine RW.nil ?_
       exact Post.tup (by decide) RVs.e (AOs.obE (f := fun e => (Stream.c e).map .w) (e' := (⟨(partT { x with owe := true } s.num s.body).state, (partT { x with owe := true } s.num s.body).iss, (partT { x with owe := true } s.num s.body).una, (addNum ((partT { x with owe := true } s.num s.body).rcv) 1), (partT { x with owe := true } s.num s.body).wait, (partT { x with owe := true } s.num s.body).sent, (partT { x with owe := true } s.num s.body).fin, true, (partT { x with owe := true } s.num s.body).in_, (partT { x with owe := true } s.num s.body).late, true, (partT { x with owe := true } s.num s.body).due, (partT { x with owe := true } s.num s.body).times⟩ : Stream)) rfl (DT.v (DT.v (DT.v (DT.v (DT.v (DT.v (DT.v (DT.v (DT.v (DT.w (DT.v (DT.v (DT.v DT.e))))))))))))) (by unfold heardN hearOpenN finN emp partN; first | (simp_all; done) | grind) (AOs.a rfl AOs.e))
      ·skip
       refine CW.skip ?_
       exact Post.tup (by decide) RVs.e (AOs.obE (f := fun e => (Stream.c e).map .w) (e' := (⟨(partT { x with owe := true } s.num s.body).state, (partT { x with owe := true } s.num s.body).iss, (partT { x with owe := true } s.num s.body).una, (partT { x with owe := true } s.num s.body).rcv, (partT { x with owe := true } s.num s.body).wait, (partT { x with owe := true } s.num s.body).sent, (partT { x with owe := true } s.num s.body).fin, (partT { x with owe := true } s.num s.body).peerFin, (partT { x with owe := true } s.num s.body).in_, (partT { x with owe := true } s.num s.body).late, true, (partT { x with owe := true } s.num s.body).due, (partT { x with owe := true } s.num s.body).times⟩ : Stream)) rfl (DT.v (DT.v (DT.v (DT.v (DT.v (DT.v (DT.v (DT.v (DT.v (DT.w (DT.v (DT.v (DT.v DT.e))))))))))))) (by unfold heardN hearOpenN finN emp partN; first | (simp_all; done) | grind) (AOs.a rfl AOs.e))
    ·skip
     refine CW.skip ?_
     exact Post.tup (by decide) RVs.e (AOs.obE (f := fun e => (Stream.c e).map .w) (e' := (partT { x with owe := true } s.num s.body)) rfl (DT.v (DT.v (DT.v (DT.v (DT.v (DT.v (DT.v (DT.v (DT.v (DT.w (DT.v (DT.v (DT.v DT.e))))))))))))) (by unfold heardN hearOpenN finN emp partN; first | (simp_all; done) | grind) (AOs.a rfl AOs.e))
   ·skip
    refine CW.skip ?_
    refine CW.le [(0, .obj (bo 0) [I x.state, I x.iss, I x.una, I x.rcv, S x.wait, I x.sent, I x.fin, Bo x.peerFin, S x.in_, .w (sl 2 Late.c x.late) (g 0 9), Bo x.owe, I x.due, I x.times]), (3, .obj b1 ((Seg.c s).map .r))] rfl (Le.of rfl) ?_
    refine CW.seq ?_
    refine CW.region ?_
    refine RW.v rfl (V.loadAgg rfl rfl rfl rfl rfl (Nat.le_of_ble_eq_true rfl)) ?_
    refine RW.call rfl (spec_l12Has_fn s 4 (by decide)) rfl (.cons (.agg (.cons (.r .r) (.cons (.r .r) (.cons (.r .r) (.cons (.r .r) (.nil)))))) (.cons (.one (.r .r)) (.nil))) fun g35 => ?_
    refine RW.nil ?_
    refine CW.le [(0, .obj (bo 0) [I x.state, I x.iss, I x.una, I x.rcv, S x.wait, I x.sent, I x.fin, Bo x.peerFin, S x.in_, .w (sl 2 Late.c x.late) (g 0 9), Bo x.owe, I x.due, I x.times]), (3, .obj b1 ((Seg.c s).map .r)), (25, Bo (hasB s.flags 4))] rfl (Le.of rfl) ?_
    refine CW.cond rfl (fun h36 => ?_) (fun h36 => ?_)
    ·skip
     refine CW.seq ?_
     refine CW.region ?_
     refine RW.v rfl (V.mv (d := .pt 0 (bo 0) 0) rfl rfl) ?_
     refine RW.v rfl (V.nilP rfl rfl) ?_
     refine RW.v rfl (V.field rfl rfl rfl rfl (by decide) rfl) ?_
     refine RW.store (d := Bo true) rfl rfl rfl rfl rfl rfl rfl (Nat.le_of_ble_eq_true rfl) rfl rfl ?_
     refine RW.nil ?_
     refine CW.le [(0, .obj (bo 0) [I x.state, I x.iss, I x.una, I x.rcv, S x.wait, I x.sent, I x.fin, Bo x.peerFin, S x.in_, .w (sl 2 Late.c x.late) (g 0 9), Bo true, I x.due, I x.times]), (3, .obj b1 ((Seg.c s).map .r))] rfl (Le.of rfl) ?_
     refine CW.seqJ 58 (fun (v37 : Bool) => [(0, .obj (bo 0) [I x.state, I x.iss, I x.una, I x.rcv, S x.wait, I x.sent, I x.fin, Bo x.peerFin, S x.in_, .w (sl 2 Late.c x.late) (g 0 9), Bo true, I x.due, I x.times]), (46, Bo v37)]) (fun v37 => v37 = (((addNum s.num (s.body.size : Int)) == x.rcv) && (!x.peerFin))) ?_ ?_
     ·refine CW.drawn (by kernel_rfl) ?_
      refine RQ.v rfl (V.field rfl rfl rfl rfl (by decide) rfl) ?_
      refine RQ.v rfl (V.loadPrim (d := I s.num) rfl rfl (.inl rfl) rfl rfl rfl) ?_
      refine RQ.v rfl (V.field rfl rfl rfl rfl (by decide) rfl) ?_
      refine RQ.v rfl (V.loadPrim (d := S s.body) rfl rfl (.inl rfl) rfl rfl rfl) ?_
      refine RQ.v rfl (V.lenStr rfl (by kernel_rfl) rfl) ?_
      refine RQ.cons rfl (QOK.call (spec_AddNum_fn s.num (s.body.size : Int)) rfl (.cons (.one (.r .r)) (.cons (.one (.r .r)) (.nil))) ?_)
      refine RQ.v rfl (V.mv (d := .pt 0 (bo 0) 0) rfl rfl) ?_
      refine RQ.v rfl (V.nilP rfl rfl) ?_
      refine RQ.v rfl (V.field rfl rfl rfl rfl (by decide) rfl) ?_
      refine RQ.v rfl (V.loadPrim (d := I x.rcv) rfl rfl (.inl rfl) rfl rfl rfl) ?_
      refine RQ.v rfl (V.cmpInt rfl rfl rfl rfl) ?_
      refine RQ.v rfl (V.mv (d := Bo ((addNum s.num (s.body.size : Int)) == x.rcv)) rfl rfl) ?_
      refine RQ.gv rfl rfl rfl rfl (fun h38 => V.mv (d := .pt 0 (bo 0) 0) rfl rfl) (fun h38 => ?_) (fun h38 => ?_)
      ·skip
       refine RQ.gt rfl rfl rfl rfl (V.nilP rfl rfl) ?_
       refine RQ.gt rfl rfl rfl rfl (V.field rfl rfl rfl rfl (by decide) rfl) ?_
       refine RQ.gt rfl rfl rfl rfl (V.loadPrim (d := Bo x.peerFin) rfl rfl (.inl rfl) rfl rfl rfl) ?_
       refine RQ.gt rfl rfl rfl rfl (V.not rfl rfl) ?_
       refine RQ.v rfl (V.pickT (d := Bo (!x.peerFin)) rfl rfl rfl) ?_
       refine RQ.nil ?_
       exact ⟨_, by first | rfl | (simp_all; done) | (simp_all; omega) | grind, rfl, Le.c rfl <| Le.c rfl <| Le.e⟩
      ·skip
       refine RQ.guardF rfl rfl rfl rfl ?_
       refine RQ.guardF rfl rfl rfl rfl ?_
       refine RQ.guardF rfl rfl rfl rfl ?_
       refine RQ.guardF rfl rfl rfl rfl ?_
       refine RQ.v rfl (V.pickF (d := Bo false) rfl rfl rfl) ?_
       refine RQ.nil ?_
       exact ⟨_, by first | rfl | (simp_all; done) | (simp_all; omega) | grind, rfl, Le.c rfl <| Le.c rfl <| Le.e⟩
     ·intro v37 hv39
      refine CW.cond rfl (fun h40 => ?_) (fun h40 => ?_)
      ·skip
       refine CW.seq ?_
       refine CW.region ?_
       refine RW.v rfl (V.mv (d := .pt 0 (bo 0) 0) rfl rfl) ?_
       refine RW.v rfl (V.nilP rfl rfl) ?_
       refine RW.v rfl (V.field rfl rfl rfl rfl (by decide) rfl) ?_
       refine RW.store (d := Bo true) rfl rfl rfl rfl rfl rfl rfl (Nat.le_of_ble_eq_true rfl) rfl rfl ?_
       refine RW.nil ?_
       refine CW.le [(0, .obj (bo 0) [I x.state, I x.iss, I x.una, I x.rcv, S x.wait, I x.sent, I x.fin, Bo true, S x.in_, .w (sl 2 Late.c x.late) (g 0 9), Bo true, I x.due, I x.times])] rfl (Le.of rfl) ?_
       refine CW.region ?_
       refine RW.v rfl (V.mv (d := .pt 0 (bo 0) 0) rfl rfl) ?_
       refine RW.v rfl (V.mv (d := .pt 0 (bo 0) 0) rfl rfl) ?_
       refine RW.v rfl (V.nilP rfl rfl) ?_
       refine RW.v rfl (V.field rfl rfl rfl rfl (by decide) rfl) ?_
       refine RW.v rfl (V.loadPrim (d := I x.rcv) rfl rfl (.inl rfl) rfl rfl rfl) ?_
       refine RW.call rfl (spec_AddNum_fn x.rcv 1) rfl (.cons (.one (.r .r)) (.cons (.one (.r .r)) (.nil))) fun g41 => ?_
       refine RW.v rfl (V.nilP rfl rfl) ?_
       refine RW.v rfl (V.field rfl rfl rfl rfl (by decide) rfl) ?_
       refine RW.store (d := I (addNum x.rcv 1)) rfl rfl rfl rfl rfl rfl rfl (Nat.le_of_ble_eq_true rfl) rfl rfl ?_
       refine RW.nil ?_
       exact Post.tup (by decide) RVs.e (AOs.obE (f := fun e => (Stream.c e).map .w) (e' := (⟨x.state, x.iss, x.una, (addNum x.rcv 1), x.wait, x.sent, x.fin, true, x.in_, x.late, true, x.due, x.times⟩ : Stream)) rfl (DT.v (DT.v (DT.v (DT.v (DT.v (DT.v (DT.v (DT.v (DT.v (DT.w (DT.v (DT.v (DT.v DT.e))))))))))))) (by unfold heardN hearOpenN finN emp partN; first | (simp_all; done) | grind) (AOs.a rfl AOs.e))
      ·skip
       refine CW.skip ?_
       exact Post.tup (by decide) RVs.e (AOs.obE (f := fun e => (Stream.c e).map .w) (e' := (⟨x.state, x.iss, x.una, x.rcv, x.wait, x.sent, x.fin, x.peerFin, x.in_, x.late, true, x.due, x.times⟩ : Stream)) rfl (DT.v (DT.v (DT.v (DT.v (DT.v (DT.v (DT.v (DT.v (DT.v (DT.w (DT.v (DT.v (DT.v DT.e))))))))))))) (by unfold heardN hearOpenN finN emp partN; first | (simp_all; done) | grind) (AOs.a rfl AOs.e))
    ·skip
     refine CW.skip ?_
     exact Post.tup (by decide) RVs.e (AOs.obE (f := fun e => (Stream.c e).map .w) (e' := x) rfl (DT.v (DT.v (DT.v (DT.v (DT.v (DT.v (DT.v (DT.v (DT.v (DT.w (DT.v (DT.v (DT.v DT.e))))))))))))) (by unfold heardN hearOpenN finN emp partN; first | (simp_all; done) | grind) (AOs.a rfl AOs.e))
end Go.Proofs.Ytkfjkmklmjcngaa.Y
