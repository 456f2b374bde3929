import Derived.Test.YtkfjkmklmjcngaaWGreetsA
namespace Go.Proofs.Ytkfjkmklmjcngaa.Y
open Go Go.RowKit Go.Eng Go.Proofs
set_option maxHeartbeats 4000000 in
theorem impl_Push_fn (x : Stream) (now : Int) (hm : x.late.length ≤ 1048576) : Eng.Fn E.P 10 [.agg ((Stream.c x).map .r), .one (.r (.v (.int .i64 now)))] (.tup [.agg ((Stream.c ((pushN x now).1)).map .w), .one (.w (sl 4 Seg.c ((pushN x now).2)))]) [.agg ((Stream.c x).map .r), .one (.r (.v (.int .i64 now)))] := by
 refine Eng.Fn.intro (E := E) (rvs := [.cell 4 28, .tmp 5]) Try.func10 rfl rfl rfl (by simp [outSlots, moved, rvSlot, sl]) ?_
 intro B g bo
 refine CW.le [(0, .agg ((Stream.c x).map .r)), (1, I now)] rfl (Le.of rfl) ?_
 refine CW.seq ?_
 refine CW.region ?_
 refine RW.box (ds := ((Stream.c x).map .r)) rfl rfl rfl fun b1 => ?_
 refine RW.alloc (ds := [I 0, I 0, I 0, I 0, S (⟨#[]⟩), I 0, I 0, Bo false, S (⟨#[]⟩), .r (.v (.slice none 0 0)), Bo false, I 0, I 0]) rfl rfl rfl rfl fun b2 => ?_
 refine RW.v rfl (V.as (d := .r (.v (.slice none 0 0))) rfl rfl) ?_
 refine RW.nil ?_
 refine CW.le [(1, I now), (2, .obj b1 ((Stream.c x).map .r)), (4, .obj b2 [I 0, I 0, I 0, I 0, S (⟨#[]⟩), I 0, I 0, Bo false, S (⟨#[]⟩), .r (.v (.slice none 0 0)), Bo false, I 0, I 0])] rfl (Le.of rfl) ?_
 refine CW.seq ?_
 refine CW.region ?_
 refine RW.v rfl (V.loadAgg rfl rfl rfl rfl rfl (Nat.le_of_ble_eq_true rfl)) ?_
 refine RW.call rfl (impl_copyStream_fn x hm) rfl (.cons (.agg (.cons (.r .r) (.cons (.r .r) (.cons (.r .r) (.cons (.r .r) (.cons (.r .r) (.cons (.r .r) (.cons (.r .r) (.cons (.r .r) (.cons (.r .r) (.cons (.r .r) (.cons (.r .r) (.cons (.r .r) (.cons (.r .r) (.nil))))))))))))))) (.nil)) fun g3 => ?_
 refine RW.alloc (ds := [I 0, I 0, I 0, I 0, S (⟨#[]⟩), I 0, I 0, Bo false, S (⟨#[]⟩), .r (.v (.slice none 0 0)), Bo false, I 0, I 0]) rfl rfl rfl rfl fun b4 => ?_
 refine RW.storeAgg (es := [I x.state, I x.iss, I x.una, I x.rcv, S x.wait, I x.sent, I x.fin, Bo x.peerFin, S x.in_, .al 10 (some 9) 2 x.late.length (g3 0 9) 0, Bo x.owe, I x.due, I x.times]) rfl rfl rfl rfl rfl rfl rfl rfl (Nat.le_of_ble_eq_true rfl) rfl ?_
 refine RW.le [(1, I now), (2, .obj b1 ((Stream.c x).map .r)), (4, .obj b2 [I 0, I 0, I 0, I 0, S (⟨#[]⟩), I 0, I 0, Bo false, S (⟨#[]⟩), .r (.v (.slice none 0 0)), Bo false, I 0, I 0]), (6, .obj b4 [I x.state, I x.iss, I x.una, I x.rcv, S x.wait, I x.sent, I x.fin, Bo x.peerFin, S x.in_, .al 10 (some 9) 2 x.late.length (g3 0 9) 0, Bo x.owe, I x.due, I x.times]), (10, .agg [I x.state, I x.iss, I x.una, I x.rcv, S x.wait, I x.sent, I x.fin, Bo x.peerFin, S x.in_, .w (sl 2 Late.c x.late) (g3 0 9), Bo x.owe, I x.due, I x.times])] rfl (Le.of rfl) ?_
 refine RW.pullA (k := 6) (l := 10) (j := 9) 6 10 9 rfl rfl rfl (by decide) rfl rfl rfl rfl ?_
 refine RW.le [(1, I now), (2, .obj b1 ((Stream.c x).map .r)), (4, .obj b2 [I 0, I 0, I 0, I 0, S (⟨#[]⟩), I 0, I 0, Bo false, S (⟨#[]⟩), .r (.v (.slice none 0 0)), Bo false, I 0, I 0]), (6, .obj b4 [I x.state, I x.iss, I x.una, I x.rcv, S x.wait, I x.sent, I x.fin, Bo x.peerFin, S x.in_, .w (sl 2 Late.c x.late) (g3 0 9), Bo x.owe, I x.due, I x.times])] rfl (Le.of rfl) ?_
 refine RW.nil ?_
 refine CW.le [(1, I now), (2, .obj b1 ((Stream.c x).map .r)), (4, .obj b2 [I 0, I 0, I 0, I 0, S (⟨#[]⟩), I 0, I 0, Bo false, S (⟨#[]⟩), .r (.v (.slice none 0 0)), Bo false, I 0, I 0]), (6, .obj b4 [I x.state, I x.iss, I x.una, I x.rcv, S x.wait, I x.sent, I x.fin, Bo x.peerFin, S x.in_, .w (sl 2 Late.c x.late) (g3 0 9), Bo x.owe, I x.due, I x.times])] rfl (Le.of rfl) ?_
 refine CW.seq ?_
 refine CW.seqJ 62 (fun (v5 : Bool) => [(1, I now), (2, .obj b1 ((Stream.c x).map .r)), (4, .obj b2 [I 0, I 0, I 0, I 0, S (⟨#[]⟩), I 0, I 0, Bo false, S (⟨#[]⟩), .r (.v (.slice none 0 0)), Bo false, I 0, I 0]), (6, .obj b4 [I x.state, I x.iss, I x.una, I x.rcv, S x.wait, I x.sent, I x.fin, Bo x.peerFin, S x.in_, .w (sl 2 Late.c x.late) (g3 0 9), Bo x.owe, I x.due, I x.times]), (18, Bo v5)]) (fun v5 => v5 = ((!(streamOk x)) || (!(inR now 0 999999900)))) ?_ ?_
 ·refine CW.region ?_
  refine RW.v rfl (V.loadAgg rfl rfl rfl rfl rfl (Nat.le_of_ble_eq_true rfl)) ?_
  refine RW.call rfl (impl_StreamOk_fn x) rfl (.cons (.agg (.cons (.r .r) (.cons (.r .r) (.cons (.r .r) (.cons (.r .r) (.cons (.r .r) (.cons (.r .r) (.cons (.r .r) (.cons (.r .r) (.cons (.r .r) (.cons (.r .r) (.cons (.r .r) (.cons (.r .r) (.cons (.r .r) (.nil))))))))))))))) (.nil)) fun g6 => ?_
  refine RW.v rfl (V.not rfl rfl) ?_
  refine RW.v rfl (V.mv (d := Bo (!(streamOk x))) rfl rfl) ?_
  refine RW.gv rfl rfl rfl rfl (fun h7 => V.mv (d := I now) rfl rfl) (fun h7 => ?_) (fun h7 => ?_)
  ·skip
   refine RW.gcall rfl rfl rfl rfl (impl_within_fn now 0 999999900) rfl (.cons (.one (.r .r)) (.cons (.one (.r .r)) (.cons (.one (.r .r)) (.nil)))) fun g8 => ?_
   refine RW.gt rfl rfl rfl rfl (V.not rfl rfl) ?_
   refine RW.v rfl (V.pickF (d := Bo (!(inR now 0 999999900))) rfl rfl rfl) ?_
   refine RW.nil ?_
   exact ⟨_, by first | rfl | (simp_all; done) | (simp_all; omega) | grind, rfl, Le.c rfl <| Le.c rfl <| Le.c rfl <| Le.c rfl <| Le.c rfl <| Le.e⟩
  ·skip
   refine RW.guardF rfl rfl rfl rfl ?_
   refine RW.guardF rfl rfl rfl rfl ?_
   refine RW.v rfl (V.pickT (d := Bo true) rfl rfl rfl) ?_
   refine RW.nil ?_
   exact ⟨_, by first | rfl | (simp_all; done) | (simp_all; omega) | grind, rfl, Le.c rfl <| Le.c rfl <| Le.c rfl <| Le.c rfl <| Le.c rfl <| Le.e⟩
 ·intro v5 hv9
  refine CW.cond rfl (fun h10 => ?_) (fun h10 => ?_)
  ·skip
   refine CW.seq ?_
   refine CW.region ?_
   refine RW.v rfl (V.loadAgg rfl rfl rfl rfl rfl (Nat.le_of_ble_eq_true rfl)) ?_
   refine RW.storeAgg (es := [I x.state, I x.iss, I x.una, I x.rcv, S x.wait, I x.sent, I x.fin, Bo x.peerFin, S x.in_, .al 6 (some 9) 2 x.late.length (g3 0 9) 0, Bo x.owe, I x.due, I x.times]) rfl rfl rfl rfl rfl rfl rfl rfl (Nat.le_of_ble_eq_true rfl) rfl ?_
   refine RW.le [(4, .obj b2 [I x.state, I x.iss, I x.una, I x.rcv, S x.wait, I x.sent, I x.fin, Bo x.peerFin, S x.in_, .al 6 (some 9) 2 x.late.length (g3 0 9) 0, Bo x.owe, I x.due, I x.times]), (6, .obj b4 [I x.state, I x.iss, I x.una, I x.rcv, S x.wait, I x.sent, I x.fin, Bo x.peerFin, S x.in_, .w (sl 2 Late.c x.late) (g3 0 9), Bo x.owe, I x.due, I x.times])] rfl (Le.of rfl) ?_
   refine RW.pullO (k := 4) (l := 6) (j := 9) 4 6 9 rfl rfl rfl (by decide) rfl rfl rfl rfl ?_
   refine RW.le [(4, .obj b2 [I x.state, I x.iss, I x.una, I x.rcv, S x.wait, I x.sent, I x.fin, Bo x.peerFin, S x.in_, .w (sl 2 Late.c x.late) (g3 0 9), Bo x.owe, I x.due, I x.times])] rfl (Le.of rfl) ?_
   refine RW.v rfl (V.as (d := .r (.v (.slice none 0 0))) rfl rfl) ?_
   refine RW.nil ?_
   refine CW.le [(4, .obj b2 [I x.state, I x.iss, I x.una, I x.rcv, S x.wait, I x.sent, I x.fin, Bo x.peerFin, S x.in_, .w (sl 2 Late.c x.late) (g3 0 9), Bo x.owe, I x.due, I x.times]), (5, .r (.v (.slice none 0 0)))] rfl (Le.of rfl) ?_
   refine CW.ret ?_
   exact Post.tup (by decide) (RVs.c (RV.c (f := fun e => (Stream.c e).map .w) (e' := x) rfl rfl rfl rfl (DT.v (DT.v (DT.v (DT.v (DT.v (DT.v (DT.v (DT.v (DT.v (DT.w (DT.v (DT.v (DT.v DT.e))))))))))))) (by unfold pushN; first | (simp_all; done) | grind)) (RVs.c (RV.n rfl (by unfold pushN; first | (simp_all; done) | grind)) RVs.e)) (AOs.a rfl (AOs.r AOs.e))
  ·skip
   have hxo : streamOk x = true := by simp_all
   refine CW.skip ?_
   refine CW.le [(1, I now), (2, .obj b1 ((Stream.c x).map .r)), (4, .obj b2 [I 0, I 0, I 0, I 0, S (⟨#[]⟩), I 0, I 0, Bo false, S (⟨#[]⟩), .r (.v (.slice none 0 0)), Bo false, I 0, I 0]), (6, .obj b4 [I x.state, I x.iss, I x.una, I x.rcv, S x.wait, I x.sent, I x.fin, Bo x.peerFin, S x.in_, .w (sl 2 Late.c x.late) (g3 0 9), Bo x.owe, I x.due, I x.times])] rfl (Le.of rfl) ?_
   refine CW.seqJ 62 (fun (v11 : Bool) => [(1, I now), (2, .obj b1 ((Stream.c x).map .r)), (4, .obj b2 [I 0, I 0, I 0, I 0, S (⟨#[]⟩), I 0, I 0, Bo false, S (⟨#[]⟩), .r (.v (.slice none 0 0)), Bo false, I 0, I 0]), (6, .obj b4 [I x.state, I x.iss, I x.una, I x.rcv, S x.wait, I x.sent, I x.fin, Bo x.peerFin, S x.in_, .w (sl 2 Late.c x.late) (g3 0 9), Bo x.owe, I x.due, I x.times]), (7, Bo v11)]) (fun v11 => v11 = (decide (x.due ≤ now) && decide (x.times < 12))) ?_ ?_
   ·refine CW.region ?_
    refine RW.v rfl (V.field rfl rfl rfl rfl (by decide) rfl) ?_
    refine RW.v rfl (V.loadPrim (d := I x.due) rfl rfl (.inl rfl) rfl rfl rfl) ?_
    refine RW.v rfl (V.mv (d := I now) rfl rfl) ?_
    refine RW.v rfl (V.cmpInt rfl rfl rfl rfl) ?_
    refine RW.v rfl (V.mv (d := Bo (decide (x.due ≤ now))) rfl rfl) ?_
    refine RW.gv rfl rfl rfl rfl (fun h12 => V.field rfl rfl rfl rfl (by decide) rfl) (fun h12 => ?_) (fun h12 => ?_)
    ·skip
     refine RW.gt rfl rfl rfl rfl (V.loadPrim (d := I x.times) rfl rfl (.inl rfl) rfl rfl rfl) ?_
     refine RW.gt rfl rfl rfl rfl (V.cmpInt rfl rfl rfl rfl) ?_
     refine RW.v rfl (V.pickT (d := Bo (decide (x.times < 12))) rfl rfl rfl) ?_
     refine RW.v rfl (V.as (d := Bo (decide (x.times < 12))) rfl rfl) ?_
     refine RW.nil ?_
     exact ⟨_, by first | rfl | (simp_all; done) | (simp_all; omega) | grind, rfl, Le.c rfl <| Le.c rfl <| Le.c rfl <| Le.c rfl <| Le.c rfl <| Le.e⟩
    ·skip
     refine RW.guardF rfl rfl rfl rfl ?_
     refine RW.guardF rfl rfl rfl rfl ?_
     refine RW.v rfl (V.pickF (d := Bo false) rfl rfl rfl) ?_
     refine RW.v rfl (V.as (d := Bo false) rfl rfl) ?_
     refine RW.nil ?_
     exact ⟨_, by first | rfl | (simp_all; done) | (simp_all; omega) | grind, rfl, Le.c rfl <| Le.c rfl <| Le.c rfl <| Le.c rfl <| Le.c rfl <| Le.e⟩
   ·intro v11 hv13
    refine CW.seq ?_
    refine CW.seq ?_
    refine CW.region ?_
    refine RW.v rfl (V.field rfl rfl rfl rfl (by decide) rfl) ?_
    refine RW.v rfl (V.loadPrim (d := I x.state) rfl rfl (.inl rfl) rfl rfl rfl) ?_
    refine RW.nil ?_
    refine CW.le [(1, I now), (2, .obj b1 ((Stream.c x).map .r)), (4, .obj b2 [I 0, I 0, I 0, I 0, S (⟨#[]⟩), I 0, I 0, Bo false, S (⟨#[]⟩), .r (.v (.slice none 0 0)), Bo false, I 0, I 0]), (6, .obj b4 [I x.state, I x.iss, I x.una, I x.rcv, S x.wait, I x.sent, I x.fin, Bo x.peerFin, S x.in_, .w (sl 2 Late.c x.late) (g3 0 9), Bo x.owe, I x.due, I x.times]), (7, Bo v11), (30, I x.state)] rfl (Le.of rfl) ?_
    refine CW.block ?_
    refine CW.seq ?_
    refine CW.seq ?_
    refine CW.region ?_
    refine RW.v rfl (V.cmpInt rfl rfl rfl rfl) ?_
    refine RW.v rfl (V.as (d := Bo (x.state == 2)) rfl rfl) ?_
    refine RW.nil ?_
    refine CW.le [(1, I now), (2, .obj b1 ((Stream.c x).map .r)), (4, .obj b2 [I 0, I 0, I 0, I 0, S (⟨#[]⟩), I 0, I 0, Bo false, S (⟨#[]⟩), .r (.v (.slice none 0 0)), Bo false, I 0, I 0]), (6, .obj b4 [I x.state, I x.iss, I x.una, I x.rcv, S x.wait, I x.sent, I x.fin, Bo x.peerFin, S x.in_, .w (sl 2 Late.c x.late) (g3 0 9), Bo x.owe, I x.due, I x.times]), (7, Bo v11), (30, I x.state), (31, Bo (x.state == 2))] rfl (Le.of rfl) ?_
    refine CW.cond rfl (fun h14 => ?_) (fun h14 => ?_)
    ·skip
     refine CW.le [(1, I now), (2, .obj b1 ((Stream.c x).map .r)), (4, .obj b2 [I 0, I 0, I 0, I 0, S (⟨#[]⟩), I 0, I 0, Bo false, S (⟨#[]⟩), .r (.v (.slice none 0 0)), Bo false, I 0, I 0]), (6, .obj b4 [I x.state, I x.iss, I x.una, I x.rcv, S x.wait, I x.sent, I x.fin, Bo x.peerFin, S x.in_, .w (sl 2 Late.c x.late) (g3 0 9), Bo x.owe, I x.due, I x.times]), (7, Bo v11), (30, I x.state), (31, Bo true)] rfl (Le.c rfl <| Le.c rfl <| Le.c rfl <| Le.c rfl <| Le.c rfl <| Le.c rfl <| Le.c (congrArg Bo h14) <| Le.e) ?_
     refine CW.skip ?_
     refine CW.le [(1, I now), (2, .obj b1 ((Stream.c x).map .r)), (4, .obj b2 [I 0, I 0, I 0, I 0, S (⟨#[]⟩), I 0, I 0, Bo false, S (⟨#[]⟩), .r (.v (.slice none 0 0)), Bo false, I 0, I 0]), (6, .obj b4 [I x.state, I x.iss, I x.una, I x.rcv, S x.wait, I x.sent, I x.fin, Bo x.peerFin, S x.in_, .w (sl 2 Late.c x.late) (g3 0 9), Bo x.owe, I x.due, I x.times]), (7, Bo v11), (30, I x.state), (31, Bo true)] rfl (Le.of rfl) ?_
     refine CW.condT rfl ?_
     refine CW.seq ?_
     refine CW.seq ?_
     refine CW.region ?_
     refine RW.v rfl (V.mv (d := Bo v11) rfl rfl) ?_
     refine RW.v rfl (V.not rfl rfl) ?_
     refine RW.nil ?_
     refine CW.le [(1, I now), (2, .obj b1 ((Stream.c x).map .r)), (4, .obj b2 [I 0, I 0, I 0, I 0, S (⟨#[]⟩), I 0, I 0, Bo false, S (⟨#[]⟩), .r (.v (.slice none 0 0)), Bo false, I 0, I 0]), (6, .obj b4 [I x.state, I x.iss, I x.una, I x.rcv, S x.wait, I x.sent, I x.fin, Bo x.peerFin, S x.in_, .w (sl 2 Late.c x.late) (g3 0 9), Bo x.owe, I x.due, I x.times]), (35, Bo (!v11))] rfl (Le.of rfl) ?_
     refine CW.cond rfl (fun h16 => ?_) (fun h16 => ?_)
     ·skip
      refine CW.seq ?_
      refine CW.region ?_
      refine RW.v rfl (V.loadAgg rfl rfl rfl rfl rfl (Nat.le_of_ble_eq_true rfl)) ?_
      refine RW.storeAgg (es := [I x.state, I x.iss, I x.una, I x.rcv, S x.wait, I x.sent, I x.fin, Bo x.peerFin, S x.in_, .al 6 (some 9) 2 x.late.length (g3 0 9) 0, Bo x.owe, I x.due, I x.times]) rfl rfl rfl rfl rfl rfl rfl rfl (Nat.le_of_ble_eq_true rfl) rfl ?_
      refine RW.le [(4, .obj b2 [I x.state, I x.iss, I x.una, I x.rcv, S x.wait, I x.sent, I x.fin, Bo x.peerFin, S x.in_, .al 6 (some 9) 2 x.late.length (g3 0 9) 0, Bo x.owe, I x.due, I x.times]), (6, .obj b4 [I x.state, I x.iss, I x.una, I x.rcv, S x.wait, I x.sent, I x.fin, Bo x.peerFin, S x.in_, .w (sl 2 Late.c x.late) (g3 0 9), Bo x.owe, I x.due, I x.times])] rfl (Le.of rfl) ?_
      refine RW.pullO (k := 4) (l := 6) (j := 9) 4 6 9 rfl rfl rfl (by decide) rfl rfl rfl rfl ?_
      refine RW.le [(4, .obj b2 [I x.state, I x.iss, I x.una, I x.rcv, S x.wait, I x.sent, I x.fin, Bo x.peerFin, S x.in_, .w (sl 2 Late.c x.late) (g3 0 9), Bo x.owe, I x.due, I x.times])] rfl (Le.of rfl) ?_
      refine RW.v rfl (V.as (d := .r (.v (.slice none 0 0))) rfl rfl) ?_
      refine RW.nil ?_
      refine CW.le [(4, .obj b2 [I x.state, I x.iss, I x.una, I x.rcv, S x.wait, I x.sent, I x.fin, Bo x.peerFin, S x.in_, .w (sl 2 Late.c x.late) (g3 0 9), Bo x.owe, I x.due, I x.times]), (5, .r (.v (.slice none 0 0)))] rfl (Le.of rfl) ?_
      refine CW.ret ?_
      exact Post.tup (by decide) (RVs.c (RV.c (f := fun e => (Stream.c e).map .w) (e' := x) rfl rfl rfl rfl (DT.v (DT.v (DT.v (DT.v (DT.v (DT.v (DT.v (DT.v (DT.v (DT.w (DT.v (DT.v (DT.v DT.e))))))))))))) (by unfold pushN; first | (simp_all; done) | grind)) (RVs.c (RV.n rfl (by unfold pushN; first | (simp_all; done) | grind)) RVs.e)) (AOs.a rfl (AOs.r AOs.e))
     ·skip
      refine CW.skip ?_
      refine CW.le [(1, I now), (2, .obj b1 ((Stream.c x).map .r)), (4, .obj b2 [I 0, I 0, I 0, I 0, S (⟨#[]⟩), I 0, I 0, Bo false, S (⟨#[]⟩), .r (.v (.slice none 0 0)), Bo false, I 0, I 0]), (6, .obj b4 [I x.state, I x.iss, I x.una, I x.rcv, S x.wait, I x.sent, I x.fin, Bo x.peerFin, S x.in_, .w (sl 2 Late.c x.late) (g3 0 9), Bo x.owe, I x.due, I x.times])] rfl (Le.of rfl) ?_
      refine CW.seq ?_
      refine CW.region ?_
      refine RW.v rfl (V.mv (d := I now) rfl rfl) ?_
      refine RW.callW (k := 6) (__impl_Stream__again_fn x now (by have := streamOk_all hxo; omega)) rfl rfl (Nat.le_of_ble_eq_true rfl) (by decide) (.here (AsW.ob (DT.v (DT.v (DT.v (DT.v (DT.v (DT.v (DT.v (DT.v (DT.v (DT.w (DT.v (DT.v (DT.v DT.e))))))))))))) rfl) (.cons (.one (.r .r)) (.nil))) rfl fun g17 q18 => ?_
      refine RW.nil ?_
      refine CW.le [(2, .obj b1 ((Stream.c x).map .r)), (4, .obj b2 [I 0, I 0, I 0, I 0, S (⟨#[]⟩), I 0, I 0, Bo false, S (⟨#[]⟩), .r (.v (.slice none 0 0)), Bo false, I 0, I 0]), (6, .obj b4 [I ((againN x now).state), I ((againN x now).iss), I ((againN x now).una), I ((againN x now).rcv), S ((againN x now).wait), I ((againN x now).sent), I ((againN x now).fin), Bo ((againN x now).peerFin), S ((againN x now).in_), .w (sl 2 Late.c ((againN x now).late)) (q18 9), Bo ((againN x now).owe), I ((againN x now).due), I ((againN x now).times)])] rfl (Le.of rfl) ?_
      refine CW.seq ?_
      refine CW.seq ?_
      refine CW.region ?_
      refine RW.v rfl (V.field rfl rfl rfl rfl (by decide) rfl) ?_
      refine RW.v rfl (V.loadPrim (d := I x.state) rfl rfl (.inl rfl) rfl rfl rfl) ?_
      refine RW.v rfl (V.cmpInt rfl rfl rfl rfl) ?_
      refine RW.nil ?_
      refine CW.le [(2, .obj b1 ((Stream.c x).map .r)), (4, .obj b2 [I 0, I 0, I 0, I 0, S (⟨#[]⟩), I 0, I 0, Bo false, S (⟨#[]⟩), .r (.v (.slice none 0 0)), Bo false, I 0, I 0]), (6, .obj b4 [I ((againN x now).state), I ((againN x now).iss), I ((againN x now).una), I ((againN x now).rcv), S ((againN x now).wait), I ((againN x now).sent), I ((againN x now).fin), Bo ((againN x now).peerFin), S ((againN x now).in_), .w (sl 2 Late.c ((againN x now).late)) (q18 9), Bo ((againN x now).owe), I ((againN x now).due), I ((againN x now).times)]), (41, Bo (x.state == 2))] rfl (Le.of rfl) ?_
      refine CW.cond rfl (fun h19 => ?_) (fun h19 => ?_)
      ·skip
       refine CW.anyJ (fc := []) 62 (fun (Xo20_4_1 : Value) => [(4, .obj b2 [I ((againN x now).state), I ((againN x now).iss), I ((againN x now).una), I ((againN x now).rcv), S ((againN x now).wait), I ((againN x now).sent), I ((againN x now).fin), Bo ((againN x now).peerFin), S ((againN x now).in_), .w (sl 2 Late.c ((againN x now).late)) (q18 9), Bo ((againN x now).owe), I ((againN x now).due), I ((againN x now).times)]), (5, .w (sl 4 Seg.c ([(⟨x.iss, 0, 1, ⟨#[]⟩⟩ : Seg)])) Xo20_4_1)]) (fun all hall K hK => ?_) ?_
       ·skip
        have ro20_1111111 : ∀ (Xo20_4_1 : Value), RA [] E B all 0 #[true, true, true, true, true, true, true] ⟨62, [(4, .obj b2 [I ((againN x now).state), I ((againN x now).iss), I ((againN x now).una), I ((againN x now).rcv), S ((againN x now).wait), I ((againN x now).sent), I ((againN x now).fin), Bo ((againN x now).peerFin), S ((againN x now).in_), .w (sl 2 Late.c ((againN x now).late)) (q18 9), Bo ((againN x now).owe), I ((againN x now).due), I ((againN x now).times)]), (5, .w (sl 4 Seg.c ([(⟨x.iss, 0, 1, ⟨#[]⟩⟩ : Seg)])) Xo20_4_1)]⟩ K := by
         intro Xo20_4_1
         exact RA.of hall (RA.finH Tell.e (by kernel_rfl) (hK Xo20_4_1 _ rfl (Le.of rfl)))
        have ro20_1111110 : ∀ (Xo20_4_1 : Value), RA [] E B all 1 #[true, true, true, true, true, true, false] ⟨62, [(4, .obj b2 [I ((againN x now).state), I ((againN x now).iss), I ((againN x now).una), I ((againN x now).rcv), S ((againN x now).wait), I ((againN x now).sent), I ((againN x now).fin), Bo ((againN x now).peerFin), S ((againN x now).in_), .w (sl 2 Late.c ((againN x now).late)) (q18 9), Bo ((againN x now).owe), I ((againN x now).due), I ((againN x now).times)]), (46, .w (sl 4 Seg.c ([(⟨x.iss, 0, 1, ⟨#[]⟩⟩ : Seg)])) Xo20_4_1)]⟩ K := by
         intro Xo20_4_1
         refine RA.of hall (RA.stepH (L := [6]) Tell.e (by kernel_rfl) (by simp) (RA.each ?_ (RA.each0)))
         ·skip
          refine RO.assignMove rfl rfl rfl rfl rfl (by decide) (Nat.le_of_ble_eq_true rfl) (Nat.le_of_ble_eq_true rfl) ?_
          exact RA.to hall (RA.lr (ro20_1111111 Xo20_4_1) rfl rfl)
        have ro20_1111010 : RA [] E B all 2 #[true, true, true, true, false, true, false] ⟨62, [(4, .obj b2 [I ((againN x now).state), I ((againN x now).iss), I ((againN x now).una), I ((againN x now).rcv), S ((againN x now).wait), I ((againN x now).sent), I ((againN x now).fin), Bo ((againN x now).peerFin), S ((againN x now).in_), .w (sl 2 Late.c ((againN x now).late)) (q18 9), Bo ((againN x now).owe), I ((againN x now).due), I ((againN x now).times)]), (45, .agg [I x.iss, I 0, I 1, S (⟨#[]⟩)])]⟩ K := by
         refine RA.of hall (RA.stepH (L := [4]) Tell.e (by kernel_rfl) (by simp) (RA.each ?_ (RA.each0)))
         ·skip
          refine RO.build1 (c := Seg.c) (v := (⟨x.iss, 0, 1, ⟨#[]⟩⟩ : Seg)) rfl rfl rfl rfl rfl rfl rfl rfl (DW.v (DW.v (DW.v (DW.v DW.e)))) Seg.len (by decide) (by decide) fun Xo20_4_1 => ?_
          exact RA.to hall (RA.lr (ro20_1111110 Xo20_4_1) rfl rfl)
        have ro20_1111100 : ∀ (Xo20_4_1 : Value), RA [] E B all 2 #[true, true, true, true, true, false, false] ⟨62, [(4, .obj b2 [I 0, I 0, I 0, I 0, S (⟨#[]⟩), I 0, I 0, Bo false, S (⟨#[]⟩), .r (.v (.slice none 0 0)), Bo false, I 0, I 0]), (6, .obj b4 [I ((againN x now).state), I ((againN x now).iss), I ((againN x now).una), I ((againN x now).rcv), S ((againN x now).wait), I ((againN x now).sent), I ((againN x now).fin), Bo ((againN x now).peerFin), S ((againN x now).in_), .w (sl 2 Late.c ((againN x now).late)) (q18 9), Bo ((againN x now).owe), I ((againN x now).due), I ((againN x now).times)]), (42, .agg [I ((againN x now).state), I ((againN x now).iss), I ((againN x now).una), I ((againN x now).rcv), S ((againN x now).wait), I ((againN x now).sent), I ((againN x now).fin), Bo ((againN x now).peerFin), S ((againN x now).in_), .al 6 (some 9) 2 (((againN x now).late).length) (q18 9) 0, Bo ((againN x now).owe), I ((againN x now).due), I ((againN x now).times)]), (46, .w (sl 4 Seg.c ([(⟨x.iss, 0, 1, ⟨#[]⟩⟩ : Seg)])) Xo20_4_1)]⟩ K := by
         intro Xo20_4_1
         refine RA.of hall (RA.stepH (L := [5]) Tell.e (by kernel_rfl) (by simp) (RA.each ?_ (RA.each0)))
         ·skip
          refine RO.storeAgg (es := [I ((againN x now).state), I ((againN x now).iss), I ((againN x now).una), I ((againN x now).rcv), S ((againN x now).wait), I ((againN x now).sent), I ((againN x now).fin), Bo ((againN x now).peerFin), S ((againN x now).in_), .al 6 (some 9) 2 (((againN x now).late).length) (q18 9) 0, Bo ((againN x now).owe), I ((againN x now).due), I ((againN x now).times)]) rfl rfl rfl rfl rfl rfl rfl rfl rfl rfl (Nat.le_of_ble_eq_true rfl) rfl ?_
          refine RA.le [(4, .obj b2 [I ((againN x now).state), I ((againN x now).iss), I ((againN x now).una), I ((againN x now).rcv), S ((againN x now).wait), I ((againN x now).sent), I ((againN x now).fin), Bo ((againN x now).peerFin), S ((againN x now).in_), .al 6 (some 9) 2 (((againN x now).late).length) (q18 9) 0, Bo ((againN x now).owe), I ((againN x now).due), I ((againN x now).times)]), (6, .obj b4 [I ((againN x now).state), I ((againN x now).iss), I ((againN x now).una), I ((againN x now).rcv), S ((againN x now).wait), I ((againN x now).sent), I ((againN x now).fin), Bo ((againN x now).peerFin), S ((againN x now).in_), .w (sl 2 Late.c ((againN x now).late)) (q18 9), Bo ((againN x now).owe), I ((againN x now).due), I ((againN x now).times)]), (46, .w (sl 4 Seg.c ([(⟨x.iss, 0, 1, ⟨#[]⟩⟩ : Seg)])) Xo20_4_1)] rfl (Le.of rfl) ?_
          refine RA.pullO (k := 4) (l := 6) (j := 9) 4 6 9 rfl rfl rfl (by decide) rfl rfl rfl rfl ?_
          refine RA.le [(4, .obj b2 [I ((againN x now).state), I ((againN x now).iss), I ((againN x now).una), I ((againN x now).rcv), S ((againN x now).wait), I ((againN x now).sent), I ((againN x now).fin), Bo ((againN x now).peerFin), S ((againN x now).in_), .w (sl 2 Late.c ((againN x now).late)) (q18 9), Bo ((againN x now).owe), I ((againN x now).due), I ((againN x now).times)]), (46, .w (sl 4 Seg.c ([(⟨x.iss, 0, 1, ⟨#[]⟩⟩ : Seg)])) Xo20_4_1)] rfl (Le.of rfl) ?_
          exact RA.to hall (RA.lr (ro20_1111110 Xo20_4_1) rfl rfl)
        have ro20_0111100 : ∀ (Xo20_4_1 : Value), RA [] E B all 3 #[false, true, true, true, true, false, false] ⟨62, [(4, .obj b2 [I 0, I 0, I 0, I 0, S (⟨#[]⟩), I 0, I 0, Bo false, S (⟨#[]⟩), .r (.v (.slice none 0 0)), Bo false, I 0, I 0]), (6, .obj b4 [I ((againN x now).state), I ((againN x now).iss), I ((againN x now).una), I ((againN x now).rcv), S ((againN x now).wait), I ((againN x now).sent), I ((againN x now).fin), Bo ((againN x now).peerFin), S ((againN x now).in_), .w (sl 2 Late.c ((againN x now).late)) (q18 9), Bo ((againN x now).owe), I ((againN x now).due), I ((againN x now).times)]), (46, .w (sl 4 Seg.c ([(⟨x.iss, 0, 1, ⟨#[]⟩⟩ : Seg)])) Xo20_4_1)]⟩ K := by
         intro Xo20_4_1
         refine RA.of hall (RA.stepH (L := [0]) Tell.e (by kernel_rfl) (by simp) (RA.each ?_ (RA.each0)))
         ·skip
          refine RO.v rfl rfl (V.loadAgg rfl rfl rfl rfl rfl (Nat.le_of_ble_eq_true rfl)) rfl ?_
          exact RA.to hall (RA.lr (ro20_1111100 Xo20_4_1) rfl rfl)
        have ro20_1111000 : RA [] E B all 3 #[true, true, true, true, false, false, false] ⟨62, [(4, .obj b2 [I 0, I 0, I 0, I 0, S (⟨#[]⟩), I 0, I 0, Bo false, S (⟨#[]⟩), .r (.v (.slice none 0 0)), Bo false, I 0, I 0]), (6, .obj b4 [I ((againN x now).state), I ((againN x now).iss), I ((againN x now).una), I ((againN x now).rcv), S ((againN x now).wait), I ((againN x now).sent), I ((againN x now).fin), Bo ((againN x now).peerFin), S ((againN x now).in_), .w (sl 2 Late.c ((againN x now).late)) (q18 9), Bo ((againN x now).owe), I ((againN x now).due), I ((againN x now).times)]), (42, .agg [I ((againN x now).state), I ((againN x now).iss), I ((againN x now).una), I ((againN x now).rcv), S ((againN x now).wait), I ((againN x now).sent), I ((againN x now).fin), Bo ((againN x now).peerFin), S ((againN x now).in_), .al 6 (some 9) 2 (((againN x now).late).length) (q18 9) 0, Bo ((againN x now).owe), I ((againN x now).due), I ((againN x now).times)]), (45, .agg [I x.iss, I 0, I 1, S (⟨#[]⟩)])]⟩ K := by
         refine RA.of hall (RA.stepH (L := [4, 5]) Tell.e (by kernel_rfl) (by simp) (RA.each ?_ (RA.each ?_ (RA.each0))))
         ·skip
          refine RO.build1 (c := Seg.c) (v := (⟨x.iss, 0, 1, ⟨#[]⟩⟩ : Seg)) rfl rfl rfl rfl rfl rfl rfl rfl (DW.v (DW.v (DW.v (DW.v DW.e)))) Seg.len (by decide) (by decide) fun Xo20_4_1 => ?_
          exact RA.to hall (RA.lr (ro20_1111100 Xo20_4_1) rfl rfl)
         ·skip
          refine RO.storeAgg (es := [I ((againN x now).state), I ((againN x now).iss), I ((againN x now).una), I ((againN x now).rcv), S ((againN x now).wait), I ((againN x now).sent), I ((againN x now).fin), Bo ((againN x now).peerFin), S ((againN x now).in_), .al 6 (some 9) 2 (((againN x now).late).length) (q18 9) 0, Bo ((againN x now).owe), I ((againN x now).due), I ((againN x now).times)]) rfl rfl rfl rfl rfl rfl rfl rfl rfl rfl (Nat.le_of_ble_eq_true rfl) rfl ?_
          refine RA.le [(4, .obj b2 [I ((againN x now).state), I ((againN x now).iss), I ((againN x now).una), I ((againN x now).rcv), S ((againN x now).wait), I ((againN x now).sent), I ((againN x now).fin), Bo ((againN x now).peerFin), S ((againN x now).in_), .al 6 (some 9) 2 (((againN x now).late).length) (q18 9) 0, Bo ((againN x now).owe), I ((againN x now).due), I ((againN x now).times)]), (6, .obj b4 [I ((againN x now).state), I ((againN x now).iss), I ((againN x now).una), I ((againN x now).rcv), S ((againN x now).wait), I ((againN x now).sent), I ((againN x now).fin), Bo ((againN x now).peerFin), S ((againN x now).in_), .w (sl 2 Late.c ((againN x now).late)) (q18 9), Bo ((againN x now).owe), I ((againN x now).due), I ((againN x now).times)]), (45, .agg [I x.iss, I 0, I 1, S (⟨#[]⟩)])] rfl (Le.of rfl) ?_
          refine RA.pullO (k := 4) (l := 6) (j := 9) 4 6 9 rfl rfl rfl (by decide) rfl rfl rfl rfl ?_
          refine RA.le [(4, .obj b2 [I ((againN x now).state), I ((againN x now).iss), I ((againN x now).una), I ((againN x now).rcv), S ((againN x now).wait), I ((againN x now).sent), I ((againN x now).fin), Bo ((againN x now).peerFin), S ((againN x now).in_), .w (sl 2 Late.c ((againN x now).late)) (q18 9), Bo ((againN x now).owe), I ((againN x now).due), I ((againN x now).times)]), (45, .agg [I x.iss, I 0, I 1, S (⟨#[]⟩)])] rfl (Le.of rfl) ?_
          exact RA.to hall (RA.lr ro20_1111010 rfl rfl)
        have ro20_1100010 : RA [] E B all 4 #[true, true, false, false, false, true, false] ⟨62, [(2, .obj b1 ((Stream.c x).map .r)), (4, .obj b2 [I ((againN x now).state), I ((againN x now).iss), I ((againN x now).una), I ((againN x now).rcv), S ((againN x now).wait), I ((againN x now).sent), I ((againN x now).fin), Bo ((againN x now).peerFin), S ((againN x now).in_), .w (sl 2 Late.c ((againN x now).late)) (q18 9), Bo ((againN x now).owe), I ((againN x now).due), I ((againN x now).times)]), (43, .pt 2 b1 1)]⟩ K := by
         refine RA.of hall (RA.stepH (L := [2]) Tell.e (by kernel_rfl) (by simp) (RA.each ?_ (RA.each0)))
         ·skip
          refine RO.v rfl rfl (V.loadPrim (d := I x.iss) rfl rfl (.inl rfl) rfl rfl rfl) rfl ?_
          refine RA.first (i := 3) (ls' := #[true, true, true, true, false, true, false]) Tell.e (by kernel_rfl) rfl rfl rfl (VF.p (V.build (ds := [I x.iss, I 0, I 1, S (⟨#[]⟩)]) rfl rfl rfl rfl (.one rfl rfl rfl (Nat.le_of_ble_eq_true rfl) (.one rfl rfl rfl (Nat.le_of_ble_eq_true rfl) (.nil))))) ?_
          exact RA.to hall (RA.lr ro20_1111010 rfl rfl)
        have ro20_0111000 : RA [] E B all 4 #[false, true, true, true, false, false, false] ⟨62, [(4, .obj b2 [I 0, I 0, I 0, I 0, S (⟨#[]⟩), I 0, I 0, Bo false, S (⟨#[]⟩), .r (.v (.slice none 0 0)), Bo false, I 0, I 0]), (6, .obj b4 [I ((againN x now).state), I ((againN x now).iss), I ((againN x now).una), I ((againN x now).rcv), S ((againN x now).wait), I ((againN x now).sent), I ((againN x now).fin), Bo ((againN x now).peerFin), S ((againN x now).in_), .w (sl 2 Late.c ((againN x now).late)) (q18 9), Bo ((againN x now).owe), I ((againN x now).due), I ((againN x now).times)]), (45, .agg [I x.iss, I 0, I 1, S (⟨#[]⟩)])]⟩ K := by
         refine RA.of hall (RA.stepH (L := [0, 4]) Tell.e (by kernel_rfl) (by simp) (RA.each ?_ (RA.each ?_ (RA.each0))))
         ·skip
          refine RO.v rfl rfl (V.loadAgg rfl rfl rfl rfl rfl (Nat.le_of_ble_eq_true rfl)) rfl ?_
          exact RA.to hall (RA.lr ro20_1111000 rfl rfl)
         ·skip
          refine RO.build1 (c := Seg.c) (v := (⟨x.iss, 0, 1, ⟨#[]⟩⟩ : Seg)) rfl rfl rfl rfl rfl rfl rfl rfl (DW.v (DW.v (DW.v (DW.v DW.e)))) Seg.len (by decide) (by decide) fun Xo20_4_1 => ?_
          exact RA.to hall (RA.lr (ro20_0111100 Xo20_4_1) rfl rfl)
        have ro20_1100000 : RA [] E B all 5 #[true, true, false, false, false, false, false] ⟨62, [(2, .obj b1 ((Stream.c x).map .r)), (4, .obj b2 [I 0, I 0, I 0, I 0, S (⟨#[]⟩), I 0, I 0, Bo false, S (⟨#[]⟩), .r (.v (.slice none 0 0)), Bo false, I 0, I 0]), (6, .obj b4 [I ((againN x now).state), I ((againN x now).iss), I ((againN x now).una), I ((againN x now).rcv), S ((againN x now).wait), I ((againN x now).sent), I ((againN x now).fin), Bo ((againN x now).peerFin), S ((againN x now).in_), .w (sl 2 Late.c ((againN x now).late)) (q18 9), Bo ((againN x now).owe), I ((againN x now).due), I ((againN x now).times)]), (42, .agg [I ((againN x now).state), I ((againN x now).iss), I ((againN x now).una), I ((againN x now).rcv), S ((againN x now).wait), I ((againN x now).sent), I ((againN x now).fin), Bo ((againN x now).peerFin), S ((againN x now).in_), .al 6 (some 9) 2 (((againN x now).late).length) (q18 9) 0, Bo ((againN x now).owe), I ((againN x now).due), I ((againN x now).times)]), (43, .pt 2 b1 1)]⟩ K := by
         refine RA.of hall (RA.stepH (L := [2, 5]) Tell.e (by kernel_rfl) (by simp) (RA.each ?_ (RA.each ?_ (RA.each0))))
         ·skip
          refine RO.v rfl rfl (V.loadPrim (d := I x.iss) rfl rfl (.inl rfl) rfl rfl rfl) rfl ?_
          refine RA.first (i := 3) (ls' := #[true, true, true, true, false, false, false]) Tell.e (by kernel_rfl) rfl rfl rfl (VF.p (V.build (ds := [I x.iss, I 0, I 1, S (⟨#[]⟩)]) rfl rfl rfl rfl (.one rfl rfl rfl (Nat.le_of_ble_eq_true rfl) (.one rfl rfl rfl (Nat.le_of_ble_eq_true rfl) (.nil))))) ?_
          exact RA.to hall (RA.lr ro20_1111000 rfl rfl)
         ·skip
          refine RO.storeAgg (es := [I ((againN x now).state), I ((againN x now).iss), I ((againN x now).una), I ((againN x now).rcv), S ((againN x now).wait), I ((againN x now).sent), I ((againN x now).fin), Bo ((againN x now).peerFin), S ((againN x now).in_), .al 6 (some 9) 2 (((againN x now).late).length) (q18 9) 0, Bo ((againN x now).owe), I ((againN x now).due), I ((againN x now).times)]) rfl rfl rfl rfl rfl rfl rfl rfl rfl rfl (Nat.le_of_ble_eq_true rfl) rfl ?_
          refine RA.le [(2, .obj b1 ((Stream.c x).map .r)), (4, .obj b2 [I ((againN x now).state), I ((againN x now).iss), I ((againN x now).una), I ((againN x now).rcv), S ((againN x now).wait), I ((againN x now).sent), I ((againN x now).fin), Bo ((againN x now).peerFin), S ((againN x now).in_), .al 6 (some 9) 2 (((againN x now).late).length) (q18 9) 0, Bo ((againN x now).owe), I ((againN x now).due), I ((againN x now).times)]), (6, .obj b4 [I ((againN x now).state), I ((againN x now).iss), I ((againN x now).una), I ((againN x now).rcv), S ((againN x now).wait), I ((againN x now).sent), I ((againN x now).fin), Bo ((againN x now).peerFin), S ((againN x now).in_), .w (sl 2 Late.c ((againN x now).late)) (q18 9), Bo ((againN x now).owe), I ((againN x now).due), I ((againN x now).times)]), (43, .pt 2 b1 1)] rfl (Le.of rfl) ?_
          refine RA.pullO (k := 4) (l := 6) (j := 9) 4 6 9 rfl rfl rfl (by decide) rfl rfl rfl rfl ?_
          refine RA.le [(2, .obj b1 ((Stream.c x).map .r)), (4, .obj b2 [I ((againN x now).state), I ((againN x now).iss), I ((againN x now).una), I ((againN x now).rcv), S ((againN x now).wait), I ((againN x now).sent), I ((againN x now).fin), Bo ((againN x now).peerFin), S ((againN x now).in_), .w (sl 2 Late.c ((againN x now).late)) (q18 9), Bo ((againN x now).owe), I ((againN x now).due), I ((againN x now).times)]), (43, .pt 2 b1 1)] rfl (Le.of rfl) ?_
          exact RA.to hall (RA.lr ro20_1100010 rfl rfl)
        have ro20_0100000 : RA [] E B all 6 #[false, true, false, false, false, false, false] ⟨62, [(2, .obj b1 ((Stream.c x).map .r)), (4, .obj b2 [I 0, I 0, I 0, I 0, S (⟨#[]⟩), I 0, I 0, Bo false, S (⟨#[]⟩), .r (.v (.slice none 0 0)), Bo false, I 0, I 0]), (6, .obj b4 [I ((againN x now).state), I ((againN x now).iss), I ((againN x now).una), I ((againN x now).rcv), S ((againN x now).wait), I ((againN x now).sent), I ((againN x now).fin), Bo ((againN x now).peerFin), S ((againN x now).in_), .w (sl 2 Late.c ((againN x now).late)) (q18 9), Bo ((againN x now).owe), I ((againN x now).due), I ((againN x now).times)]), (43, .pt 2 b1 1)]⟩ K := by
         refine RA.of hall (RA.stepH (L := [0, 2]) Tell.e (by kernel_rfl) (by simp) (RA.each ?_ (RA.each ?_ (RA.each0))))
         ·skip
          refine RO.v rfl rfl (V.loadAgg rfl rfl rfl rfl rfl (Nat.le_of_ble_eq_true rfl)) rfl ?_
          exact RA.to hall (RA.lr ro20_1100000 rfl rfl)
         ·skip
          refine RO.v rfl rfl (V.loadPrim (d := I x.iss) rfl rfl (.inl rfl) rfl rfl rfl) rfl ?_
          refine RA.first (i := 3) (ls' := #[false, true, true, true, false, false, false]) Tell.e (by kernel_rfl) rfl rfl rfl (VF.p (V.build (ds := [I x.iss, I 0, I 1, S (⟨#[]⟩)]) rfl rfl rfl rfl (.one rfl rfl rfl (Nat.le_of_ble_eq_true rfl) (.one rfl rfl rfl (Nat.le_of_ble_eq_true rfl) (.nil))))) ?_
          exact RA.to hall (RA.lr ro20_0111000 rfl rfl)
        have ro20_S : RA [] E B all 7 #[false, false, false, false, false, false, false] ⟨62, [(2, .obj b1 ((Stream.c x).map .r)), (4, .obj b2 [I 0, I 0, I 0, I 0, S (⟨#[]⟩), I 0, I 0, Bo false, S (⟨#[]⟩), .r (.v (.slice none 0 0)), Bo false, I 0, I 0]), (6, .obj b4 [I ((againN x now).state), I ((againN x now).iss), I ((againN x now).una), I ((againN x now).rcv), S ((againN x now).wait), I ((againN x now).sent), I ((againN x now).fin), Bo ((againN x now).peerFin), S ((againN x now).in_), .w (sl 2 Late.c ((againN x now).late)) (q18 9), Bo ((againN x now).owe), I ((againN x now).due), I ((againN x now).times)])]⟩ K := by
         refine RA.of hall ?_
         refine RA.first (i := 1) (ls' := #[false, true, false, false, false, false, false]) Tell.e (by kernel_rfl) rfl rfl rfl (VF.p (V.field rfl rfl rfl rfl (by decide) rfl)) ?_
         exact RA.to hall (RA.lr ro20_0100000 rfl rfl)
        exact RA.start (by kernel_rfl) (by kernel_rfl) (RA.lr ro20_S rfl rfl)
       ·rintro Xo20_4_1
        refine CW.ret ?_
        exact Post.tup (by decide) (RVs.c (RV.c (f := fun e => (Stream.c e).map .w) (e' := (againN x now)) rfl rfl rfl rfl (DT.v (DT.v (DT.v (DT.v (DT.v (DT.v (DT.v (DT.v (DT.v (DT.w (DT.v (DT.v (DT.v DT.e))))))))))))) (by unfold pushN; first | (simp_all; done) | grind)) (RVs.c (RV.w rfl (by unfold pushN; first | (simp_all; done) | grind)) RVs.e)) (AOs.a rfl (AOs.r AOs.e))
      ·skip
       refine CW.skip ?_
       refine CW.le [(2, .obj b1 ((Stream.c x).map .r)), (4, .obj b2 [I 0, I 0, I 0, I 0, S (⟨#[]⟩), I 0, I 0, Bo false, S (⟨#[]⟩), .r (.v (.slice none 0 0)), Bo false, I 0, I 0]), (6, .obj b4 [I ((againN x now).state), I ((againN x now).iss), I ((againN x now).una), I ((againN x now).rcv), S ((againN x now).wait), I ((againN x now).sent), I ((againN x now).fin), Bo ((againN x now).peerFin), S ((againN x now).in_), .w (sl 2 Late.c ((againN x now).late)) (q18 9), Bo ((againN x now).owe), I ((againN x now).due), I ((againN x now).times)])] rfl (Le.of rfl) ?_
       refine CW.anyJ (fc := []) 62 (fun (Xo21_6_1 : Value) => [(4, .obj b2 [I ((againN x now).state), I ((againN x now).iss), I ((againN x now).una), I ((againN x now).rcv), S ((againN x now).wait), I ((againN x now).sent), I ((againN x now).fin), Bo ((againN x now).peerFin), S ((againN x now).in_), .w (sl 2 Late.c ((againN x now).late)) (q18 9), Bo ((againN x now).owe), I ((againN x now).due), I ((againN x now).times)]), (5, .w (sl 4 Seg.c ([(⟨x.iss, x.rcv, 3, ⟨#[]⟩⟩ : Seg)])) Xo21_6_1)]) (fun all hall K hK => ?_) ?_
       ·skip
        have ro21_111111111 : ∀ (Xo21_6_1 : Value), RA [] E B all 0 #[true, true, true, true, true, true, true, true, true] ⟨62, [(4, .obj b2 [I ((againN x now).state), I ((againN x now).iss), I ((againN x now).una), I ((againN x now).rcv), S ((againN x now).wait), I ((againN x now).sent), I ((againN x now).fin), Bo ((againN x now).peerFin), S ((againN x now).in_), .w (sl 2 Late.c ((againN x now).late)) (q18 9), Bo ((againN x now).owe), I ((againN x now).due), I ((againN x now).times)]), (5, .w (sl 4 Seg.c ([(⟨x.iss, x.rcv, 3, ⟨#[]⟩⟩ : Seg)])) Xo21_6_1)]⟩ K := by
         intro Xo21_6_1
         exact RA.of hall (RA.finH Tell.e (by kernel_rfl) (hK Xo21_6_1 _ rfl (Le.of rfl)))
        have ro21_111111110 : ∀ (Xo21_6_1 : Value), RA [] E B all 1 #[true, true, true, true, true, true, true, true, false] ⟨62, [(4, .obj b2 [I ((againN x now).state), I ((againN x now).iss), I ((againN x now).una), I ((againN x now).rcv), S ((againN x now).wait), I ((againN x now).sent), I ((againN x now).fin), Bo ((againN x now).peerFin), S ((againN x now).in_), .w (sl 2 Late.c ((againN x now).late)) (q18 9), Bo ((againN x now).owe), I ((againN x now).due), I ((againN x now).times)]), (53, .w (sl 4 Seg.c ([(⟨x.iss, x.rcv, 3, ⟨#[]⟩⟩ : Seg)])) Xo21_6_1)]⟩ K := by
         intro Xo21_6_1
         refine RA.of hall (RA.stepH (L := [8]) Tell.e (by kernel_rfl) (by simp) (RA.each ?_ (RA.each0)))
         ·skip
          refine RO.assignMove rfl rfl rfl rfl rfl (by decide) (Nat.le_of_ble_eq_true rfl) (Nat.le_of_ble_eq_true rfl) ?_
          exact RA.to hall (RA.lr (ro21_111111111 Xo21_6_1) rfl rfl)
        have ro21_111111010 : RA [] E B all 2 #[true, true, true, true, true, true, false, true, false] ⟨62, [(4, .obj b2 [I ((againN x now).state), I ((againN x now).iss), I ((againN x now).una), I ((againN x now).rcv), S ((againN x now).wait), I ((againN x now).sent), I ((againN x now).fin), Bo ((againN x now).peerFin), S ((againN x now).in_), .w (sl 2 Late.c ((againN x now).late)) (q18 9), Bo ((againN x now).owe), I ((againN x now).due), I ((againN x now).times)]), (52, .agg [I x.iss, I x.rcv, I 3, S (⟨#[]⟩)])]⟩ K := by
         refine RA.of hall (RA.stepH (L := [6]) Tell.e (by kernel_rfl) (by simp) (RA.each ?_ (RA.each0)))
         ·skip
          refine RO.build1 (c := Seg.c) (v := (⟨x.iss, x.rcv, 3, ⟨#[]⟩⟩ : Seg)) rfl rfl rfl rfl rfl rfl rfl rfl (DW.v (DW.v (DW.v (DW.v DW.e)))) Seg.len (by decide) (by decide) fun Xo21_6_1 => ?_
          exact RA.to hall (RA.lr (ro21_111111110 Xo21_6_1) rfl rfl)
        have ro21_111111100 : ∀ (Xo21_6_1 : Value), RA [] E B all 2 #[true, true, true, true, true, true, true, false, false] ⟨62, [(4, .obj b2 [I 0, I 0, I 0, I 0, S (⟨#[]⟩), I 0, I 0, Bo false, S (⟨#[]⟩), .r (.v (.slice none 0 0)), Bo false, I 0, I 0]), (6, .obj b4 [I ((againN x now).state), I ((againN x now).iss), I ((againN x now).una), I ((againN x now).rcv), S ((againN x now).wait), I ((againN x now).sent), I ((againN x now).fin), Bo ((againN x now).peerFin), S ((againN x now).in_), .w (sl 2 Late.c ((againN x now).late)) (q18 9), Bo ((againN x now).owe), I ((againN x now).due), I ((againN x now).times)]), (47, .agg [I ((againN x now).state), I ((againN x now).iss), I ((againN x now).una), I ((againN x now).rcv), S ((againN x now).wait), I ((againN x now).sent), I ((againN x now).fin), Bo ((againN x now).peerFin), S ((againN x now).in_), .al 6 (some 9) 2 (((againN x now).late).length) (q18 9) 0, Bo ((againN x now).owe), I ((againN x now).due), I ((againN x now).times)]), (53, .w (sl 4 Seg.c ([(⟨x.iss, x.rcv, 3, ⟨#[]⟩⟩ : Seg)])) Xo21_6_1)]⟩ K := by
         intro Xo21_6_1
         refine RA.of hall (RA.stepH (L := [7]) Tell.e (by kernel_rfl) (by simp) (RA.each ?_ (RA.each0)))
         ·skip
          refine RO.storeAgg (es := [I ((againN x now).state), I ((againN x now).iss), I ((againN x now).una), I ((againN x now).rcv), S ((againN x now).wait), I ((againN x now).sent), I ((againN x now).fin), Bo ((againN x now).peerFin), S ((againN x now).in_), .al 6 (some 9) 2 (((againN x now).late).length) (q18 9) 0, Bo ((againN x now).owe), I ((againN x now).due), I ((againN x now).times)]) rfl rfl rfl rfl rfl rfl rfl rfl rfl rfl (Nat.le_of_ble_eq_true rfl) rfl ?_
          refine RA.le [(4, .obj b2 [I ((againN x now).state), I ((againN x now).iss), I ((againN x now).una), I ((againN x now).rcv), S ((againN x now).wait), I ((againN x now).sent), I ((againN x now).fin), Bo ((againN x now).peerFin), S ((againN x now).in_), .al 6 (some 9) 2 (((againN x now).late).length) (q18 9) 0, Bo ((againN x now).owe), I ((againN x now).due), I ((againN x now).times)]), (6, .obj b4 [I ((againN x now).state), I ((againN x now).iss), I ((againN x now).una), I ((againN x now).rcv), S ((againN x now).wait), I ((againN x now).sent), I ((againN x now).fin), Bo ((againN x now).peerFin), S ((againN x now).in_), .w (sl 2 Late.c ((againN x now).late)) (q18 9), Bo ((againN x now).owe), I ((againN x now).due), I ((againN x now).times)]), (53, .w (sl 4 Seg.c ([(⟨x.iss, x.rcv, 3, ⟨#[]⟩⟩ : Seg)])) Xo21_6_1)] rfl (Le.of rfl) ?_
          refine RA.pullO (k := 4) (l := 6) (j := 9) 4 6 9 rfl rfl rfl (by decide) rfl rfl rfl rfl ?_
          refine RA.le [(4, .obj b2 [I ((againN x now).state), I ((againN x now).iss), I ((againN x now).una), I ((againN x now).rcv), S ((againN x now).wait), I ((againN x now).sent), I ((againN x now).fin), Bo ((againN x now).peerFin), S ((againN x now).in_), .w (sl 2 Late.c ((againN x now).late)) (q18 9), Bo ((againN x now).owe), I ((againN x now).due), I ((againN x now).times)]), (53, .w (sl 4 Seg.c ([(⟨x.iss, x.rcv, 3, ⟨#[]⟩⟩ : Seg)])) Xo21_6_1)] rfl (Le.of rfl) ?_
          exact RA.to hall (RA.lr (ro21_111111110 Xo21_6_1) rfl rfl)
        have ro21_011111100 : ∀ (Xo21_6_1 : Value), RA [] E B all 3 #[false, true, true, true, true, true, true, false, false] ⟨62, [(4, .obj b2 [I 0, I 0, I 0, I 0, S (⟨#[]⟩), I 0, I 0, Bo false, S (⟨#[]⟩), .r (.v (.slice none 0 0)), Bo false, I 0, I 0]), (6, .obj b4 [I ((againN x now).state), I ((againN x now).iss), I ((againN x now).una), I ((againN x now).rcv), S ((againN x now).wait), I ((againN x now).sent), I ((againN x now).fin), Bo ((againN x now).peerFin), S ((againN x now).in_), .w (sl 2 Late.c ((againN x now).late)) (q18 9), Bo ((againN x now).owe), I ((againN x now).due), I ((againN x now).times)]), (53, .w (sl 4 Seg.c ([(⟨x.iss, x.rcv, 3, ⟨#[]⟩⟩ : Seg)])) Xo21_6_1)]⟩ K := by
         intro Xo21_6_1
         refine RA.of hall (RA.stepH (L := [0]) Tell.e (by kernel_rfl) (by simp) (RA.each ?_ (RA.each0)))
         ·skip
          refine RO.v rfl rfl (V.loadAgg rfl rfl rfl rfl rfl (Nat.le_of_ble_eq_true rfl)) rfl ?_
          exact RA.to hall (RA.lr (ro21_111111100 Xo21_6_1) rfl rfl)
        have ro21_111111000 : RA [] E B all 3 #[true, true, true, true, true, true, false, false, false] ⟨62, [(4, .obj b2 [I 0, I 0, I 0, I 0, S (⟨#[]⟩), I 0, I 0, Bo false, S (⟨#[]⟩), .r (.v (.slice none 0 0)), Bo false, I 0, I 0]), (6, .obj b4 [I ((againN x now).state), I ((againN x now).iss), I ((againN x now).una), I ((againN x now).rcv), S ((againN x now).wait), I ((againN x now).sent), I ((againN x now).fin), Bo ((againN x now).peerFin), S ((againN x now).in_), .w (sl 2 Late.c ((againN x now).late)) (q18 9), Bo ((againN x now).owe), I ((againN x now).due), I ((againN x now).times)]), (47, .agg [I ((againN x now).state), I ((againN x now).iss), I ((againN x now).una), I ((againN x now).rcv), S ((againN x now).wait), I ((againN x now).sent), I ((againN x now).fin), Bo ((againN x now).peerFin), S ((againN x now).in_), .al 6 (some 9) 2 (((againN x now).late).length) (q18 9) 0, Bo ((againN x now).owe), I ((againN x now).due), I ((againN x now).times)]), (52, .agg [I x.iss, I x.rcv, I 3, S (⟨#[]⟩)])]⟩ K := by
         refine RA.of hall (RA.stepH (L := [6, 7]) Tell.e (by kernel_rfl) (by simp) (RA.each ?_ (RA.each ?_ (RA.each0))))
         ·skip
          refine RO.build1 (c := Seg.c) (v := (⟨x.iss, x.rcv, 3, ⟨#[]⟩⟩ : Seg)) rfl rfl rfl rfl rfl rfl rfl rfl (DW.v (DW.v (DW.v (DW.v DW.e)))) Seg.len (by decide) (by decide) fun Xo21_6_1 => ?_
          exact RA.to hall (RA.lr (ro21_111111100 Xo21_6_1) rfl rfl)
         ·skip
          refine RO.storeAgg (es := [I ((againN x now).state), I ((againN x now).iss), I ((againN x now).una), I ((againN x now).rcv), S ((againN x now).wait), I ((againN x now).sent), I ((againN x now).fin), Bo ((againN x now).peerFin), S ((againN x now).in_), .al 6 (some 9) 2 (((againN x now).late).length) (q18 9) 0, Bo ((againN x now).owe), I ((againN x now).due), I ((againN x now).times)]) rfl rfl rfl rfl rfl rfl rfl rfl rfl rfl (Nat.le_of_ble_eq_true rfl) rfl ?_
          refine RA.le [(4, .obj b2 [I ((againN x now).state), I ((againN x now).iss), I ((againN x now).una), I ((againN x now).rcv), S ((againN x now).wait), I ((againN x now).sent), I ((againN x now).fin), Bo ((againN x now).peerFin), S ((againN x now).in_), .al 6 (some 9) 2 (((againN x now).late).length) (q18 9) 0, Bo ((againN x now).owe), I ((againN x now).due), I ((againN x now).times)]), (6, .obj b4 [I ((againN x now).state), I ((againN x now).iss), I ((againN x now).una), I ((againN x now).rcv), S ((againN x now).wait), I ((againN x now).sent), I ((againN x now).fin), Bo ((againN x now).peerFin), S ((againN x now).in_), .w (sl 2 Late.c ((againN x now).late)) (q18 9), Bo ((againN x now).owe), I ((againN x now).due), I ((againN x now).times)]), (52, .agg [I x.iss, I x.rcv, I 3, S (⟨#[]⟩)])] rfl (Le.of rfl) ?_
          refine RA.pullO (k := 4) (l := 6) (j := 9) 4 6 9 rfl rfl rfl (by decide) rfl rfl rfl rfl ?_
          refine RA.le [(4, .obj b2 [I ((againN x now).state), I ((againN x now).iss), I ((againN x now).una), I ((againN x now).rcv), S ((againN x now).wait), I ((againN x now).sent), I ((againN x now).fin), Bo ((againN x now).peerFin), S ((againN x now).in_), .w (sl 2 Late.c ((againN x now).late)) (q18 9), Bo ((againN x now).owe), I ((againN x now).due), I ((againN x now).times)]), (52, .agg [I x.iss, I x.rcv, I 3, S (⟨#[]⟩)])] rfl (Le.of rfl) ?_
          exact RA.to hall (RA.lr ro21_111111010 rfl rfl)
        have ro21_110110010 : RA [] E B all 4 #[true, true, false, true, true, false, false, true, false] ⟨62, [(2, .obj b1 ((Stream.c x).map .r)), (4, .obj b2 [I ((againN x now).state), I ((againN x now).iss), I ((againN x now).una), I ((againN x now).rcv), S ((againN x now).wait), I ((againN x now).sent), I ((againN x now).fin), Bo ((againN x now).peerFin), S ((againN x now).in_), .w (sl 2 Late.c ((againN x now).late)) (q18 9), Bo ((againN x now).owe), I ((againN x now).due), I ((againN x now).times)]), (48, .pt 2 b1 1), (51, I x.rcv)]⟩ K := by
         refine RA.of hall (RA.stepH (L := [2]) Tell.e (by kernel_rfl) (by simp) (RA.each ?_ (RA.each0)))
         ·skip
          refine RO.v rfl rfl (V.loadPrim (d := I x.iss) rfl rfl (.inl rfl) rfl rfl rfl) rfl ?_
          refine RA.first (i := 5) (ls' := #[true, true, true, true, true, true, false, true, false]) Tell.e (by kernel_rfl) rfl rfl rfl (VF.p (V.build (ds := [I x.iss, I x.rcv, I 3, S (⟨#[]⟩)]) rfl rfl rfl rfl (.one rfl rfl rfl (Nat.le_of_ble_eq_true rfl) (.one rfl rfl rfl (Nat.le_of_ble_eq_true rfl) (.one rfl rfl rfl (Nat.le_of_ble_eq_true rfl) (.nil)))))) ?_
          exact RA.to hall (RA.lr ro21_111111010 rfl rfl)
        have ro21_111100010 : RA [] E B all 4 #[true, true, true, true, false, false, false, true, false] ⟨62, [(2, .obj b1 ((Stream.c x).map .r)), (4, .obj b2 [I ((againN x now).state), I ((againN x now).iss), I ((againN x now).una), I ((againN x now).rcv), S ((againN x now).wait), I ((againN x now).sent), I ((againN x now).fin), Bo ((againN x now).peerFin), S ((againN x now).in_), .w (sl 2 Late.c ((againN x now).late)) (q18 9), Bo ((againN x now).owe), I ((againN x now).due), I ((againN x now).times)]), (49, I x.iss), (50, .pt 2 b1 3)]⟩ K := by
         refine RA.of hall (RA.stepH (L := [4]) Tell.e (by kernel_rfl) (by simp) (RA.each ?_ (RA.each0)))
         ·skip
          refine RO.v rfl rfl (V.loadPrim (d := I x.rcv) rfl rfl (.inl rfl) rfl rfl rfl) rfl ?_
          refine RA.first (i := 5) (ls' := #[true, true, true, true, true, true, false, true, false]) Tell.e (by kernel_rfl) rfl rfl rfl (VF.p (V.build (ds := [I x.iss, I x.rcv, I 3, S (⟨#[]⟩)]) rfl rfl rfl rfl (.one rfl rfl rfl (Nat.le_of_ble_eq_true rfl) (.one rfl rfl rfl (Nat.le_of_ble_eq_true rfl) (.one rfl rfl rfl (Nat.le_of_ble_eq_true rfl) (.nil)))))) ?_
          exact RA.to hall (RA.lr ro21_111111010 rfl rfl)
        have ro21_011111000 : RA [] E B all 4 #[false, true, true, true, true, true, false, false, false] ⟨62, [(4, .obj b2 [I 0, I 0, I 0, I 0, S (⟨#[]⟩), I 0, I 0, Bo false, S (⟨#[]⟩), .r (.v (.slice none 0 0)), Bo false, I 0, I 0]), (6, .obj b4 [I ((againN x now).state), I ((againN x now).iss), I ((againN x now).una), I ((againN x now).rcv), S ((againN x now).wait), I ((againN x now).sent), I ((againN x now).fin), Bo ((againN x now).peerFin), S ((againN x now).in_), .w (sl 2 Late.c ((againN x now).late)) (q18 9), Bo ((againN x now).owe), I ((againN x now).due), I ((againN x now).times)]), (52, .agg [I x.iss, I x.rcv, I 3, S (⟨#[]⟩)])]⟩ K := by
         refine RA.of hall (RA.stepH (L := [0, 6]) Tell.e (by kernel_rfl) (by simp) (RA.each ?_ (RA.each ?_ (RA.each0))))
         ·skip
          refine RO.v rfl rfl (V.loadAgg rfl rfl rfl rfl rfl (Nat.le_of_ble_eq_true rfl)) rfl ?_
          exact RA.to hall (RA.lr ro21_111111000 rfl rfl)
         ·skip
          refine RO.build1 (c := Seg.c) (v := (⟨x.iss, x.rcv, 3, ⟨#[]⟩⟩ : Seg)) rfl rfl rfl rfl rfl rfl rfl rfl (DW.v (DW.v (DW.v (DW.v DW.e)))) Seg.len (by decide) (by decide) fun Xo21_6_1 => ?_
          exact RA.to hall (RA.lr (ro21_011111100 Xo21_6_1) rfl rfl)
        have ro21_110100010 : RA [] E B all 5 #[true, true, false, true, false, false, false, true, false] ⟨62, [(2, .obj b1 ((Stream.c x).map .r)), (4, .obj b2 [I ((againN x now).state), I ((againN x now).iss), I ((againN x now).una), I ((againN x now).rcv), S ((againN x now).wait), I ((againN x now).sent), I ((againN x now).fin), Bo ((againN x now).peerFin), S ((againN x now).in_), .w (sl 2 Late.c ((againN x now).late)) (q18 9), Bo ((againN x now).owe), I ((againN x now).due), I ((againN x now).times)]), (48, .pt 2 b1 1), (50, .pt 2 b1 3)]⟩ K := by
         refine RA.of hall (RA.stepH (L := [2, 4]) Tell.e (by kernel_rfl) (by simp) (RA.each ?_ (RA.each ?_ (RA.each0))))
         ·skip
          refine RO.v rfl rfl (V.loadPrim (d := I x.iss) rfl rfl (.inl rfl) rfl rfl rfl) rfl ?_
          exact RA.to hall (RA.lr ro21_111100010 rfl rfl)
         ·skip
          refine RO.v rfl rfl (V.loadPrim (d := I x.rcv) rfl rfl (.inl rfl) rfl rfl rfl) rfl ?_
          exact RA.to hall (RA.lr ro21_110110010 rfl rfl)
        have ro21_110110000 : RA [] E B all 5 #[true, true, false, true, true, false, false, false, false] ⟨62, [(2, .obj b1 ((Stream.c x).map .r)), (4, .obj b2 [I 0, I 0, I 0, I 0, S (⟨#[]⟩), I 0, I 0, Bo false, S (⟨#[]⟩), .r (.v (.slice none 0 0)), Bo false, I 0, I 0]), (6, .obj b4 [I ((againN x now).state), I ((againN x now).iss), I ((againN x now).una), I ((againN x now).rcv), S ((againN x now).wait), I ((againN x now).sent), I ((againN x now).fin), Bo ((againN x now).peerFin), S ((againN x now).in_), .w (sl 2 Late.c ((againN x now).late)) (q18 9), Bo ((againN x now).owe), I ((againN x now).due), I ((againN x now).times)]), (47, .agg [I ((againN x now).state), I ((againN x now).iss), I ((againN x now).una), I ((againN x now).rcv), S ((againN x now).wait), I ((againN x now).sent), I ((againN x now).fin), Bo ((againN x now).peerFin), S ((againN x now).in_), .al 6 (some 9) 2 (((againN x now).late).length) (q18 9) 0, Bo ((againN x now).owe), I ((againN x now).due), I ((againN x now).times)]), (48, .pt 2 b1 1), (51, I x.rcv)]⟩ K := by
         refine RA.of hall (RA.stepH (L := [2, 7]) Tell.e (by kernel_rfl) (by simp) (RA.each ?_ (RA.each ?_ (RA.each0))))
         ·skip
          refine RO.v rfl rfl (V.loadPrim (d := I x.iss) rfl rfl (.inl rfl) rfl rfl rfl) rfl ?_
          refine RA.first (i := 5) (ls' := #[true, true, true, true, true, true, false, false, false]) Tell.e (by kernel_rfl) rfl rfl rfl (VF.p (V.build (ds := [I x.iss, I x.rcv, I 3, S (⟨#[]⟩)]) rfl rfl rfl rfl (.one rfl rfl rfl (Nat.le_of_ble_eq_true rfl) (.one rfl rfl rfl (Nat.le_of_ble_eq_true rfl) (.one rfl rfl rfl (Nat.le_of_ble_eq_true rfl) (.nil)))))) ?_
          exact RA.to hall (RA.lr ro21_111111000 rfl rfl)
         ·skip
          refine RO.storeAgg (es := [I ((againN x now).state), I ((againN x now).iss), I ((againN x now).una), I ((againN x now).rcv), S ((againN x now).wait), I ((againN x now).sent), I ((againN x now).fin), Bo ((againN x now).peerFin), S ((againN x now).in_), .al 6 (some 9) 2 (((againN x now).late).length) (q18 9) 0, Bo ((againN x now).owe), I ((againN x now).due), I ((againN x now).times)]) rfl rfl rfl rfl rfl rfl rfl rfl rfl rfl (Nat.le_of_ble_eq_true rfl) rfl ?_
          refine RA.le [(2, .obj b1 ((Stream.c x).map .r)), (4, .obj b2 [I ((againN x now).state), I ((againN x now).iss), I ((againN x now).una), I ((againN x now).rcv), S ((againN x now).wait), I ((againN x now).sent), I ((againN x now).fin), Bo ((againN x now).peerFin), S ((againN x now).in_), .al 6 (some 9) 2 (((againN x now).late).length) (q18 9) 0, Bo ((againN x now).owe), I ((againN x now).due), I ((againN x now).times)]), (6, .obj b4 [I ((againN x now).state), I ((againN x now).iss), I ((againN x now).una), I ((againN x now).rcv), S ((againN x now).wait), I ((againN x now).sent), I ((againN x now).fin), Bo ((againN x now).peerFin), S ((againN x now).in_), .w (sl 2 Late.c ((againN x now).late)) (q18 9), Bo ((againN x now).owe), I ((againN x now).due), I ((againN x now).times)]), (48, .pt 2 b1 1), (51, I x.rcv)] rfl (Le.of rfl) ?_
          refine RA.pullO (k := 4) (l := 6) (j := 9) 4 6 9 rfl rfl rfl (by decide) rfl rfl rfl rfl ?_
          refine RA.le [(2, .obj b1 ((Stream.c x).map .r)), (4, .obj b2 [I ((againN x now).state), I ((againN x now).iss), I ((againN x now).una), I ((againN x now).rcv), S ((againN x now).wait), I ((againN x now).sent), I ((againN x now).fin), Bo ((againN x now).peerFin), S ((againN x now).in_), .w (sl 2 Late.c ((againN x now).late)) (q18 9), Bo ((againN x now).owe), I ((againN x now).due), I ((againN x now).times)]), (48, .pt 2 b1 1), (51, I x.rcv)] rfl (Le.of rfl) ?_
          exact RA.to hall (RA.lr ro21_110110010 rfl rfl)
        have ro21_111100000 : RA [] E B all 5 #[true, true, true, true, false, false, false, false, false] ⟨62, [(2, .obj b1 ((Stream.c x).map .r)), (4, .obj b2 [I 0, I 0, I 0, I 0, S (⟨#[]⟩), I 0, I 0, Bo false, S (⟨#[]⟩), .r (.v (.slice none 0 0)), Bo false, I 0, I 0]), (6, .obj b4 [I ((againN x now).state), I ((againN x now).iss), I ((againN x now).una), I ((againN x now).rcv), S ((againN x now).wait), I ((againN x now).sent), I ((againN x now).fin), Bo ((againN x now).peerFin), S ((againN x now).in_), .w (sl 2 Late.c ((againN x now).late)) (q18 9), Bo ((againN x now).owe), I ((againN x now).due), I ((againN x now).times)]), (47, .agg [I ((againN x now).state), I ((againN x now).iss), I ((againN x now).una), I ((againN x now).rcv), S ((againN x now).wait), I ((againN x now).sent), I ((againN x now).fin), Bo ((againN x now).peerFin), S ((againN x now).in_), .al 6 (some 9) 2 (((againN x now).late).length) (q18 9) 0, Bo ((againN x now).owe), I ((againN x now).due), I ((againN x now).times)]), (49, I x.iss), (50, .pt 2 b1 3)]⟩ K := by
         refine RA.of hall (RA.stepH (L := [4, 7]) Tell.e (by kernel_rfl) (by simp) (RA.each ?_ (RA.each ?_ (RA.each0))))
         ·skip
          refine RO.v rfl rfl (V.loadPrim (d := I x.rcv) rfl rfl (.inl rfl) rfl rfl rfl) rfl ?_
          refine RA.first (i := 5) (ls' := #[true, true, true, true, true, true, false, false, false]) Tell.e (by kernel_rfl) rfl rfl rfl (VF.p (V.build (ds := [I x.iss, I x.rcv, I 3, S (⟨#[]⟩)]) rfl rfl rfl rfl (.one rfl rfl rfl (Nat.le_of_ble_eq_true rfl) (.one rfl rfl rfl (Nat.le_of_ble_eq_true rfl) (.one rfl rfl rfl (Nat.le_of_ble_eq_true rfl) (.nil)))))) ?_
          exact RA.to hall (RA.lr ro21_111111000 rfl rfl)
         ·skip
          refine RO.storeAgg (es := [I ((againN x now).state), I ((againN x now).iss), I ((againN x now).una), I ((againN x now).rcv), S ((againN x now).wait), I ((againN x now).sent), I ((againN x now).fin), Bo ((againN x now).peerFin), S ((againN x now).in_), .al 6 (some 9) 2 (((againN x now).late).length) (q18 9) 0, Bo ((againN x now).owe), I ((againN x now).due), I ((againN x now).times)]) rfl rfl rfl rfl rfl rfl rfl rfl rfl rfl (Nat.le_of_ble_eq_true rfl) rfl ?_
          refine RA.le [(2, .obj b1 ((Stream.c x).map .r)), (4, .obj b2 [I ((againN x now).state), I ((againN x now).iss), I ((againN x now).una), I ((againN x now).rcv), S ((againN x now).wait), I ((againN x now).sent), I ((againN x now).fin), Bo ((againN x now).peerFin), S ((againN x now).in_), .al 6 (some 9) 2 (((againN x now).late).length) (q18 9) 0, Bo ((againN x now).owe), I ((againN x now).due), I ((againN x now).times)]), (6, .obj b4 [I ((againN x now).state), I ((againN x now).iss), I ((againN x now).una), I ((againN x now).rcv), S ((againN x now).wait), I ((againN x now).sent), I ((againN x now).fin), Bo ((againN x now).peerFin), S ((againN x now).in_), .w (sl 2 Late.c ((againN x now).late)) (q18 9), Bo ((againN x now).owe), I ((againN x now).due), I ((againN x now).times)]), (49, I x.iss), (50, .pt 2 b1 3)] rfl (Le.of rfl) ?_
          refine RA.pullO (k := 4) (l := 6) (j := 9) 4 6 9 rfl rfl rfl (by decide) rfl rfl rfl rfl ?_
          refine RA.le [(2, .obj b1 ((Stream.c x).map .r)), (4, .obj b2 [I ((againN x now).state), I ((againN x now).iss), I ((againN x now).una), I ((againN x now).rcv), S ((againN x now).wait), I ((againN x now).sent), I ((againN x now).fin), Bo ((againN x now).peerFin), S ((againN x now).in_), .w (sl 2 Late.c ((againN x now).late)) (q18 9), Bo ((againN x now).owe), I ((againN x now).due), I ((againN x now).times)]), (49, I x.iss), (50, .pt 2 b1 3)] rfl (Le.of rfl) ?_
          exact RA.to hall (RA.lr ro21_111100010 rfl rfl)
        have ro21_010110000 : RA [] E B all 6 #[false, true, false, true, true, false, false, false, false] ⟨62, [(2, .obj b1 ((Stream.c x).map .r)), (4, .obj b2 [I 0, I 0, I 0, I 0, S (⟨#[]⟩), I 0, I 0, Bo false, S (⟨#[]⟩), .r (.v (.slice none 0 0)), Bo false, I 0, I 0]), (6, .obj b4 [I ((againN x now).state), I ((againN x now).iss), I ((againN x now).una), I ((againN x now).rcv), S ((againN x now).wait), I ((againN x now).sent), I ((againN x now).fin), Bo ((againN x now).peerFin), S ((againN x now).in_), .w (sl 2 Late.c ((againN x now).late)) (q18 9), Bo ((againN x now).owe), I ((againN x now).due), I ((againN x now).times)]), (48, .pt 2 b1 1), (51, I x.rcv)]⟩ K := by
         refine RA.of hall (RA.stepH (L := [0, 2]) Tell.e (by kernel_rfl) (by simp) (RA.each ?_ (RA.each ?_ (RA.each0))))
         ·skip
          refine RO.v rfl rfl (V.loadAgg rfl rfl rfl rfl rfl (Nat.le_of_ble_eq_true rfl)) rfl ?_
          exact RA.to hall (RA.lr ro21_110110000 rfl rfl)
         ·skip
          refine RO.v rfl rfl (V.loadPrim (d := I x.iss) rfl rfl (.inl rfl) rfl rfl rfl) rfl ?_
          refine RA.first (i := 5) (ls' := #[false, true, true, true, true, true, false, false, false]) Tell.e (by kernel_rfl) rfl rfl rfl (VF.p (V.build (ds := [I x.iss, I x.rcv, I 3, S (⟨#[]⟩)]) rfl rfl rfl rfl (.one rfl rfl rfl (Nat.le_of_ble_eq_true rfl) (.one rfl rfl rfl (Nat.le_of_ble_eq_true rfl) (.one rfl rfl rfl (Nat.le_of_ble_eq_true rfl) (.nil)))))) ?_
          exact RA.to hall (RA.lr ro21_011111000 rfl rfl)
        have ro21_011100000 : RA [] E B all 6 #[false, true, true, true, false, false, false, false, false] ⟨62, [(2, .obj b1 ((Stream.c x).map .r)), (4, .obj b2 [I 0, I 0, I 0, I 0, S (⟨#[]⟩), I 0, I 0, Bo false, S (⟨#[]⟩), .r (.v (.slice none 0 0)), Bo false, I 0, I 0]), (6, .obj b4 [I ((againN x now).state), I ((againN x now).iss), I ((againN x now).una), I ((againN x now).rcv), S ((againN x now).wait), I ((againN x now).sent), I ((againN x now).fin), Bo ((againN x now).peerFin), S ((againN x now).in_), .w (sl 2 Late.c ((againN x now).late)) (q18 9), Bo ((againN x now).owe), I ((againN x now).due), I ((againN x now).times)]), (49, I x.iss), (50, .pt 2 b1 3)]⟩ K := by
         refine RA.of hall (RA.stepH (L := [0, 4]) Tell.e (by kernel_rfl) (by simp) (RA.each ?_ (RA.each ?_ (RA.each0))))
         ·skip
          refine RO.v rfl rfl (V.loadAgg rfl rfl rfl rfl rfl (Nat.le_of_ble_eq_true rfl)) rfl ?_
          exact RA.to hall (RA.lr ro21_111100000 rfl rfl)
         ·skip
          refine RO.v rfl rfl (V.loadPrim (d := I x.rcv) rfl rfl (.inl rfl) rfl rfl rfl) rfl ?_
          refine RA.first (i := 5) (ls' := #[false, true, true, true, true, true, false, false, false]) Tell.e (by kernel_rfl) rfl rfl rfl (VF.p (V.build (ds := [I x.iss, I x.rcv, I 3, S (⟨#[]⟩)]) rfl rfl rfl rfl (.one rfl rfl rfl (Nat.le_of_ble_eq_true rfl) (.one rfl rfl rfl (Nat.le_of_ble_eq_true rfl) (.one rfl rfl rfl (Nat.le_of_ble_eq_true rfl) (.nil)))))) ?_
          exact RA.to hall (RA.lr ro21_011111000 rfl rfl)
        have ro21_110100000 : RA [] E B all 6 #[true, true, false, true, false, false, false, false, false] ⟨62, [(2, .obj b1 ((Stream.c x).map .r)), (4, .obj b2 [I 0, I 0, I 0, I 0, S (⟨#[]⟩), I 0, I 0, Bo false, S (⟨#[]⟩), .r (.v (.slice none 0 0)), Bo false, I 0, I 0]), (6, .obj b4 [I ((againN x now).state), I ((againN x now).iss), I ((againN x now).una), I ((againN x now).rcv), S ((againN x now).wait), I ((againN x now).sent), I ((againN x now).fin), Bo ((againN x now).peerFin), S ((againN x now).in_), .w (sl 2 Late.c ((againN x now).late)) (q18 9), Bo ((againN x now).owe), I ((againN x now).due), I ((againN x now).times)]), (47, .agg [I ((againN x now).state), I ((againN x now).iss), I ((againN x now).una), I ((againN x now).rcv), S ((againN x now).wait), I ((againN x now).sent), I ((againN x now).fin), Bo ((againN x now).peerFin), S ((againN x now).in_), .al 6 (some 9) 2 (((againN x now).late).length) (q18 9) 0, Bo ((againN x now).owe), I ((againN x now).due), I ((againN x now).times)]), (48, .pt 2 b1 1), (50, .pt 2 b1 3)]⟩ K := by
         refine RA.of hall (RA.stepH (L := [2, 4, 7]) Tell.e (by kernel_rfl) (by simp) (RA.each ?_ (RA.each ?_ (RA.each ?_ (RA.each0)))))
         ·skip
          refine RO.v rfl rfl (V.loadPrim (d := I x.iss) rfl rfl (.inl rfl) rfl rfl rfl) rfl ?_
          exact RA.to hall (RA.lr ro21_111100000 rfl rfl)
         ·skip
          refine RO.v rfl rfl (V.loadPrim (d := I x.rcv) rfl rfl (.inl rfl) rfl rfl rfl) rfl ?_
          exact RA.to hall (RA.lr ro21_110110000 rfl rfl)
         ·skip
          refine RO.storeAgg (es := [I ((againN x now).state), I ((againN x now).iss), I ((againN x now).una), I ((againN x now).rcv), S ((againN x now).wait), I ((againN x now).sent), I ((againN x now).fin), Bo ((againN x now).peerFin), S ((againN x now).in_), .al 6 (some 9) 2 (((againN x now).late).length) (q18 9) 0, Bo ((againN x now).owe), I ((againN x now).due), I ((againN x now).times)]) rfl rfl rfl rfl rfl rfl rfl rfl rfl rfl (Nat.le_of_ble_eq_true rfl) rfl ?_
          refine RA.le [(2, .obj b1 ((Stream.c x).map .r)), (4, .obj b2 [I ((againN x now).state), I ((againN x now).iss), I ((againN x now).una), I ((againN x now).rcv), S ((againN x now).wait), I ((againN x now).sent), I ((againN x now).fin), Bo ((againN x now).peerFin), S ((againN x now).in_), .al 6 (some 9) 2 (((againN x now).late).length) (q18 9) 0, Bo ((againN x now).owe), I ((againN x now).due), I ((againN x now).times)]), (6, .obj b4 [I ((againN x now).state), I ((againN x now).iss), I ((againN x now).una), I ((againN x now).rcv), S ((againN x now).wait), I ((againN x now).sent), I ((againN x now).fin), Bo ((againN x now).peerFin), S ((againN x now).in_), .w (sl 2 Late.c ((againN x now).late)) (q18 9), Bo ((againN x now).owe), I ((againN x now).due), I ((againN x now).times)]), (48, .pt 2 b1 1), (50, .pt 2 b1 3)] rfl (Le.of rfl) ?_
          refine RA.pullO (k := 4) (l := 6) (j := 9) 4 6 9 rfl rfl rfl (by decide) rfl rfl rfl rfl ?_
          refine RA.le [(2, .obj b1 ((Stream.c x).map .r)), (4, .obj b2 [I ((againN x now).state), I ((againN x now).iss), I ((againN x now).una), I ((againN x now).rcv), S ((againN x now).wait), I ((againN x now).sent), I ((againN x now).fin), Bo ((againN x now).peerFin), S ((againN x now).in_), .w (sl 2 Late.c ((againN x now).late)) (q18 9), Bo ((againN x now).owe), I ((againN x now).due), I ((againN x now).times)]), (48, .pt 2 b1 1), (50, .pt 2 b1 3)] rfl (Le.of rfl) ?_
          exact RA.to hall (RA.lr ro21_110100010 rfl rfl)
        have ro21_010100000 : RA [] E B all 7 #[false, true, false, true, false, false, false, false, false] ⟨62, [(2, .obj b1 ((Stream.c x).map .r)), (4, .obj b2 [I 0, I 0, I 0, I 0, S (⟨#[]⟩), I 0, I 0, Bo false, S (⟨#[]⟩), .r (.v (.slice none 0 0)), Bo false, I 0, I 0]), (6, .obj b4 [I ((againN x now).state), I ((againN x now).iss), I ((againN x now).una), I ((againN x now).rcv), S ((againN x now).wait), I ((againN x now).sent), I ((againN x now).fin), Bo ((againN x now).peerFin), S ((againN x now).in_), .w (sl 2 Late.c ((againN x now).late)) (q18 9), Bo ((againN x now).owe), I ((againN x now).due), I ((againN x now).times)]), (48, .pt 2 b1 1), (50, .pt 2 b1 3)]⟩ K := by
         refine RA.of hall (RA.stepH (L := [0, 2, 4]) Tell.e (by kernel_rfl) (by simp) (RA.each ?_ (RA.each ?_ (RA.each ?_ (RA.each0)))))
         ·skip
          refine RO.v rfl rfl (V.loadAgg rfl rfl rfl rfl rfl (Nat.le_of_ble_eq_true rfl)) rfl ?_
          exact RA.to hall (RA.lr ro21_110100000 rfl rfl)
         ·skip
          refine RO.v rfl rfl (V.loadPrim (d := I x.iss) rfl rfl (.inl rfl) rfl rfl rfl) rfl ?_
          exact RA.to hall (RA.lr ro21_011100000 rfl rfl)
         ·skip
          refine RO.v rfl rfl (V.loadPrim (d := I x.rcv) rfl rfl (.inl rfl) rfl rfl rfl) rfl ?_
          exact RA.to hall (RA.lr ro21_010110000 rfl rfl)
        have ro21_S : RA [] E B all 9 #[false, false, false, false, false, false, false, false, false] ⟨62, [(2, .obj b1 ((Stream.c x).map .r)), (4, .obj b2 [I 0, I 0, I 0, I 0, S (⟨#[]⟩), I 0, I 0, Bo false, S (⟨#[]⟩), .r (.v (.slice none 0 0)), Bo false, I 0, I 0]), (6, .obj b4 [I ((againN x now).state), I ((againN x now).iss), I ((againN x now).una), I ((againN x now).rcv), S ((againN x now).wait), I ((againN x now).sent), I ((againN x now).fin), Bo ((againN x now).peerFin), S ((againN x now).in_), .w (sl 2 Late.c ((againN x now).late)) (q18 9), Bo ((againN x now).owe), I ((againN x now).due), I ((againN x now).times)])]⟩ K := by
         refine RA.of hall ?_
         refine RA.first (i := 1) (ls' := #[false, true, false, false, false, false, false, false, false]) Tell.e (by kernel_rfl) rfl rfl rfl (VF.p (V.field rfl rfl rfl rfl (by decide) rfl)) ?_
         refine RA.first (i := 3) (ls' := #[false, true, false, true, false, false, false, false, false]) Tell.e (by kernel_rfl) rfl rfl rfl (VF.p (V.field rfl rfl rfl rfl (by decide) rfl)) ?_
         exact RA.to hall (RA.lr ro21_010100000 rfl rfl)
        exact RA.start (by kernel_rfl) (by kernel_rfl) (RA.lr ro21_S rfl rfl)
       ·rintro Xo21_6_1
        refine CW.ret ?_
        exact Post.tup (by decide) (RVs.c (RV.c (f := fun e => (Stream.c e).map .w) (e' := (againN x now)) rfl rfl rfl rfl (DT.v (DT.v (DT.v (DT.v (DT.v (DT.v (DT.v (DT.v (DT.v (DT.w (DT.v (DT.v (DT.v DT.e))))))))))))) (by unfold pushN; first | (simp_all; done) | grind)) (RVs.c (RV.w rfl (by unfold pushN; first | (simp_all; done) | grind)) RVs.e)) (AOs.a rfl (AOs.r AOs.e))
    ·skip
     refine CW.region ?_
     refine RW.v rfl (V.cmpInt rfl rfl rfl rfl) ?_
     refine RW.v rfl (V.as (d := Bo (x.state == 3)) rfl rfl) ?_
     refine RW.nil ?_
     refine CW.le [(1, I now), (2, .obj b1 ((Stream.c x).map .r)), (4, .obj b2 [I 0, I 0, I 0, I 0, S (⟨#[]⟩), I 0, I 0, Bo false, S (⟨#[]⟩), .r (.v (.slice none 0 0)), Bo false, I 0, I 0]), (6, .obj b4 [I x.state, I x.iss, I x.una, I x.rcv, S x.wait, I x.sent, I x.fin, Bo x.peerFin, S x.in_, .w (sl 2 Late.c x.late) (g3 0 9), Bo x.owe, I x.due, I x.times]), (7, Bo v11), (30, I x.state), (31, Bo (x.state == 3))] rfl (Le.of rfl) ?_
     refine CW.cond rfl (fun h22 => ?_) (fun h22 => ?_)
     ·skip
      refine CW.seq ?_
      refine CW.seq ?_
      refine CW.region ?_
      refine RW.v rfl (V.mv (d := Bo v11) rfl rfl) ?_
      refine RW.v rfl (V.not rfl rfl) ?_
      refine RW.nil ?_
      refine CW.le [(1, I now), (2, .obj b1 ((Stream.c x).map .r)), (4, .obj b2 [I 0, I 0, I 0, I 0, S (⟨#[]⟩), I 0, I 0, Bo false, S (⟨#[]⟩), .r (.v (.slice none 0 0)), Bo false, I 0, I 0]), (6, .obj b4 [I x.state, I x.iss, I x.una, I x.rcv, S x.wait, I x.sent, I x.fin, Bo x.peerFin, S x.in_, .w (sl 2 Late.c x.late) (g3 0 9), Bo x.owe, I x.due, I x.times]), (35, Bo (!v11))] rfl (Le.of rfl) ?_
      refine CW.cond rfl (fun h23 => ?_) (fun h23 => ?_)
      ·skip
       refine CW.seq ?_
       refine CW.region ?_
       refine RW.v rfl (V.loadAgg rfl rfl rfl rfl rfl (Nat.le_of_ble_eq_true rfl)) ?_
       refine RW.storeAgg (es := [I x.state, I x.iss, I x.una, I x.rcv, S x.wait, I x.sent, I x.fin, Bo x.peerFin, S x.in_, .al 6 (some 9) 2 x.late.length (g3 0 9) 0, Bo x.owe, I x.due, I x.times]) rfl rfl rfl rfl rfl rfl rfl rfl (Nat.le_of_ble_eq_true rfl) rfl ?_
       refine RW.le [(4, .obj b2 [I x.state, I x.iss, I x.una, I x.rcv, S x.wait, I x.sent, I x.fin, Bo x.peerFin, S x.in_, .al 6 (some 9) 2 x.late.length (g3 0 9) 0, Bo x.owe, I x.due, I x.times]), (6, .obj b4 [I x.state, I x.iss, I x.una, I x.rcv, S x.wait, I x.sent, I x.fin, Bo x.peerFin, S x.in_, .w (sl 2 Late.c x.late) (g3 0 9), Bo x.owe, I x.due, I x.times])] rfl (Le.of rfl) ?_
       refine RW.pullO (k := 4) (l := 6) (j := 9) 4 6 9 rfl rfl rfl (by decide) rfl rfl rfl rfl ?_
       refine RW.le [(4, .obj b2 [I x.state, I x.iss, I x.una, I x.rcv, S x.wait, I x.sent, I x.fin, Bo x.peerFin, S x.in_, .w (sl 2 Late.c x.late) (g3 0 9), Bo x.owe, I x.due, I x.times])] rfl (Le.of rfl) ?_
       refine RW.v rfl (V.as (d := .r (.v (.slice none 0 0))) rfl rfl) ?_
       refine RW.nil ?_
       refine CW.le [(4, .obj b2 [I x.state, I x.iss, I x.una, I x.rcv, S x.wait, I x.sent, I x.fin, Bo x.peerFin, S x.in_, .w (sl 2 Late.c x.late) (g3 0 9), Bo x.owe, I x.due, I x.times]), (5, .r (.v (.slice none 0 0)))] rfl (Le.of rfl) ?_
       refine CW.ret ?_
       exact Post.tup (by decide) (RVs.c (RV.c (f := fun e => (Stream.c e).map .w) (e' := x) rfl rfl rfl rfl (DT.v (DT.v (DT.v (DT.v (DT.v (DT.v (DT.v (DT.v (DT.v (DT.w (DT.v (DT.v (DT.v DT.e))))))))))))) (by unfold pushN; first | (simp_all; done) | grind)) (RVs.c (RV.n rfl (by unfold pushN; first | (simp_all; done) | grind)) RVs.e)) (AOs.a rfl (AOs.r AOs.e))
      ·skip
       refine CW.skip ?_
       refine CW.le [(1, I now), (2, .obj b1 ((Stream.c x).map .r)), (4, .obj b2 [I 0, I 0, I 0, I 0, S (⟨#[]⟩), I 0, I 0, Bo false, S (⟨#[]⟩), .r (.v (.slice none 0 0)), Bo false, I 0, I 0]), (6, .obj b4 [I x.state, I x.iss, I x.una, I x.rcv, S x.wait, I x.sent, I x.fin, Bo x.peerFin, S x.in_, .w (sl 2 Late.c x.late) (g3 0 9), Bo x.owe, I x.due, I x.times])] rfl (Le.of rfl) ?_
       refine CW.seq ?_
       refine CW.region ?_
       refine RW.v rfl (V.mv (d := I now) rfl rfl) ?_
       refine RW.callW (k := 6) (__impl_Stream__again_fn x now (by have := streamOk_all hxo; omega)) rfl rfl (Nat.le_of_ble_eq_true rfl) (by decide) (.here (AsW.ob (DT.v (DT.v (DT.v (DT.v (DT.v (DT.v (DT.v (DT.v (DT.v (DT.w (DT.v (DT.v (DT.v DT.e))))))))))))) rfl) (.cons (.one (.r .r)) (.nil))) rfl fun g24 q25 => ?_
       refine RW.nil ?_
       refine CW.le [(2, .obj b1 ((Stream.c x).map .r)), (4, .obj b2 [I 0, I 0, I 0, I 0, S (⟨#[]⟩), I 0, I 0, Bo false, S (⟨#[]⟩), .r (.v (.slice none 0 0)), Bo false, I 0, I 0]), (6, .obj b4 [I ((againN x now).state), I ((againN x now).iss), I ((againN x now).una), I ((againN x now).rcv), S ((againN x now).wait), I ((againN x now).sent), I ((againN x now).fin), Bo ((againN x now).peerFin), S ((againN x now).in_), .w (sl 2 Late.c ((againN x now).late)) (q25 9), Bo ((againN x now).owe), I ((againN x now).due), I ((againN x now).times)])] rfl (Le.of rfl) ?_
       refine CW.seq ?_
       refine CW.seq ?_
       refine CW.region ?_
       refine RW.v rfl (V.field rfl rfl rfl rfl (by decide) rfl) ?_
       refine RW.v rfl (V.loadPrim (d := I x.state) rfl rfl (.inl rfl) rfl rfl rfl) ?_
       refine RW.v rfl (V.cmpInt rfl rfl rfl rfl) ?_
       refine RW.nil ?_
       refine CW.le [(2, .obj b1 ((Stream.c x).map .r)), (4, .obj b2 [I 0, I 0, I 0, I 0, S (⟨#[]⟩), I 0, I 0, Bo false, S (⟨#[]⟩), .r (.v (.slice none 0 0)), Bo false, I 0, I 0]), (6, .obj b4 [I ((againN x now).state), I ((againN x now).iss), I ((againN x now).una), I ((againN x now).rcv), S ((againN x now).wait), I ((againN x now).sent), I ((againN x now).fin), Bo ((againN x now).peerFin), S ((againN x now).in_), .w (sl 2 Late.c ((againN x now).late)) (q25 9), Bo ((againN x now).owe), I ((againN x now).due), I ((againN x now).times)]), (41, Bo (x.state == 2))] rfl (Le.of rfl) ?_
       refine CW.cond rfl (fun h26 => ?_) (fun h26 => ?_)
       ·skip
        refine CW.anyJ (fc := []) 62 (fun (Xo27_4_1 : Value) => [(4, .obj b2 [I ((againN x now).state), I ((againN x now).iss), I ((againN x now).una), I ((againN x now).rcv), S ((againN x now).wait), I ((againN x now).sent), I ((againN x now).fin), Bo ((againN x now).peerFin), S ((againN x now).in_), .w (sl 2 Late.c ((againN x now).late)) (q25 9), Bo ((againN x now).owe), I ((againN x now).due), I ((againN x now).times)]), (5, .w (sl 4 Seg.c ([(⟨x.iss, 0, 1, ⟨#[]⟩⟩ : Seg)])) Xo27_4_1)]) (fun all hall K hK => ?_) ?_
        ·skip
         have ro27_1111111 : ∀ (Xo27_4_1 : Value), RA [] E B all 0 #[true, true, true, true, true, true, true] ⟨62, [(4, .obj b2 [I ((againN x now).state), I ((againN x now).iss), I ((againN x now).una), I ((againN x now).rcv), S ((againN x now).wait), I ((againN x now).sent), I ((againN x now).fin), Bo ((againN x now).peerFin), S ((againN x now).in_), .w (sl 2 Late.c ((againN x now).late)) (q25 9), Bo ((againN x now).owe), I ((againN x now).due), I ((againN x now).times)]), (5, .w (sl 4 Seg.c ([(⟨x.iss, 0, 1, ⟨#[]⟩⟩ : Seg)])) Xo27_4_1)]⟩ K := by
          intro Xo27_4_1
          exact RA.of hall (RA.finH Tell.e (by kernel_rfl) (hK Xo27_4_1 _ rfl (Le.of rfl)))
         have ro27_1111110 : ∀ (Xo27_4_1 : Value), RA [] E B all 1 #[true, true, true, true, true, true, false] ⟨62, [(4, .obj b2 [I ((againN x now).state), I ((againN x now).iss), I ((againN x now).una), I ((againN x now).rcv), S ((againN x now).wait), I ((againN x now).sent), I ((againN x now).fin), Bo ((againN x now).peerFin), S ((againN x now).in_), .w (sl 2 Late.c ((againN x now).late)) (q25 9), Bo ((againN x now).owe), I ((againN x now).due), I ((againN x now).times)]), (46, .w (sl 4 Seg.c ([(⟨x.iss, 0, 1, ⟨#[]⟩⟩ : Seg)])) Xo27_4_1)]⟩ K := by
          intro Xo27_4_1
          refine RA.of hall (RA.stepH (L := [6]) Tell.e (by kernel_rfl) (by simp) (RA.each ?_ (RA.each0)))
          ·skip
           refine RO.assignMove rfl rfl rfl rfl rfl (by decide) (Nat.le_of_ble_eq_true rfl) (Nat.le_of_ble_eq_true rfl) ?_
           exact RA.to hall (RA.lr (ro27_1111111 Xo27_4_1) rfl rfl)
         have ro27_1111010 : RA [] E B all 2 #[true, true, true, true, false, true, false] ⟨62, [(4, .obj b2 [I ((againN x now).state), I ((againN x now).iss), I ((againN x now).una), I ((againN x now).rcv), S ((againN x now).wait), I ((againN x now).sent), I ((againN x now).fin), Bo ((againN x now).peerFin), S ((againN x now).in_), .w (sl 2 Late.c ((againN x now).late)) (q25 9), Bo ((againN x now).owe), I ((againN x now).due), I ((againN x now).times)]), (45, .agg [I x.iss, I 0, I 1, S (⟨#[]⟩)])]⟩ K := by
          refine RA.of hall (RA.stepH (L := [4]) Tell.e (by kernel_rfl) (by simp) (RA.each ?_ (RA.each0)))
          ·skip
           refine RO.build1 (c := Seg.c) (v := (⟨x.iss, 0, 1, ⟨#[]⟩⟩ : Seg)) rfl rfl rfl rfl rfl rfl rfl rfl (DW.v (DW.v (DW.v (DW.v DW.e)))) Seg.len (by decide) (by decide) fun Xo27_4_1 => ?_
           exact RA.to hall (RA.lr (ro27_1111110 Xo27_4_1) rfl rfl)
         have ro27_1111100 : ∀ (Xo27_4_1 : Value), RA [] E B all 2 #[true, true, true, true, true, false, false] ⟨62, [(4, .obj b2 [I 0, I 0, I 0, I 0, S (⟨#[]⟩), I 0, I 0, Bo false, S (⟨#[]⟩), .r (.v (.slice none 0 0)), Bo false, I 0, I 0]), (6, .obj b4 [I ((againN x now).state), I ((againN x now).iss), I ((againN x now).una), I ((againN x now).rcv), S ((againN x now).wait), I ((againN x now).sent), I ((againN x now).fin), Bo ((againN x now).peerFin), S ((againN x now).in_), .w (sl 2 Late.c ((againN x now).late)) (q25 9), Bo ((againN x now).owe), I ((againN x now).due), I ((againN x now).times)]), (42, .agg [I ((againN x now).state), I ((againN x now).iss), I ((againN x now).una), I ((againN x now).rcv), S ((againN x now).wait), I ((againN x now).sent), I ((againN x now).fin), Bo ((againN x now).peerFin), S ((againN x now).in_), .al 6 (some 9) 2 (((againN x now).late).length) (q25 9) 0, Bo ((againN x now).owe), I ((againN x now).due), I ((againN x now).times)]), (46, .w (sl 4 Seg.c ([(⟨x.iss, 0, 1, ⟨#[]⟩⟩ : Seg)])) Xo27_4_1)]⟩ K := by
          intro Xo27_4_1
          refine RA.of hall (RA.stepH (L := [5]) Tell.e (by kernel_rfl) (by simp) (RA.each ?_ (RA.each0)))
          ·skip
           refine RO.storeAgg (es := [I ((againN x now).state), I ((againN x now).iss), I ((againN x now).una), I ((againN x now).rcv), S ((againN x now).wait), I ((againN x now).sent), I ((againN x now).fin), Bo ((againN x now).peerFin), S ((againN x now).in_), .al 6 (some 9) 2 (((againN x now).late).length) (q25 9) 0, Bo ((againN x now).owe), I ((againN x now).due), I ((againN x now).times)]) rfl rfl rfl rfl rfl rfl rfl rfl rfl rfl (Nat.le_of_ble_eq_true rfl) rfl ?_
           refine RA.le [(4, .obj b2 [I ((againN x now).state), I ((againN x now).iss), I ((againN x now).una), I ((againN x now).rcv), S ((againN x now).wait), I ((againN x now).sent), I ((againN x now).fin), Bo ((againN x now).peerFin), S ((againN x now).in_), .al 6 (some 9) 2 (((againN x now).late).length) (q25 9) 0, Bo ((againN x now).owe), I ((againN x now).due), I ((againN x now).times)]), (6, .obj b4 [I ((againN x now).state), I ((againN x now).iss), I ((againN x now).una), I ((againN x now).rcv), S ((againN x now).wait), I ((againN x now).sent), I ((againN x now).fin), Bo ((againN x now).peerFin), S ((againN x now).in_), .w (sl 2 Late.c ((againN x now).late)) (q25 9), Bo ((againN x now).owe), I ((againN x now).due), I ((againN x now).times)]), (46, .w (sl 4 Seg.c ([(⟨x.iss, 0, 1, ⟨#[]⟩⟩ : Seg)])) Xo27_4_1)] rfl (Le.of rfl) ?_
           refine RA.pullO (k := 4) (l := 6) (j := 9) 4 6 9 rfl rfl rfl (by decide) rfl rfl rfl rfl ?_
           refine RA.le [(4, .obj b2 [I ((againN x now).state), I ((againN x now).iss), I ((againN x now).una), I ((againN x now).rcv), S ((againN x now).wait), I ((againN x now).sent), I ((againN x now).fin), Bo ((againN x now).peerFin), S ((againN x now).in_), .w (sl 2 Late.c ((againN x now).late)) (q25 9), Bo ((againN x now).owe), I ((againN x now).due), I ((againN x now).times)]), (46, .w (sl 4 Seg.c ([(⟨x.iss, 0, 1, ⟨#[]⟩⟩ : Seg)])) Xo27_4_1)] rfl (Le.of rfl) ?_
           exact RA.to hall (RA.lr (ro27_1111110 Xo27_4_1) rfl rfl)
         have ro27_0111100 : ∀ (Xo27_4_1 : Value), RA [] E B all 3 #[false, true, true, true, true, false, false] ⟨62, [(4, .obj b2 [I 0, I 0, I 0, I 0, S (⟨#[]⟩), I 0, I 0, Bo false, S (⟨#[]⟩), .r (.v (.slice none 0 0)), Bo false, I 0, I 0]), (6, .obj b4 [I ((againN x now).state), I ((againN x now).iss), I ((againN x now).una), I ((againN x now).rcv), S ((againN x now).wait), I ((againN x now).sent), I ((againN x now).fin), Bo ((againN x now).peerFin), S ((againN x now).in_), .w (sl 2 Late.c ((againN x now).late)) (q25 9), Bo ((againN x now).owe), I ((againN x now).due), I ((againN x now).times)]), (46, .w (sl 4 Seg.c ([(⟨x.iss, 0, 1, ⟨#[]⟩⟩ : Seg)])) Xo27_4_1)]⟩ K := by
          intro Xo27_4_1
          refine RA.of hall (RA.stepH (L := [0]) Tell.e (by kernel_rfl) (by simp) (RA.each ?_ (RA.each0)))
          ·skip
           refine RO.v rfl rfl (V.loadAgg rfl rfl rfl rfl rfl (Nat.le_of_ble_eq_true rfl)) rfl ?_
           exact RA.to hall (RA.lr (ro27_1111100 Xo27_4_1) rfl rfl)
         have ro27_1111000 : RA [] E B all 3 #[true, true, true, true, false, false, false] ⟨62, [(4, .obj b2 [I 0, I 0, I 0, I 0, S (⟨#[]⟩), I 0, I 0, Bo false, S (⟨#[]⟩), .r (.v (.slice none 0 0)), Bo false, I 0, I 0]), (6, .obj b4 [I ((againN x now).state), I ((againN x now).iss), I ((againN x now).una), I ((againN x now).rcv), S ((againN x now).wait), I ((againN x now).sent), I ((againN x now).fin), Bo ((againN x now).peerFin), S ((againN x now).in_), .w (sl 2 Late.c ((againN x now).late)) (q25 9), Bo ((againN x now).owe), I ((againN x now).due), I ((againN x now).times)]), (42, .agg [I ((againN x now).state), I ((againN x now).iss), I ((againN x now).una), I ((againN x now).rcv), S ((againN x now).wait), I ((againN x now).sent), I ((againN x now).fin), Bo ((againN x now).peerFin), S ((againN x now).in_), .al 6 (some 9) 2 (((againN x now).late).length) (q25 9) 0, Bo ((againN x now).owe), I ((againN x now).due), I ((againN x now).times)]), (45, .agg [I x.iss, I 0, I 1, S (⟨#[]⟩)])]⟩ K := by
          refine RA.of hall (RA.stepH (L := [4, 5]) Tell.e (by kernel_rfl) (by simp) (RA.each ?_ (RA.each ?_ (RA.each0))))
          ·skip
           refine RO.build1 (c := Seg.c) (v := (⟨x.iss, 0, 1, ⟨#[]⟩⟩ : Seg)) rfl rfl rfl rfl rfl rfl rfl rfl (DW.v (DW.v (DW.v (DW.v DW.e)))) Seg.len (by decide) (by decide) fun Xo27_4_1 => ?_
           exact RA.to hall (RA.lr (ro27_1111100 Xo27_4_1) rfl rfl)
          ·skip
           refine RO.storeAgg (es := [I ((againN x now).state), I ((againN x now).iss), I ((againN x now).una), I ((againN x now).rcv), S ((againN x now).wait), I ((againN x now).sent), I ((againN x now).fin), Bo ((againN x now).peerFin), S ((againN x now).in_), .al 6 (some 9) 2 (((againN x now).late).length) (q25 9) 0, Bo ((againN x now).owe), I ((againN x now).due), I ((againN x now).times)]) rfl rfl rfl rfl rfl rfl rfl rfl rfl rfl (Nat.le_of_ble_eq_true rfl) rfl ?_
           refine RA.le [(4, .obj b2 [I ((againN x now).state), I ((againN x now).iss), I ((againN x now).una), I ((againN x now).rcv), S ((againN x now).wait), I ((againN x now).sent), I ((againN x now).fin), Bo ((againN x now).peerFin), S ((againN x now).in_), .al 6 (some 9) 2 (((againN x now).late).length) (q25 9) 0, Bo ((againN x now).owe), I ((againN x now).due), I ((againN x now).times)]), (6, .obj b4 [I ((againN x now).state), I ((againN x now).iss), I ((againN x now).una), I ((againN x now).rcv), S ((againN x now).wait), I ((againN x now).sent), I ((againN x now).fin), Bo ((againN x now).peerFin), S ((againN x now).in_), .w (sl 2 Late.c ((againN x now).late)) (q25 9), Bo ((againN x now).owe), I ((againN x now).due), I ((againN x now).times)]), (45, .agg [I x.iss, I 0, I 1, S (⟨#[]⟩)])] rfl (Le.of rfl) ?_
           refine RA.pullO (k := 4) (l := 6) (j := 9) 4 6 9 rfl rfl rfl (by decide) rfl rfl rfl rfl ?_
           refine RA.le [(4, .obj b2 [I ((againN x now).state), I ((againN x now).iss), I ((againN x now).una), I ((againN x now).rcv), S ((againN x now).wait), I ((againN x now).sent), I ((againN x now).fin), Bo ((againN x now).peerFin), S ((againN x now).in_), .w (sl 2 Late.c ((againN x now).late)) (q25 9), Bo ((againN x now).owe), I ((againN x now).due), I ((againN x now).times)]), (45, .agg [I x.iss, I 0, I 1, S (⟨#[]⟩)])] rfl (Le.of rfl) ?_
           exact RA.to hall (RA.lr ro27_1111010 rfl rfl)
         have ro27_1100010 : RA [] E B all 4 #[true, true, false, false, false, true, false] ⟨62, [(2, .obj b1 ((Stream.c x).map .r)), (4, .obj b2 [I ((againN x now).state), I ((againN x now).iss), I ((againN x now).una), I ((againN x now).rcv), S ((againN x now).wait), I ((againN x now).sent), I ((againN x now).fin), Bo ((againN x now).peerFin), S ((againN x now).in_), .w (sl 2 Late.c ((againN x now).late)) (q25 9), Bo ((againN x now).owe), I ((againN x now).due), I ((againN x now).times)]), (43, .pt 2 b1 1)]⟩ K := by
          refine RA.of hall (RA.stepH (L := [2]) Tell.e (by kernel_rfl) (by simp) (RA.each ?_ (RA.each0)))
          ·skip
           refine RO.v rfl rfl (V.loadPrim (d := I x.iss) rfl rfl (.inl rfl) rfl rfl rfl) rfl ?_
           refine RA.first (i := 3) (ls' := #[true, true, true, true, false, true, false]) Tell.e (by kernel_rfl) rfl rfl rfl (VF.p (V.build (ds := [I x.iss, I 0, I 1, S (⟨#[]⟩)]) rfl rfl rfl rfl (.one rfl rfl rfl (Nat.le_of_ble_eq_true rfl) (.one rfl rfl rfl (Nat.le_of_ble_eq_true rfl) (.nil))))) ?_
           exact RA.to hall (RA.lr ro27_1111010 rfl rfl)
         have ro27_0111000 : RA [] E B all 4 #[false, true, true, true, false, false, false] ⟨62, [(4, .obj b2 [I 0, I 0, I 0, I 0, S (⟨#[]⟩), I 0, I 0, Bo false, S (⟨#[]⟩), .r (.v (.slice none 0 0)), Bo false, I 0, I 0]), (6, .obj b4 [I ((againN x now).state), I ((againN x now).iss), I ((againN x now).una), I ((againN x now).rcv), S ((againN x now).wait), I ((againN x now).sent), I ((againN x now).fin), Bo ((againN x now).peerFin), S ((againN x now).in_), .w (sl 2 Late.c ((againN x now).late)) (q25 9), Bo ((againN x now).owe), I ((againN x now).due), I ((againN x now).times)]), (45, .agg [I x.iss, I 0, I 1, S (⟨#[]⟩)])]⟩ K := by
          refine RA.of hall (RA.stepH (L := [0, 4]) Tell.e (by kernel_rfl) (by simp) (RA.each ?_ (RA.each ?_ (RA.each0))))
          ·skip
           refine RO.v rfl rfl (V.loadAgg rfl rfl rfl rfl rfl (Nat.le_of_ble_eq_true rfl)) rfl ?_
           exact RA.to hall (RA.lr ro27_1111000 rfl rfl)
          ·skip
           refine RO.build1 (c := Seg.c) (v := (⟨x.iss, 0, 1, ⟨#[]⟩⟩ : Seg)) rfl rfl rfl rfl rfl rfl rfl rfl (DW.v (DW.v (DW.v (DW.v DW.e)))) Seg.len (by decide) (by decide) fun Xo27_4_1 => ?_
           exact RA.to hall (RA.lr (ro27_0111100 Xo27_4_1) rfl rfl)
         have ro27_1100000 : RA [] E B all 5 #[true, true, false, false, false, false, false] ⟨62, [(2, .obj b1 ((Stream.c x).map .r)), (4, .obj b2 [I 0, I 0, I 0, I 0, S (⟨#[]⟩), I 0, I 0, Bo false, S (⟨#[]⟩), .r (.v (.slice none 0 0)), Bo false, I 0, I 0]), (6, .obj b4 [I ((againN x now).state), I ((againN x now).iss), I ((againN x now).una), I ((againN x now).rcv), S ((againN x now).wait), I ((againN x now).sent), I ((againN x now).fin), Bo ((againN x now).peerFin), S ((againN x now).in_), .w (sl 2 Late.c ((againN x now).late)) (q25 9), Bo ((againN x now).owe), I ((againN x now).due), I ((againN x now).times)]), (42, .agg [I ((againN x now).state), I ((againN x now).iss), I ((againN x now).una), I ((againN x now).rcv), S ((againN x now).wait), I ((againN x now).sent), I ((againN x now).fin), Bo ((againN x now).peerFin), S ((againN x now).in_), .al 6 (some 9) 2 (((againN x now).late).length) (q25 9) 0, Bo ((againN x now).owe), I ((againN x now).due), I ((againN x now).times)]), (43, .pt 2 b1 1)]⟩ K := by
          refine RA.of hall (RA.stepH (L := [2, 5]) Tell.e (by kernel_rfl) (by simp) (RA.each ?_ (RA.each ?_ (RA.each0))))
          ·skip
           refine RO.v rfl rfl (V.loadPrim (d := I x.iss) rfl rfl (.inl rfl) rfl rfl rfl) rfl ?_
           refine RA.first (i := 3) (ls' := #[true, true, true, true, false, false, false]) Tell.e (by kernel_rfl) rfl rfl rfl (VF.p (V.build (ds := [I x.iss, I 0, I 1, S (⟨#[]⟩)]) rfl rfl rfl rfl (.one rfl rfl rfl (Nat.le_of_ble_eq_true rfl) (.one rfl rfl rfl (Nat.le_of_ble_eq_true rfl) (.nil))))) ?_
           exact RA.to hall (RA.lr ro27_1111000 rfl rfl)
          ·skip
           refine RO.storeAgg (es := [I ((againN x now).state), I ((againN x now).iss), I ((againN x now).una), I ((againN x now).rcv), S ((againN x now).wait), I ((againN x now).sent), I ((againN x now).fin), Bo ((againN x now).peerFin), S ((againN x now).in_), .al 6 (some 9) 2 (((againN x now).late).length) (q25 9) 0, Bo ((againN x now).owe), I ((againN x now).due), I ((againN x now).times)]) rfl rfl rfl rfl rfl rfl rfl rfl rfl rfl (Nat.le_of_ble_eq_true rfl) rfl ?_
           refine RA.le [(2, .obj b1 ((Stream.c x).map .r)), (4, .obj b2 [I ((againN x now).state), I ((againN x now).iss), I ((againN x now).una), I ((againN x now).rcv), S ((againN x now).wait), I ((againN x now).sent), I ((againN x now).fin), Bo ((againN x now).peerFin), S ((againN x now).in_), .al 6 (some 9) 2 (((againN x now).late).length) (q25 9) 0, Bo ((againN x now).owe), I ((againN x now).due), I ((againN x now).times)]), (6, .obj b4 [I ((againN x now).state), I ((againN x now).iss), I ((againN x now).una), I ((againN x now).rcv), S ((againN x now).wait), I ((againN x now).sent), I ((againN x now).fin), Bo ((againN x now).peerFin), S ((againN x now).in_), .w (sl 2 Late.c ((againN x now).late)) (q25 9), Bo ((againN x now).owe), I ((againN x now).due), I ((againN x now).times)]), (43, .pt 2 b1 1)] rfl (Le.of rfl) ?_
           refine RA.pullO (k := 4) (l := 6) (j := 9) 4 6 9 rfl rfl rfl (by decide) rfl rfl rfl rfl ?_
           refine RA.le [(2, .obj b1 ((Stream.c x).map .r)), (4, .obj b2 [I ((againN x now).state), I ((againN x now).iss), I ((againN x now).una), I ((againN x now).rcv), S ((againN x now).wait), I ((againN x now).sent), I ((againN x now).fin), Bo ((againN x now).peerFin), S ((againN x now).in_), .w (sl 2 Late.c ((againN x now).late)) (q25 9), Bo ((againN x now).owe), I ((againN x now).due), I ((againN x now).times)]), (43, .pt 2 b1 1)] rfl (Le.of rfl) ?_
           exact RA.to hall (RA.lr ro27_1100010 rfl rfl)
         have ro27_0100000 : RA [] E B all 6 #[false, true, false, false, false, false, false] ⟨62, [(2, .obj b1 ((Stream.c x).map .r)), (4, .obj b2 [I 0, I 0, I 0, I 0, S (⟨#[]⟩), I 0, I 0, Bo false, S (⟨#[]⟩), .r (.v (.slice none 0 0)), Bo false, I 0, I 0]), (6, .obj b4 [I ((againN x now).state), I ((againN x now).iss), I ((againN x now).una), I ((againN x now).rcv), S ((againN x now).wait), I ((againN x now).sent), I ((againN x now).fin), Bo ((againN x now).peerFin), S ((againN x now).in_), .w (sl 2 Late.c ((againN x now).late)) (q25 9), Bo ((againN x now).owe), I ((againN x now).due), I ((againN x now).times)]), (43, .pt 2 b1 1)]⟩ K := by
          refine RA.of hall (RA.stepH (L := [0, 2]) Tell.e (by kernel_rfl) (by simp) (RA.each ?_ (RA.each ?_ (RA.each0))))
          ·skip
           refine RO.v rfl rfl (V.loadAgg rfl rfl rfl rfl rfl (Nat.le_of_ble_eq_true rfl)) rfl ?_
           exact RA.to hall (RA.lr ro27_1100000 rfl rfl)
          ·skip
           refine RO.v rfl rfl (V.loadPrim (d := I x.iss) rfl rfl (.inl rfl) rfl rfl rfl) rfl ?_
           refine RA.first (i := 3) (ls' := #[false, true, true, true, false, false, false]) Tell.e (by kernel_rfl) rfl rfl rfl (VF.p (V.build (ds := [I x.iss, I 0, I 1, S (⟨#[]⟩)]) rfl rfl rfl rfl (.one rfl rfl rfl (Nat.le_of_ble_eq_true rfl) (.one rfl rfl rfl (Nat.le_of_ble_eq_true rfl) (.nil))))) ?_
           exact RA.to hall (RA.lr ro27_0111000 rfl rfl)
         have ro27_S : RA [] E B all 7 #[false, false, false, false, false, false, false] ⟨62, [(2, .obj b1 ((Stream.c x).map .r)), (4, .obj b2 [I 0, I 0, I 0, I 0, S (⟨#[]⟩), I 0, I 0, Bo false, S (⟨#[]⟩), .r (.v (.slice none 0 0)), Bo false, I 0, I 0]), (6, .obj b4 [I ((againN x now).state), I ((againN x now).iss), I ((againN x now).una), I ((againN x now).rcv), S ((againN x now).wait), I ((againN x now).sent), I ((againN x now).fin), Bo ((againN x now).peerFin), S ((againN x now).in_), .w (sl 2 Late.c ((againN x now).late)) (q25 9), Bo ((againN x now).owe), I ((againN x now).due), I ((againN x now).times)])]⟩ K := by
          refine RA.of hall ?_
          refine RA.first (i := 1) (ls' := #[false, true, false, false, false, false, false]) Tell.e (by kernel_rfl) rfl rfl rfl (VF.p (V.field rfl rfl rfl rfl (by decide) rfl)) ?_
          exact RA.to hall (RA.lr ro27_0100000 rfl rfl)
         exact RA.start (by kernel_rfl) (by kernel_rfl) (RA.lr ro27_S rfl rfl)
        ·rintro Xo27_4_1
         refine CW.ret ?_
         exact Post.tup (by decide) (RVs.c (RV.c (f := fun e => (Stream.c e).map .w) (e' := (againN x now)) rfl rfl rfl rfl (DT.v (DT.v (DT.v (DT.v (DT.v (DT.v (DT.v (DT.v (DT.v (DT.w (DT.v (DT.v (DT.v DT.e))))))))))))) (by unfold pushN; first | (simp_all; done) | grind)) (RVs.c (RV.w rfl (by unfold pushN; first | (simp_all; done) | grind)) RVs.e)) (AOs.a rfl (AOs.r AOs.e))
       ·skip
        refine CW.skip ?_
        refine CW.le [(2, .obj b1 ((Stream.c x).map .r)), (4, .obj b2 [I 0, I 0, I 0, I 0, S (⟨#[]⟩), I 0, I 0, Bo false, S (⟨#[]⟩), .r (.v (.slice none 0 0)), Bo false, I 0, I 0]), (6, .obj b4 [I ((againN x now).state), I ((againN x now).iss), I ((againN x now).una), I ((againN x now).rcv), S ((againN x now).wait), I ((againN x now).sent), I ((againN x now).fin), Bo ((againN x now).peerFin), S ((againN x now).in_), .w (sl 2 Late.c ((againN x now).late)) (q25 9), Bo ((againN x now).owe), I ((againN x now).due), I ((againN x now).times)])] rfl (Le.of rfl) ?_
        refine CW.anyJ (fc := []) 62 (fun (Xo28_6_1 : Value) => [(4, .obj b2 [I ((againN x now).state), I ((againN x now).iss), I ((againN x now).una), I ((againN x now).rcv), S ((againN x now).wait), I ((againN x now).sent), I ((againN x now).fin), Bo ((againN x now).peerFin), S ((againN x now).in_), .w (sl 2 Late.c ((againN x now).late)) (q25 9), Bo ((againN x now).owe), I ((againN x now).due), I ((againN x now).times)]), (5, .w (sl 4 Seg.c ([(⟨x.iss, x.rcv, 3, ⟨#[]⟩⟩ : Seg)])) Xo28_6_1)]) (fun all hall K hK => ?_) ?_
        ·skip
         have ro28_111111111 : ∀ (Xo28_6_1 : Value), RA [] E B all 0 #[true, true, true, true, true, true, true, true, true] ⟨62, [(4, .obj b2 [I ((againN x now).state), I ((againN x now).iss), I ((againN x now).una), I ((againN x now).rcv), S ((againN x now).wait), I ((againN x now).sent), I ((againN x now).fin), Bo ((againN x now).peerFin), S ((againN x now).in_), .w (sl 2 Late.c ((againN x now).late)) (q25 9), Bo ((againN x now).owe), I ((againN x now).due), I ((againN x now).times)]), (5, .w (sl 4 Seg.c ([(⟨x.iss, x.rcv, 3, ⟨#[]⟩⟩ : Seg)])) Xo28_6_1)]⟩ K := by
          intro Xo28_6_1
          exact RA.of hall (RA.finH Tell.e (by kernel_rfl) (hK Xo28_6_1 _ rfl (Le.of rfl)))
         have ro28_111111110 : ∀ (Xo28_6_1 : Value), RA [] E B all 1 #[true, true, true, true, true, true, true, true, false] ⟨62, [(4, .obj b2 [I ((againN x now).state), I ((againN x now).iss), I ((againN x now).una), I ((againN x now).rcv), S ((againN x now).wait), I ((againN x now).sent), I ((againN x now).fin), Bo ((againN x now).peerFin), S ((againN x now).in_), .w (sl 2 Late.c ((againN x now).late)) (q25 9), Bo ((againN x now).owe), I ((againN x now).due), I ((againN x now).times)]), (53, .w (sl 4 Seg.c ([(⟨x.iss, x.rcv, 3, ⟨#[]⟩⟩ : Seg)])) Xo28_6_1)]⟩ K := by
          intro Xo28_6_1
          refine RA.of hall (RA.stepH (L := [8]) Tell.e (by kernel_rfl) (by simp) (RA.each ?_ (RA.each0)))
          ·skip
           refine RO.assignMove rfl rfl rfl rfl rfl (by decide) (Nat.le_of_ble_eq_true rfl) (Nat.le_of_ble_eq_true rfl) ?_
           exact RA.to hall (RA.lr (ro28_111111111 Xo28_6_1) rfl rfl)
         have ro28_111111010 : RA [] E B all 2 #[true, true, true, true, true, true, false, true, false] ⟨62, [(4, .obj b2 [I ((againN x now).state), I ((againN x now).iss), I ((againN x now).una), I ((againN x now).rcv), S ((againN x now).wait), I ((againN x now).sent), I ((againN x now).fin), Bo ((againN x now).peerFin), S ((againN x now).in_), .w (sl 2 Late.c ((againN x now).late)) (q25 9), Bo ((againN x now).owe), I ((againN x now).due), I ((againN x now).times)]), (52, .agg [I x.iss, I x.rcv, I 3, S (⟨#[]⟩)])]⟩ K := by
          refine RA.of hall (RA.stepH (L := [6]) Tell.e (by kernel_rfl) (by simp) (RA.each ?_ (RA.each0)))
          ·skip
           refine RO.build1 (c := Seg.c) (v := (⟨x.iss, x.rcv, 3, ⟨#[]⟩⟩ : Seg)) rfl rfl rfl rfl rfl rfl rfl rfl (DW.v (DW.v (DW.v (DW.v DW.e)))) Seg.len (by decide) (by decide) fun Xo28_6_1 => ?_
           exact RA.to hall (RA.lr (ro28_111111110 Xo28_6_1) rfl rfl)
         have ro28_111111100 : ∀ (Xo28_6_1 : Value), RA [] E B all 2 #[true, true, true, true, true, true, true, false, false] ⟨62, [(4, .obj b2 [I 0, I 0, I 0, I 0, S (⟨#[]⟩), I 0, I 0, Bo false, S (⟨#[]⟩), .r (.v (.slice none 0 0)), Bo false, I 0, I 0]), (6, .obj b4 [I ((againN x now).state), I ((againN x now).iss), I ((againN x now).una), I ((againN x now).rcv), S ((againN x now).wait), I ((againN x now).sent), I ((againN x now).fin), Bo ((againN x now).peerFin), S ((againN x now).in_), .w (sl 2 Late.c ((againN x now).late)) (q25 9), Bo ((againN x now).owe), I ((againN x now).due), I ((againN x now).times)]), (47, .agg [I ((againN x now).state), I ((againN x now).iss), I ((againN x now).una), I ((againN x now).rcv), S ((againN x now).wait), I ((againN x now).sent), I ((againN x now).fin), Bo ((againN x now).peerFin), S ((againN x now).in_), .al 6 (some 9) 2 (((againN x now).late).length) (q25 9) 0, Bo ((againN x now).owe), I ((againN x now).due), I ((againN x now).times)]), (53, .w (sl 4 Seg.c ([(⟨x.iss, x.rcv, 3, ⟨#[]⟩⟩ : Seg)])) Xo28_6_1)]⟩ K := by
          intro Xo28_6_1
          refine RA.of hall (RA.stepH (L := [7]) Tell.e (by kernel_rfl) (by simp) (RA.each ?_ (RA.each0)))
          ·skip
           refine RO.storeAgg (es := [I ((againN x now).state), I ((againN x now).iss), I ((againN x now).una), I ((againN x now).rcv), S ((againN x now).wait), I ((againN x now).sent), I ((againN x now).fin), Bo ((againN x now).peerFin), S ((againN x now).in_), .al 6 (some 9) 2 (((againN x now).late).length) (q25 9) 0, Bo ((againN x now).owe), I ((againN x now).due), I ((againN x now).times)]) rfl rfl rfl rfl rfl rfl rfl rfl rfl rfl (Nat.le_of_ble_eq_true rfl) rfl ?_
           refine RA.le [(4, .obj b2 [I ((againN x now).state), I ((againN x now).iss), I ((againN x now).una), I ((againN x now).rcv), S ((againN x now).wait), I ((againN x now).sent), I ((againN x now).fin), Bo ((againN x now).peerFin), S ((againN x now).in_), .al 6 (some 9) 2 (((againN x now).late).length) (q25 9) 0, Bo ((againN x now).owe), I ((againN x now).due), I ((againN x now).times)]), (6, .obj b4 [I ((againN x now).state), I ((againN x now).iss), I ((againN x now).una), I ((againN x now).rcv), S ((againN x now).wait), I ((againN x now).sent), I ((againN x now).fin), Bo ((againN x now).peerFin), S ((againN x now).in_), .w (sl 2 Late.c ((againN x now).late)) (q25 9), Bo ((againN x now).owe), I ((againN x now).due), I ((againN x now).times)]), (53, .w (sl 4 Seg.c ([(⟨x.iss, x.rcv, 3, ⟨#[]⟩⟩ : Seg)])) Xo28_6_1)] rfl (Le.of rfl) ?_
           refine RA.pullO (k := 4) (l := 6) (j := 9) 4 6 9 rfl rfl rfl (by decide) rfl rfl rfl rfl ?_
           refine RA.le [(4, .obj b2 [I ((againN x now).state), I ((againN x now).iss), I ((againN x now).una), I ((againN x now).rcv), S ((againN x now).wait), I ((againN x now).sent), I ((againN x now).fin), Bo ((againN x now).peerFin), S ((againN x now).in_), .w (sl 2 Late.c ((againN x now).late)) (q25 9), Bo ((againN x now).owe), I ((againN x now).due), I ((againN x now).times)]), (53, .w (sl 4 Seg.c ([(⟨x.iss, x.rcv, 3, ⟨#[]⟩⟩ : Seg)])) Xo28_6_1)] rfl (Le.of rfl) ?_
           exact RA.to hall (RA.lr (ro28_111111110 Xo28_6_1) rfl rfl)
         have ro28_011111100 : ∀ (Xo28_6_1 : Value), RA [] E B all 3 #[false, true, true, true, true, true, true, false, false] ⟨62, [(4, .obj b2 [I 0, I 0, I 0, I 0, S (⟨#[]⟩), I 0, I 0, Bo false, S (⟨#[]⟩), .r (.v (.slice none 0 0)), Bo false, I 0, I 0]), (6, .obj b4 [I ((againN x now).state), I ((againN x now).iss), I ((againN x now).una), I ((againN x now).rcv), S ((againN x now).wait), I ((againN x now).sent), I ((againN x now).fin), Bo ((againN x now).peerFin), S ((againN x now).in_), .w (sl 2 Late.c ((againN x now).late)) (q25 9), Bo ((againN x now).owe), I ((againN x now).due), I ((againN x now).times)]), (53, .w (sl 4 Seg.c ([(⟨x.iss, x.rcv, 3, ⟨#[]⟩⟩ : Seg)])) Xo28_6_1)]⟩ K := by
          intro Xo28_6_1
          refine RA.of hall (RA.stepH (L := [0]) Tell.e (by kernel_rfl) (by simp) (RA.each ?_ (RA.each0)))
          ·skip
           refine RO.v rfl rfl (V.loadAgg rfl rfl rfl rfl rfl (Nat.le_of_ble_eq_true rfl)) rfl ?_
           exact RA.to hall (RA.lr (ro28_111111100 Xo28_6_1) rfl rfl)
         have ro28_111111000 : RA [] E B all 3 #[true, true, true, true, true, true, false, false, false] ⟨62, [(4, .obj b2 [I 0, I 0, I 0, I 0, S (⟨#[]⟩), I 0, I 0, Bo false, S (⟨#[]⟩), .r (.v (.slice none 0 0)), Bo false, I 0, I 0]), (6, .obj b4 [I ((againN x now).state), I ((againN x now).iss), I ((againN x now).una), I ((againN x now).rcv), S ((againN x now).wait), I ((againN x now).sent), I ((againN x now).fin), Bo ((againN x now).peerFin), S ((againN x now).in_), .w (sl 2 Late.c ((againN x now).late)) (q25 9), Bo ((againN x now).owe), I ((againN x now).due), I ((againN x now).times)]), (47, .agg [I ((againN x now).state), I ((againN x now).iss), I ((againN x now).una), I ((againN x now).rcv), S ((againN x now).wait), I ((againN x now).sent), I ((againN x now).fin), Bo ((againN x now).peerFin), S ((againN x now).in_), .al 6 (some 9) 2 (((againN x now).late).length) (q25 9) 0, Bo ((againN x now).owe), I ((againN x now).due), I ((againN x now).times)]), (52, .agg [I x.iss, I x.rcv, I 3, S (⟨#[]⟩)])]⟩ K := by
          refine RA.of hall (RA.stepH (L := [6, 7]) Tell.e (by kernel_rfl) (by simp) (RA.each ?_ (RA.each ?_ (RA.each0))))
          ·skip
           refine RO.build1 (c := Seg.c) (v := (⟨x.iss, x.rcv, 3, ⟨#[]⟩⟩ : Seg)) rfl rfl rfl rfl rfl rfl rfl rfl (DW.v (DW.v (DW.v (DW.v DW.e)))) Seg.len (by decide) (by decide) fun Xo28_6_1 => ?_
           exact RA.to hall (RA.lr (ro28_111111100 Xo28_6_1) rfl rfl)
          ·skip
           refine RO.storeAgg (es := [I ((againN x now).state), I ((againN x now).iss), I ((againN x now).una), I ((againN x now).rcv), S ((againN x now).wait), I ((againN x now).sent), I ((againN x now).fin), Bo ((againN x now).peerFin), S ((againN x now).in_), .al 6 (some 9) 2 (((againN x now).late).length) (q25 9) 0, Bo ((againN x now).owe), I ((againN x now).due), I ((againN x now).times)]) rfl rfl rfl rfl rfl rfl rfl rfl rfl rfl (Nat.le_of_ble_eq_true rfl) rfl ?_
           refine RA.le [(4, .obj b2 [I ((againN x now).state), I ((againN x now).iss), I ((againN x now).una), I ((againN x now).rcv), S ((againN x now).wait), I ((againN x now).sent), I ((againN x now).fin), Bo ((againN x now).peerFin), S ((againN x now).in_), .al 6 (some 9) 2 (((againN x now).late).length) (q25 9) 0, Bo ((againN x now).owe), I ((againN x now).due), I ((againN x now).times)]), (6, .obj b4 [I ((againN x now).state), I ((againN x now).iss), I ((againN x now).una), I ((againN x now).rcv), S ((againN x now).wait), I ((againN x now).sent), I ((againN x now).fin), Bo ((againN x now).peerFin), S ((againN x now).in_), .w (sl 2 Late.c ((againN x now).late)) (q25 9), Bo ((againN x now).owe), I ((againN x now).due), I ((againN x now).times)]), (52, .agg [I x.iss, I x.rcv, I 3, S (⟨#[]⟩)])] rfl (Le.of rfl) ?_
           refine RA.pullO (k := 4) (l := 6) (j := 9) 4 6 9 rfl rfl rfl (by decide) rfl rfl rfl rfl ?_
           refine RA.le [(4, .obj b2 [I ((againN x now).state), I ((againN x now).iss), I ((againN x now).una), I ((againN x now).rcv), S ((againN x now).wait), I ((againN x now).sent), I ((againN x now).fin), Bo ((againN x now).peerFin), S ((againN x now).in_), .w (sl 2 Late.c ((againN x now).late)) (q25 9), Bo ((againN x now).owe), I ((againN x now).due), I ((againN x now).times)]), (52, .agg [I x.iss, I x.rcv, I 3, S (⟨#[]⟩)])] rfl (Le.of rfl) ?_
           exact RA.to hall (RA.lr ro28_111111010 rfl rfl)
         have ro28_110110010 : RA [] E B all 4 #[true, true, false, true, true, false, false, true, false] ⟨62, [(2, .obj b1 ((Stream.c x).map .r)), (4, .obj b2 [I ((againN x now).state), I ((againN x now).iss), I ((againN x now).una), I ((againN x now).rcv), S ((againN x now).wait), I ((againN x now).sent), I ((againN x now).fin), Bo ((againN x now).peerFin), S ((againN x now).in_), .w (sl 2 Late.c ((againN x now).late)) (q25 9), Bo ((againN x now).owe), I ((againN x now).due), I ((againN x now).times)]), (48, .pt 2 b1 1), (51, I x.rcv)]⟩ K := by
          refine RA.of hall (RA.stepH (L := [2]) Tell.e (by kernel_rfl) (by simp) (RA.each ?_ (RA.each0)))
          ·skip
           refine RO.v rfl rfl (V.loadPrim (d := I x.iss) rfl rfl (.inl rfl) rfl rfl rfl) rfl ?_
           refine RA.first (i := 5) (ls' := #[true, true, true, true, true, true, false, true, false]) Tell.e (by kernel_rfl) rfl rfl rfl (VF.p (V.build (ds := [I x.iss, I x.rcv, I 3, S (⟨#[]⟩)]) rfl rfl rfl rfl (.one rfl rfl rfl (Nat.le_of_ble_eq_true rfl) (.one rfl rfl rfl (Nat.le_of_ble_eq_true rfl) (.one rfl rfl rfl (Nat.le_of_ble_eq_true rfl) (.nil)))))) ?_
           exact RA.to hall (RA.lr ro28_111111010 rfl rfl)
         have ro28_111100010 : RA [] E B all 4 #[true, true, true, true, false, false, false, true, false] ⟨62, [(2, .obj b1 ((Stream.c x).map .r)), (4, .obj b2 [I ((againN x now).state), I ((againN x now).iss), I ((againN x now).una), I ((againN x now).rcv), S ((againN x now).wait), I ((againN x now).sent), I ((againN x now).fin), Bo ((againN x now).peerFin), S ((againN x now).in_), .w (sl 2 Late.c ((againN x now).late)) (q25 9), Bo ((againN x now).owe), I ((againN x now).due), I ((againN x now).times)]), (49, I x.iss), (50, .pt 2 b1 3)]⟩ K := by
          refine RA.of hall (RA.stepH (L := [4]) Tell.e (by kernel_rfl) (by simp) (RA.each ?_ (RA.each0)))
          ·skip
           refine RO.v rfl rfl (V.loadPrim (d := I x.rcv) rfl rfl (.inl rfl) rfl rfl rfl) rfl ?_
           refine RA.first (i := 5) (ls' := #[true, true, true, true, true, true, false, true, false]) Tell.e (by kernel_rfl) rfl rfl rfl (VF.p (V.build (ds := [I x.iss, I x.rcv, I 3, S (⟨#[]⟩)]) rfl rfl rfl rfl (.one rfl rfl rfl (Nat.le_of_ble_eq_true rfl) (.one rfl rfl rfl (Nat.le_of_ble_eq_true rfl) (.one rfl rfl rfl (Nat.le_of_ble_eq_true rfl) (.nil)))))) ?_
           exact RA.to hall (RA.lr ro28_111111010 rfl rfl)
         have ro28_011111000 : RA [] E B all 4 #[false, true, true, true, true, true, false, false, false] ⟨62, [(4, .obj b2 [I 0, I 0, I 0, I 0, S (⟨#[]⟩), I 0, I 0, Bo false, S (⟨#[]⟩), .r (.v (.slice none 0 0)), Bo false, I 0, I 0]), (6, .obj b4 [I ((againN x now).state), I ((againN x now).iss), I ((againN x now).una), I ((againN x now).rcv), S ((againN x now).wait), I ((againN x now).sent), I ((againN x now).fin), Bo ((againN x now).peerFin), S ((againN x now).in_), .w (sl 2 Late.c ((againN x now).late)) (q25 9), Bo ((againN x now).owe), I ((againN x now).due), I ((againN x now).times)]), (52, .agg [I x.iss, I x.rcv, I 3, S (⟨#[]⟩)])]⟩ K := by
          refine RA.of hall (RA.stepH (L := [0, 6]) Tell.e (by kernel_rfl) (by simp) (RA.each ?_ (RA.each ?_ (RA.each0))))
          ·skip
           refine RO.v rfl rfl (V.loadAgg rfl rfl rfl rfl rfl (Nat.le_of_ble_eq_true rfl)) rfl ?_
           exact RA.to hall (RA.lr ro28_111111000 rfl rfl)
          ·skip
           refine RO.build1 (c := Seg.c) (v := (⟨x.iss, x.rcv, 3, ⟨#[]⟩⟩ : Seg)) rfl rfl rfl rfl rfl rfl rfl rfl (DW.v (DW.v (DW.v (DW.v DW.e)))) Seg.len (by decide) (by decide) fun Xo28_6_1 => ?_
           exact RA.to hall (RA.lr (ro28_011111100 Xo28_6_1) rfl rfl)
         have ro28_110100010 : RA [] E B all 5 #[true, true, false, true, false, false, false, true, false] ⟨62, [(2, .obj b1 ((Stream.c x).map .r)), (4, .obj b2 [I ((againN x now).state), I ((againN x now).iss), I ((againN x now).una), I ((againN x now).rcv), S ((againN x now).wait), I ((againN x now).sent), I ((againN x now).fin), Bo ((againN x now).peerFin), S ((againN x now).in_), .w (sl 2 Late.c ((againN x now).late)) (q25 9), Bo ((againN x now).owe), I ((againN x now).due), I ((againN x now).times)]), (48, .pt 2 b1 1), (50, .pt 2 b1 3)]⟩ K := by
          refine RA.of hall (RA.stepH (L := [2, 4]) Tell.e (by kernel_rfl) (by simp) (RA.each ?_ (RA.each ?_ (RA.each0))))
          ·skip
           refine RO.v rfl rfl (V.loadPrim (d := I x.iss) rfl rfl (.inl rfl) rfl rfl rfl) rfl ?_
           exact RA.to hall (RA.lr ro28_111100010 rfl rfl)
          ·skip
           refine RO.v rfl rfl (V.loadPrim (d := I x.rcv) rfl rfl (.inl rfl) rfl rfl rfl) rfl ?_
           exact RA.to hall (RA.lr ro28_110110010 rfl rfl)
         have ro28_110110000 : RA [] E B all 5 #[true, true, false, true, true, false, false, false, false] ⟨62, [(2, .obj b1 ((Stream.c x).map .r)), (4, .obj b2 [I 0, I 0, I 0, I 0, S (⟨#[]⟩), I 0, I 0, Bo false, S (⟨#[]⟩), .r (.v (.slice none 0 0)), Bo false, I 0, I 0]), (6, .obj b4 [I ((againN x now).state), I ((againN x now).iss), I ((againN x now).una), I ((againN x now).rcv), S ((againN x now).wait), I ((againN x now).sent), I ((againN x now).fin), Bo ((againN x now).peerFin), S ((againN x now).in_), .w (sl 2 Late.c ((againN x now).late)) (q25 9), Bo ((againN x now).owe), I ((againN x now).due), I ((againN x now).times)]), (47, .agg [I ((againN x now).state), I ((againN x now).iss), I ((againN x now).una), I ((againN x now).rcv), S ((againN x now).wait), I ((againN x now).sent), I ((againN x now).fin), Bo ((againN x now).peerFin), S ((againN x now).in_), .al 6 (some 9) 2 (((againN x now).late).length) (q25 9) 0, Bo ((againN x now).owe), I ((againN x now).due), I ((againN x now).times)]), (48, .pt 2 b1 1), (51, I x.rcv)]⟩ K := by
          refine RA.of hall (RA.stepH (L := [2, 7]) Tell.e (by kernel_rfl) (by simp) (RA.each ?_ (RA.each ?_ (RA.each0))))
          ·skip
           refine RO.v rfl rfl (V.loadPrim (d := I x.iss) rfl rfl (.inl rfl) rfl rfl rfl) rfl ?_
           refine RA.first (i := 5) (ls' := #[true, true, true, true, true, true, false, false, false]) Tell.e (by kernel_rfl) rfl rfl rfl (VF.p (V.build (ds := [I x.iss, I x.rcv, I 3, S (⟨#[]⟩)]) rfl rfl rfl rfl (.one rfl rfl rfl (Nat.le_of_ble_eq_true rfl) (.one rfl rfl rfl (Nat.le_of_ble_eq_true rfl) (.one rfl rfl rfl (Nat.le_of_ble_eq_true rfl) (.nil)))))) ?_
           exact RA.to hall (RA.lr ro28_111111000 rfl rfl)
          ·skip
           refine RO.storeAgg (es := [I ((againN x now).state), I ((againN x now).iss), I ((againN x now).una), I ((againN x now).rcv), S ((againN x now).wait), I ((againN x now).sent), I ((againN x now).fin), Bo ((againN x now).peerFin), S ((againN x now).in_), .al 6 (some 9) 2 (((againN x now).late).length) (q25 9) 0, Bo ((againN x now).owe), I ((againN x now).due), I ((againN x now).times)]) rfl rfl rfl rfl rfl rfl rfl rfl rfl rfl (Nat.le_of_ble_eq_true rfl) rfl ?_
           refine RA.le [(2, .obj b1 ((Stream.c x).map .r)), (4, .obj b2 [I ((againN x now).state), I ((againN x now).iss), I ((againN x now).una), I ((againN x now).rcv), S ((againN x now).wait), I ((againN x now).sent), I ((againN x now).fin), Bo ((againN x now).peerFin), S ((againN x now).in_), .al 6 (some 9) 2 (((againN x now).late).length) (q25 9) 0, Bo ((againN x now).owe), I ((againN x now).due), I ((againN x now).times)]), (6, .obj b4 [I ((againN x now).state), I ((againN x now).iss), I ((againN x now).una), I ((againN x now).rcv), S ((againN x now).wait), I ((againN x now).sent), I ((againN x now).fin), Bo ((againN x now).peerFin), S ((againN x now).in_), .w (sl 2 Late.c ((againN x now).late)) (q25 9), Bo ((againN x now).owe), I ((againN x now).due), I ((againN x now).times)]), (48, .pt 2 b1 1), (51, I x.rcv)] rfl (Le.of rfl) ?_
           refine RA.pullO (k := 4) (l := 6) (j := 9) 4 6 9 rfl rfl rfl (by decide) rfl rfl rfl rfl ?_
           refine RA.le [(2, .obj b1 ((Stream.c x).map .r)), (4, .obj b2 [I ((againN x now).state), I ((againN x now).iss), I ((againN x now).una), I ((againN x now).rcv), S ((againN x now).wait), I ((againN x now).sent), I ((againN x now).fin), Bo ((againN x now).peerFin), S ((againN x now).in_), .w (sl 2 Late.c ((againN x now).late)) (q25 9), Bo ((againN x now).owe), I ((againN x now).due), I ((againN x now).times)]), (48, .pt 2 b1 1), (51, I x.rcv)] rfl (Le.of rfl) ?_
           exact RA.to hall (RA.lr ro28_110110010 rfl rfl)
         have ro28_111100000 : RA [] E B all 5 #[true, true, true, true, false, false, false, false, false] ⟨62, [(2, .obj b1 ((Stream.c x).map .r)), (4, .obj b2 [I 0, I 0, I 0, I 0, S (⟨#[]⟩), I 0, I 0, Bo false, S (⟨#[]⟩), .r (.v (.slice none 0 0)), Bo false, I 0, I 0]), (6, .obj b4 [I ((againN x now).state), I ((againN x now).iss), I ((againN x now).una), I ((againN x now).rcv), S ((againN x now).wait), I ((againN x now).sent), I ((againN x now).fin), Bo ((againN x now).peerFin), S ((againN x now).in_), .w (sl 2 Late.c ((againN x now).late)) (q25 9), Bo ((againN x now).owe), I ((againN x now).due), I ((againN x now).times)]), (47, .agg [I ((againN x now).state), I ((againN x now).iss), I ((againN x now).una), I ((againN x now).rcv), S ((againN x now).wait), I ((againN x now).sent), I ((againN x now).fin), Bo ((againN x now).peerFin), S ((againN x now).in_), .al 6 (some 9) 2 (((againN x now).late).length) (q25 9) 0, Bo ((againN x now).owe), I ((againN x now).due), I ((againN x now).times)]), (49, I x.iss), (50, .pt 2 b1 3)]⟩ K := by
          refine RA.of hall (RA.stepH (L := [4, 7]) Tell.e (by kernel_rfl) (by simp) (RA.each ?_ (RA.each ?_ (RA.each0))))
          ·skip
           refine RO.v rfl rfl (V.loadPrim (d := I x.rcv) rfl rfl (.inl rfl) rfl rfl rfl) rfl ?_
           refine RA.first (i := 5) (ls' := #[true, true, true, true, true, true, false, false, false]) Tell.e (by kernel_rfl) rfl rfl rfl (VF.p (V.build (ds := [I x.iss, I x.rcv, I 3, S (⟨#[]⟩)]) rfl rfl rfl rfl (.one rfl rfl rfl (Nat.le_of_ble_eq_true rfl) (.one rfl rfl rfl (Nat.le_of_ble_eq_true rfl) (.one rfl rfl rfl (Nat.le_of_ble_eq_true rfl) (.nil)))))) ?_
           exact RA.to hall (RA.lr ro28_111111000 rfl rfl)
          ·skip
           refine RO.storeAgg (es := [I ((againN x now).state), I ((againN x now).iss), I ((againN x now).una), I ((againN x now).rcv), S ((againN x now).wait), I ((againN x now).sent), I ((againN x now).fin), Bo ((againN x now).peerFin), S ((againN x now).in_), .al 6 (some 9) 2 (((againN x now).late).length) (q25 9) 0, Bo ((againN x now).owe), I ((againN x now).due), I ((againN x now).times)]) rfl rfl rfl rfl rfl rfl rfl rfl rfl rfl (Nat.le_of_ble_eq_true rfl) rfl ?_
           refine RA.le [(2, .obj b1 ((Stream.c x).map .r)), (4, .obj b2 [I ((againN x now).state), I ((againN x now).iss), I ((againN x now).una), I ((againN x now).rcv), S ((againN x now).wait), I ((againN x now).sent), I ((againN x now).fin), Bo ((againN x now).peerFin), S ((againN x now).in_), .al 6 (some 9) 2 (((againN x now).late).length) (q25 9) 0, Bo ((againN x now).owe), I ((againN x now).due), I ((againN x now).times)]), (6, .obj b4 [I ((againN x now).state), I ((againN x now).iss), I ((againN x now).una), I ((againN x now).rcv), S ((againN x now).wait), I ((againN x now).sent), I ((againN x now).fin), Bo ((againN x now).peerFin), S ((againN x now).in_), .w (sl 2 Late.c ((againN x now).late)) (q25 9), Bo ((againN x now).owe), I ((againN x now).due), I ((againN x now).times)]), (49, I x.iss), (50, .pt 2 b1 3)] rfl (Le.of rfl) ?_
           refine RA.pullO (k := 4) (l := 6) (j := 9) 4 6 9 rfl rfl rfl (by decide) rfl rfl rfl rfl ?_
           refine RA.le [(2, .obj b1 ((Stream.c x).map .r)), (4, .obj b2 [I ((againN x now).state), I ((againN x now).iss), I ((againN x now).una), I ((againN x now).rcv), S ((againN x now).wait), I ((againN x now).sent), I ((againN x now).fin), Bo ((againN x now).peerFin), S ((againN x now).in_), .w (sl 2 Late.c ((againN x now).late)) (q25 9), Bo ((againN x now).owe), I ((againN x now).due), I ((againN x now).times)]), (49, I x.iss), (50, .pt 2 b1 3)] rfl (Le.of rfl) ?_
           exact RA.to hall (RA.lr ro28_111100010 rfl rfl)
         have ro28_010110000 : RA [] E B all 6 #[false, true, false, true, true, false, false, false, false] ⟨62, [(2, .obj b1 ((Stream.c x).map .r)), (4, .obj b2 [I 0, I 0, I 0, I 0, S (⟨#[]⟩), I 0, I 0, Bo false, S (⟨#[]⟩), .r (.v (.slice none 0 0)), Bo false, I 0, I 0]), (6, .obj b4 [I ((againN x now).state), I ((againN x now).iss), I ((againN x now).una), I ((againN x now).rcv), S ((againN x now).wait), I ((againN x now).sent), I ((againN x now).fin), Bo ((againN x now).peerFin), S ((againN x now).in_), .w (sl 2 Late.c ((againN x now).late)) (q25 9), Bo ((againN x now).owe), I ((againN x now).due), I ((againN x now).times)]), (48, .pt 2 b1 1), (51, I x.rcv)]⟩ K := by
          refine RA.of hall (RA.stepH (L := [0, 2]) Tell.e (by kernel_rfl) (by simp) (RA.each ?_ (RA.each ?_ (RA.each0))))
          ·skip
           refine RO.v rfl rfl (V.loadAgg rfl rfl rfl rfl rfl (Nat.le_of_ble_eq_true rfl)) rfl ?_
           exact RA.to hall (RA.lr ro28_110110000 rfl rfl)
          ·skip
           refine RO.v rfl rfl (V.loadPrim (d := I x.iss) rfl rfl (.inl rfl) rfl rfl rfl) rfl ?_
           refine RA.first (i := 5) (ls' := #[false, true, true, true, true, true, false, false, false]) Tell.e (by kernel_rfl) rfl rfl rfl (VF.p (V.build (ds := [I x.iss, I x.rcv, I 3, S (⟨#[]⟩)]) rfl rfl rfl rfl (.one rfl rfl rfl (Nat.le_of_ble_eq_true rfl) (.one rfl rfl rfl (Nat.le_of_ble_eq_true rfl) (.one rfl rfl rfl (Nat.le_of_ble_eq_true rfl) (.nil)))))) ?_
           exact RA.to hall (RA.lr ro28_011111000 rfl rfl)
         have ro28_011100000 : RA [] E B all 6 #[false, true, true, true, false, false, false, false, false] ⟨62, [(2, .obj b1 ((Stream.c x).map .r)), (4, .obj b2 [I 0, I 0, I 0, I 0, S (⟨#[]⟩), I 0, I 0, Bo false, S (⟨#[]⟩), .r (.v (.slice none 0 0)), Bo false, I 0, I 0]), (6, .obj b4 [I ((againN x now).state), I ((againN x now).iss), I ((againN x now).una), I ((againN x now).rcv), S ((againN x now).wait), I ((againN x now).sent), I ((againN x now).fin), Bo ((againN x now).peerFin), S ((againN x now).in_), .w (sl 2 Late.c ((againN x now).late)) (q25 9), Bo ((againN x now).owe), I ((againN x now).due), I ((againN x now).times)]), (49, I x.iss), (50, .pt 2 b1 3)]⟩ K := by
          refine RA.of hall (RA.stepH (L := [0, 4]) Tell.e (by kernel_rfl) (by simp) (RA.each ?_ (RA.each ?_ (RA.each0))))
          ·skip
           refine RO.v rfl rfl (V.loadAgg rfl rfl rfl rfl rfl (Nat.le_of_ble_eq_true rfl)) rfl ?_
           exact RA.to hall (RA.lr ro28_111100000 rfl rfl)
          ·skip
           refine RO.v rfl rfl (V.loadPrim (d := I x.rcv) rfl rfl (.inl rfl) rfl rfl rfl) rfl ?_
           refine RA.first (i := 5) (ls' := #[false, true, true, true, true, true, false, false, false]) Tell.e (by kernel_rfl) rfl rfl rfl (VF.p (V.build (ds := [I x.iss, I x.rcv, I 3, S (⟨#[]⟩)]) rfl rfl rfl rfl (.one rfl rfl rfl (Nat.le_of_ble_eq_true rfl) (.one rfl rfl rfl (Nat.le_of_ble_eq_true rfl) (.one rfl rfl rfl (Nat.le_of_ble_eq_true rfl) (.nil)))))) ?_
           exact RA.to hall (RA.lr ro28_011111000 rfl rfl)
         have ro28_110100000 : RA [] E B all 6 #[true, true, false, true, false, false, false, false, false] ⟨62, [(2, .obj b1 ((Stream.c x).map .r)), (4, .obj b2 [I 0, I 0, I 0, I 0, S (⟨#[]⟩), I 0, I 0, Bo false, S (⟨#[]⟩), .r (.v (.slice none 0 0)), Bo false, I 0, I 0]), (6, .obj b4 [I ((againN x now).state), I ((againN x now).iss), I ((againN x now).una), I ((againN x now).rcv), S ((againN x now).wait), I ((againN x now).sent), I ((againN x now).fin), Bo ((againN x now).peerFin), S ((againN x now).in_), .w (sl 2 Late.c ((againN x now).late)) (q25 9), Bo ((againN x now).owe), I ((againN x now).due), I ((againN x now).times)]), (47, .agg [I ((againN x now).state), I ((againN x now).iss), I ((againN x now).una), I ((againN x now).rcv), S ((againN x now).wait), I ((againN x now).sent), I ((againN x now).fin), Bo ((againN x now).peerFin), S ((againN x now).in_), .al 6 (some 9) 2 (((againN x now).late).length) (q25 9) 0, Bo ((againN x now).owe), I ((againN x now).due), I ((againN x now).times)]), (48, .pt 2 b1 1), (50, .pt 2 b1 3)]⟩ K := by
          refine RA.of hall (RA.stepH (L := [2, 4, 7]) Tell.e (by kernel_rfl) (by simp) (RA.each ?_ (RA.each ?_ (RA.each ?_ (RA.each0)))))
          ·skip
           refine RO.v rfl rfl (V.loadPrim (d := I x.iss) rfl rfl (.inl rfl) rfl rfl rfl) rfl ?_
           exact RA.to hall (RA.lr ro28_111100000 rfl rfl)
          ·skip
           refine RO.v rfl rfl (V.loadPrim (d := I x.rcv) rfl rfl (.inl rfl) rfl rfl rfl) rfl ?_
           exact RA.to hall (RA.lr ro28_110110000 rfl rfl)
          ·skip
           refine RO.storeAgg (es := [I ((againN x now).state), I ((againN x now).iss), I ((againN x now).una), I ((againN x now).rcv), S ((againN x now).wait), I ((againN x now).sent), I ((againN x now).fin), Bo ((againN x now).peerFin), S ((againN x now).in_), .al 6 (some 9) 2 (((againN x now).late).length) (q25 9) 0, Bo ((againN x now).owe), I ((againN x now).due), I ((againN x now).times)]) rfl rfl rfl rfl rfl rfl rfl rfl rfl rfl (Nat.le_of_ble_eq_true rfl) rfl ?_
           refine RA.le [(2, .obj b1 ((Stream.c x).map .r)), (4, .obj b2 [I ((againN x now).state), I ((againN x now).iss), I ((againN x now).una), I ((againN x now).rcv), S ((againN x now).wait), I ((againN x now).sent), I ((againN x now).fin), Bo ((againN x now).peerFin), S ((againN x now).in_), .al 6 (some 9) 2 (((againN x now).late).length) (q25 9) 0, Bo ((againN x now).owe), I ((againN x now).due), I ((againN x now).times)]), (6, .obj b4 [I ((againN x now).state), I ((againN x now).iss), I ((againN x now).una), I ((againN x now).rcv), S ((againN x now).wait), I ((againN x now).sent), I ((againN x now).fin), Bo ((againN x now).peerFin), S ((againN x now).in_), .w (sl 2 Late.c ((againN x now).late)) (q25 9), Bo ((againN x now).owe), I ((againN x now).due), I ((againN x now).times)]), (48, .pt 2 b1 1), (50, .pt 2 b1 3)] rfl (Le.of rfl) ?_
           refine RA.pullO (k := 4) (l := 6) (j := 9) 4 6 9 rfl rfl rfl (by decide) rfl rfl rfl rfl ?_
           refine RA.le [(2, .obj b1 ((Stream.c x).map .r)), (4, .obj b2 [I ((againN x now).state), I ((againN x now).iss), I ((againN x now).una), I ((againN x now).rcv), S ((againN x now).wait), I ((againN x now).sent), I ((againN x now).fin), Bo ((againN x now).peerFin), S ((againN x now).in_), .w (sl 2 Late.c ((againN x now).late)) (q25 9), Bo ((againN x now).owe), I ((againN x now).due), I ((againN x now).times)]), (48, .pt 2 b1 1), (50, .pt 2 b1 3)] rfl (Le.of rfl) ?_
           exact RA.to hall (RA.lr ro28_110100010 rfl rfl)
         have ro28_010100000 : RA [] E B all 7 #[false, true, false, true, false, false, false, false, false] ⟨62, [(2, .obj b1 ((Stream.c x).map .r)), (4, .obj b2 [I 0, I 0, I 0, I 0, S (⟨#[]⟩), I 0, I 0, Bo false, S (⟨#[]⟩), .r (.v (.slice none 0 0)), Bo false, I 0, I 0]), (6, .obj b4 [I ((againN x now).state), I ((againN x now).iss), I ((againN x now).una), I ((againN x now).rcv), S ((againN x now).wait), I ((againN x now).sent), I ((againN x now).fin), Bo ((againN x now).peerFin), S ((againN x now).in_), .w (sl 2 Late.c ((againN x now).late)) (q25 9), Bo ((againN x now).owe), I ((againN x now).due), I ((againN x now).times)]), (48, .pt 2 b1 1), (50, .pt 2 b1 3)]⟩ K := by
          refine RA.of hall (RA.stepH (L := [0, 2, 4]) Tell.e (by kernel_rfl) (by simp) (RA.each ?_ (RA.each ?_ (RA.each ?_ (RA.each0)))))
          ·skip
           refine RO.v rfl rfl (V.loadAgg rfl rfl rfl rfl rfl (Nat.le_of_ble_eq_true rfl)) rfl ?_
           exact RA.to hall (RA.lr ro28_110100000 rfl rfl)
          ·skip
           refine RO.v rfl rfl (V.loadPrim (d := I x.iss) rfl rfl (.inl rfl) rfl rfl rfl) rfl ?_
           exact RA.to hall (RA.lr ro28_011100000 rfl rfl)
          ·skip
           refine RO.v rfl rfl (V.loadPrim (d := I x.rcv) rfl rfl (.inl rfl) rfl rfl rfl) rfl ?_
           exact RA.to hall (RA.lr ro28_010110000 rfl rfl)
         have ro28_S : RA [] E B all 9 #[false, false, false, false, false, false, false, false, false] ⟨62, [(2, .obj b1 ((Stream.c x).map .r)), (4, .obj b2 [I 0, I 0, I 0, I 0, S (⟨#[]⟩), I 0, I 0, Bo false, S (⟨#[]⟩), .r (.v (.slice none 0 0)), Bo false, I 0, I 0]), (6, .obj b4 [I ((againN x now).state), I ((againN x now).iss), I ((againN x now).una), I ((againN x now).rcv), S ((againN x now).wait), I ((againN x now).sent), I ((againN x now).fin), Bo ((againN x now).peerFin), S ((againN x now).in_), .w (sl 2 Late.c ((againN x now).late)) (q25 9), Bo ((againN x now).owe), I ((againN x now).due), I ((againN x now).times)])]⟩ K := by
          refine RA.of hall ?_
          refine RA.first (i := 1) (ls' := #[false, true, false, false, false, false, false, false, false]) Tell.e (by kernel_rfl) rfl rfl rfl (VF.p (V.field rfl rfl rfl rfl (by decide) rfl)) ?_
          refine RA.first (i := 3) (ls' := #[false, true, false, true, false, false, false, false, false]) Tell.e (by kernel_rfl) rfl rfl rfl (VF.p (V.field rfl rfl rfl rfl (by decide) rfl)) ?_
          exact RA.to hall (RA.lr ro28_010100000 rfl rfl)
         exact RA.start (by kernel_rfl) (by kernel_rfl) (RA.lr ro28_S rfl rfl)
        ·rintro Xo28_6_1
         refine CW.ret ?_
         exact Post.tup (by decide) (RVs.c (RV.c (f := fun e => (Stream.c e).map .w) (e' := (againN x now)) rfl rfl rfl rfl (DT.v (DT.v (DT.v (DT.v (DT.v (DT.v (DT.v (DT.v (DT.v (DT.w (DT.v (DT.v (DT.v DT.e))))))))))))) (by unfold pushN; first | (simp_all; done) | grind)) (RVs.c (RV.w rfl (by unfold pushN; first | (simp_all; done) | grind)) RVs.e)) (AOs.a rfl (AOs.r AOs.e))
     ·skip
      refine CW.seq ?_
      refine CW.region ?_
      refine RW.v rfl (V.cmpInt rfl rfl rfl rfl) ?_
      refine RW.v rfl (V.as (d := Bo (x.state == 4)) rfl rfl) ?_
      refine RW.nil ?_
      refine CW.le [(1, I now), (4, .obj b2 [I 0, I 0, I 0, I 0, S (⟨#[]⟩), I 0, I 0, Bo false, S (⟨#[]⟩), .r (.v (.slice none 0 0)), Bo false, I 0, I 0]), (6, .obj b4 [I x.state, I x.iss, I x.una, I x.rcv, S x.wait, I x.sent, I x.fin, Bo x.peerFin, S x.in_, .w (sl 2 Late.c x.late) (g3 0 9), Bo x.owe, I x.due, I x.times]), (7, Bo v11), (54, Bo (x.state == 4))] rfl (Le.of rfl) ?_
      refine CW.cond rfl (fun h29 => ?_) (fun h29 => ?_)
      ·skip
       refine CW.seq ?_
       refine CW.region ?_
       refine RW.v rfl (V.mv (d := I now) rfl rfl) ?_
       refine RW.v rfl (V.mv (d := Bo v11) rfl rfl) ?_
       refine RW.callW (k := 6) (__impl_Stream__pushOpen_fn x now v11 (streamOk_push hxo)) rfl rfl (Nat.le_of_ble_eq_true rfl) (by decide) (.here (AsW.ob (DT.v (DT.v (DT.v (DT.v (DT.v (DT.v (DT.v (DT.v (DT.v (DT.w (DT.v (DT.v (DT.v DT.e))))))))))))) rfl) (.cons (.one (.r .r)) (.cons (.one (.r .r)) (.nil)))) rfl fun g30 q31 => ?_
       refine RW.assignMove rfl rfl rfl (by decide) (Nat.le_of_ble_eq_true rfl) (Nat.le_of_ble_eq_true rfl) ?_
       refine RW.nil ?_
       refine CW.le [(4, .obj b2 [I 0, I 0, I 0, I 0, S (⟨#[]⟩), I 0, I 0, Bo false, S (⟨#[]⟩), .r (.v (.slice none 0 0)), Bo false, I 0, I 0]), (6, .obj b4 [I (((pushOpenN x now v11).1).state), I (((pushOpenN x now v11).1).iss), I (((pushOpenN x now v11).1).una), I (((pushOpenN x now v11).1).rcv), S (((pushOpenN x now v11).1).wait), I (((pushOpenN x now v11).1).sent), I (((pushOpenN x now v11).1).fin), Bo (((pushOpenN x now v11).1).peerFin), S (((pushOpenN x now v11).1).in_), .w (sl 2 Late.c (((pushOpenN x now v11).1).late)) (q31 9), Bo (((pushOpenN x now v11).1).owe), I (((pushOpenN x now v11).1).due), I (((pushOpenN x now v11).1).times)]), (8, .w (sl 4 Seg.c ((pushOpenN x now v11).2)) (g30 0 0))] rfl (Le.of rfl) ?_
       refine CW.seq ?_
       refine CW.region ?_
       refine RW.v rfl (V.loadAgg rfl rfl rfl rfl rfl (Nat.le_of_ble_eq_true rfl)) ?_
       refine RW.v rfl (V.mv (d := .al 8 none 4 (((pushOpenN x now v11).2).length) (g30 0 0) 0) rfl rfl) ?_
       refine RW.storeAgg (es := [I (((pushOpenN x now v11).1).state), I (((pushOpenN x now v11).1).iss), I (((pushOpenN x now v11).1).una), I (((pushOpenN x now v11).1).rcv), S (((pushOpenN x now v11).1).wait), I (((pushOpenN x now v11).1).sent), I (((pushOpenN x now v11).1).fin), Bo (((pushOpenN x now v11).1).peerFin), S (((pushOpenN x now v11).1).in_), .al 6 (some 9) 2 ((((pushOpenN x now v11).1).late).length) (q31 9) 0, Bo (((pushOpenN x now v11).1).owe), I (((pushOpenN x now v11).1).due), I (((pushOpenN x now v11).1).times)]) rfl rfl rfl rfl rfl rfl rfl rfl (Nat.le_of_ble_eq_true rfl) rfl ?_
       refine RW.le [(4, .obj b2 [I (((pushOpenN x now v11).1).state), I (((pushOpenN x now v11).1).iss), I (((pushOpenN x now v11).1).una), I (((pushOpenN x now v11).1).rcv), S (((pushOpenN x now v11).1).wait), I (((pushOpenN x now v11).1).sent), I (((pushOpenN x now v11).1).fin), Bo (((pushOpenN x now v11).1).peerFin), S (((pushOpenN x now v11).1).in_), .al 6 (some 9) 2 ((((pushOpenN x now v11).1).late).length) (q31 9) 0, Bo (((pushOpenN x now v11).1).owe), I (((pushOpenN x now v11).1).due), I (((pushOpenN x now v11).1).times)]), (6, .obj b4 [I (((pushOpenN x now v11).1).state), I (((pushOpenN x now v11).1).iss), I (((pushOpenN x now v11).1).una), I (((pushOpenN x now v11).1).rcv), S (((pushOpenN x now v11).1).wait), I (((pushOpenN x now v11).1).sent), I (((pushOpenN x now v11).1).fin), Bo (((pushOpenN x now v11).1).peerFin), S (((pushOpenN x now v11).1).in_), .w (sl 2 Late.c (((pushOpenN x now v11).1).late)) (q31 9), Bo (((pushOpenN x now v11).1).owe), I (((pushOpenN x now v11).1).due), I (((pushOpenN x now v11).1).times)]), (8, .w (sl 4 Seg.c ((pushOpenN x now v11).2)) (g30 0 0)), (60, .al 8 none 4 (((pushOpenN x now v11).2).length) (g30 0 0) 0)] rfl (Le.of rfl) ?_
       refine RW.pullO (k := 4) (l := 6) (j := 9) 4 6 9 rfl rfl rfl (by decide) rfl rfl rfl rfl ?_
       refine RW.le [(4, .obj b2 [I (((pushOpenN x now v11).1).state), I (((pushOpenN x now v11).1).iss), I (((pushOpenN x now v11).1).una), I (((pushOpenN x now v11).1).rcv), S (((pushOpenN x now v11).1).wait), I (((pushOpenN x now v11).1).sent), I (((pushOpenN x now v11).1).fin), Bo (((pushOpenN x now v11).1).peerFin), S (((pushOpenN x now v11).1).in_), .w (sl 2 Late.c (((pushOpenN x now v11).1).late)) (q31 9), Bo (((pushOpenN x now v11).1).owe), I (((pushOpenN x now v11).1).due), I (((pushOpenN x now v11).1).times)]), (8, .w (sl 4 Seg.c ((pushOpenN x now v11).2)) (g30 0 0)), (60, .al 8 none 4 (((pushOpenN x now v11).2).length) (g30 0 0) 0)] rfl (Le.of rfl) ?_
       refine RW.v rfl (V.as (d := .al 8 none 4 (((pushOpenN x now v11).2).length) (g30 0 0) 0) rfl rfl) ?_
       refine RW.pullS 5 8 (by decide) rfl rfl ?_
       refine RW.nil ?_
       refine CW.le [(4, .obj b2 [I (((pushOpenN x now v11).1).state), I (((pushOpenN x now v11).1).iss), I (((pushOpenN x now v11).1).una), I (((pushOpenN x now v11).1).rcv), S (((pushOpenN x now v11).1).wait), I (((pushOpenN x now v11).1).sent), I (((pushOpenN x now v11).1).fin), Bo (((pushOpenN x now v11).1).peerFin), S (((pushOpenN x now v11).1).in_), .w (sl 2 Late.c (((pushOpenN x now v11).1).late)) (q31 9), Bo (((pushOpenN x now v11).1).owe), I (((pushOpenN x now v11).1).due), I (((pushOpenN x now v11).1).times)]), (5, .w (sl 4 Seg.c ((pushOpenN x now v11).2)) (g30 0 0))] rfl (Le.of rfl) ?_
       refine CW.ret ?_
       exact Post.tup (by decide) (RVs.c (RV.c (f := fun e => (Stream.c e).map .w) (e' := ((pushOpenN x now v11).1)) rfl rfl rfl rfl (DT.v (DT.v (DT.v (DT.v (DT.v (DT.v (DT.v (DT.v (DT.v (DT.w (DT.v (DT.v (DT.v DT.e))))))))))))) (by unfold pushN; first | (simp_all; done) | grind)) (RVs.c (RV.w rfl (by unfold pushN; first | (simp_all; done) | grind)) RVs.e)) (AOs.a rfl (AOs.r AOs.e))
      ·skip
       refine CW.skip ?_
       refine CW.le [(4, .obj b2 [I 0, I 0, I 0, I 0, S (⟨#[]⟩), I 0, I 0, Bo false, S (⟨#[]⟩), .r (.v (.slice none 0 0)), Bo false, I 0, I 0]), (6, .obj b4 [I x.state, I x.iss, I x.una, I x.rcv, S x.wait, I x.sent, I x.fin, Bo x.peerFin, S x.in_, .w (sl 2 Late.c x.late) (g3 0 9), Bo x.owe, I x.due, I x.times])] rfl (Le.of rfl) ?_
       refine CW.seq ?_
       refine CW.region ?_
       refine RW.v rfl (V.loadAgg rfl rfl rfl rfl rfl (Nat.le_of_ble_eq_true rfl)) ?_
       refine RW.storeAgg (es := [I x.state, I x.iss, I x.una, I x.rcv, S x.wait, I x.sent, I x.fin, Bo x.peerFin, S x.in_, .al 6 (some 9) 2 x.late.length (g3 0 9) 0, Bo x.owe, I x.due, I x.times]) rfl rfl rfl rfl rfl rfl rfl rfl (Nat.le_of_ble_eq_true rfl) rfl ?_
       refine RW.le [(4, .obj b2 [I x.state, I x.iss, I x.una, I x.rcv, S x.wait, I x.sent, I x.fin, Bo x.peerFin, S x.in_, .al 6 (some 9) 2 x.late.length (g3 0 9) 0, Bo x.owe, I x.due, I x.times]), (6, .obj b4 [I x.state, I x.iss, I x.una, I x.rcv, S x.wait, I x.sent, I x.fin, Bo x.peerFin, S x.in_, .w (sl 2 Late.c x.late) (g3 0 9), Bo x.owe, I x.due, I x.times])] rfl (Le.of rfl) ?_
       refine RW.pullO (k := 4) (l := 6) (j := 9) 4 6 9 rfl rfl rfl (by decide) rfl rfl rfl rfl ?_
       refine RW.le [(4, .obj b2 [I x.state, I x.iss, I x.una, I x.rcv, S x.wait, I x.sent, I x.fin, Bo x.peerFin, S x.in_, .w (sl 2 Late.c x.late) (g3 0 9), Bo x.owe, I x.due, I x.times])] rfl (Le.of rfl) ?_
       refine RW.v rfl (V.as (d := .r (.v (.slice none 0 0))) rfl rfl) ?_
       refine RW.nil ?_
       refine CW.le [(4, .obj b2 [I x.state, I x.iss, I x.una, I x.rcv, S x.wait, I x.sent, I x.fin, Bo x.peerFin, S x.in_, .w (sl 2 Late.c x.late) (g3 0 9), Bo x.owe, I x.due, I x.times]), (5, .r (.v (.slice none 0 0)))] rfl (Le.of rfl) ?_
       refine CW.ret ?_
       exact Post.tup (by decide) (RVs.c (RV.c (f := fun e => (Stream.c e).map .w) (e' := x) rfl rfl rfl rfl (DT.v (DT.v (DT.v (DT.v (DT.v (DT.v (DT.v (DT.v (DT.v (DT.w (DT.v (DT.v (DT.v DT.e))))))))))))) (by unfold pushN; first | (simp_all; done) | grind)) (RVs.c (RV.n rfl (by unfold pushN; first | (simp_all; done) | grind)) RVs.e)) (AOs.a rfl (AOs.r AOs.e))
set_option maxHeartbeats 4000000 in
theorem spec_l01New_fn (code : List Int) : Eng.Fn E.P 31 [.one (.r (sl 1 cU code))] (.one (.ob ((l01Cur.c (cur0 code)).map .r))) [.one (.r (sl 1 cU code))] := by
 refine Eng.Fn.intro (E := E) (rvs := [.tmp 2]) Try.func31 rfl rfl rfl (by simp [outSlots, moved, rvSlot, sl]) ?_
 intro B g bo
 refine CW.bound (x := .tmp 0) (n := code.length) (AsT.r) (fun hl0 => ?_)
 refine CW.le [(0, .r (sl 1 cU code))] rfl (Le.of rfl) ?_
 refine CW.seq ?_
 refine CW.region ?_
 refine RW.v rfl (V.as (d := .r (.v (.pointer none))) rfl rfl) ?_
 refine RW.nil ?_
 refine CW.le [(0, .r (sl 1 cU code))] rfl (Le.of rfl) ?_
 refine CW.seq ?_
 refine CW.region ?_
 refine RW.v rfl (V.mv (d := .r (sl 1 cU code)) rfl rfl) ?_
 refine RW.v rfl (V.lenT (n := code.length) rfl rfl rfl .r) ?_
 refine RW.v rfl (V.arInt rfl rfl rfl rfl) ?_
 refine RW.v rfl (V.as (d := I (IntKind.i64.wrap (37401 + (code.length : Int)))) rfl rfl) ?_
 refine RW.nil ?_
 refine CW.le [(0, .r (sl 1 cU code)), (3, I (IntKind.i64.wrap (37401 + (code.length : Int))))] rfl (Le.of rfl) ?_
 refine CW.seq ?_
 refine CW.seq ?_
 refine CW.region ?_
 refine RW.v rfl (V.as (d := I 0) rfl rfl) ?_
 refine RW.nil ?_
 refine CW.le [(0, .r (sl 1 cU code)), (3, I (IntKind.i64.wrap (37401 + (code.length : Int)))), (4, I 0)] rfl (Le.of rfl) ?_
 refine CW.block ?_
 refine CW.loopI 32 (fun (x : Nat × Int) => match x with | (i, h) => [(0, .r (sl 1 cU code)), (3, I h), (4, I (i : Int))]) (fun (x : Nat × Int) => match x with | (i, h) => i ≤ code.length ∧ i ≤ 4000 ∧ h = (code.take i).foldl hashStep (IntKind.i64.wrap (37401 + (code.length : Int)))) (fun (x : Nat × Int) => match x with | (i, h) => code.length - i) (0, _) rfl (Le.c rfl <| Le.c rfl <| Le.c rfl <| Le.e) ⟨by omega, by omega, rfl⟩ ?_
 rintro ⟨i, h⟩ ⟨hb, hq4, hh⟩
 refine CW.seq ?_
 refine CW.seqJ 32 (fun (v1 : Bool) => [(0, .r (sl 1 cU code)), (3, I h), (4, I (i : Int)), (15, Bo v1)]) (fun v1 => v1 = (decide ((i : Int) < (code.length : Int)) && decide ((i : Int) < 4000))) ?_ ?_
 ·refine CW.region ?_
  refine RW.v rfl (V.mv (d := I (i : Int)) rfl rfl) ?_
  refine RW.v rfl (V.mv (d := .r (sl 1 cU code)) rfl rfl) ?_
  refine RW.v rfl (V.lenT (n := code.length) rfl rfl rfl .r) ?_
  refine RW.v rfl (V.cmpInt rfl rfl rfl rfl) ?_
  refine RW.v rfl (V.mv (d := Bo (decide ((i : Int) < (code.length : Int)))) rfl rfl) ?_
  refine RW.gv rfl rfl rfl rfl (fun h2 => V.mv (d := I (i : Int)) rfl rfl) (fun h2 => ?_) (fun h2 => ?_)
  ·skip
   refine RW.gt rfl rfl rfl rfl (V.cmpInt rfl rfl rfl rfl) ?_
   refine RW.v rfl (V.pickT (d := Bo (decide ((i : Int) < 4000))) rfl rfl rfl) ?_
   refine RW.nil ?_
   exact ⟨_, by first | (simp_all; done) | grind, rfl, Le.c rfl <| Le.c rfl <| Le.c rfl <| Le.c rfl <| Le.e⟩
  ·skip
   refine RW.guardF rfl rfl rfl rfl ?_
   refine RW.v rfl (V.pickF (d := Bo false) rfl rfl rfl) ?_
   refine RW.nil ?_
   exact ⟨_, by first | (simp_all; done) | grind, rfl, Le.c rfl <| Le.c rfl <| Le.c rfl <| Le.c rfl <| Le.e⟩
 ·intro v1 hv3
  refine CW.cond rfl (fun h4 => ?_) (fun h4 => ?_)
  ·skip
   have hii : i < code.length := by simp_all
   have hi4 : i < 4000 := by simp [hv3] at h4; omega
   obtain ⟨ei, hei⟩ : ∃ e, code[i]? = some e := ⟨_, List.getElem?_eq_getElem hii⟩
   refine CW.skip ?_
   refine CW.le [(0, .r (sl 1 cU code)), (3, I h), (4, I (i : Int))] rfl (Le.of rfl) ?_
   refine CW.seq ?_
   refine CW.block ?_
   refine CW.region ?_
   refine RW.v rfl (V.mv (d := I h) rfl rfl) ?_
   refine RW.v rfl (V.arInt rfl rfl rfl rfl) ?_
   refine RW.v rfl (V.mv (d := .r (sl 1 cU code)) rfl rfl) ?_
   refine RW.v rfl (V.mv (d := I (i : Int)) rfl rfl) ?_
   refine RW.v rfl (V.indexS rfl rfl rfl rfl rfl rfl cU.len hei) ?_
   refine RW.v rfl (V.loadPrimR (t0 := .v (.int .u8 ei)) rfl rfl (.inl rfl) rfl rfl) ?_
   refine RW.v rfl (V.convInt (k := .i64) (k' := .u8) rfl (by kernel_rfl) (by kernel_rfl) rfl) ?_
   refine RW.v rfl (V.arInt rfl rfl rfl rfl) ?_
   refine RW.v rfl (V.arInt rfl rfl rfl rfl) ?_
   refine RW.v rfl (V.bits rfl rfl rfl rfl) ?_
   refine RW.v rfl (V.as (d := I (andI (IntKind.i64.wrap ((IntKind.i64.wrap ((IntKind.i64.wrap (h * 131)) + (IntKind.i64.wrap ei))) + 7)) 1073741823)) rfl rfl) ?_
   refine RW.nil ?_
   refine CW.le [(0, .r (sl 1 cU code)), (3, I (andI (IntKind.i64.wrap ((IntKind.i64.wrap ((IntKind.i64.wrap (h * 131)) + (IntKind.i64.wrap ei))) + 7)) 1073741823)), (4, I (i : Int))] rfl (Le.of rfl) ?_
   refine CW.region ?_
   refine RW.v rfl (V.mv (d := I (i : Int)) rfl rfl) ?_
   refine RW.v rfl (V.inc rfl rfl rfl hii hl0) ?_
   refine RW.v rfl (V.as (d := I ((i + 1 : Nat) : Int)) rfl rfl) ?_
   refine RW.nil ?_
   exact ⟨(i + 1, _), by simp only []; omega, ⟨by omega, by omega, by rw [take_snoc hei, List.foldl_append, hh]; rfl⟩, rfl, Le.c rfl <| Le.c rfl <| Le.c rfl <| Le.e⟩
  ·skip
   have h4x : i < code.length → 4000 ≤ i := by intro hq; simp [hv3, hq] at h4; omega
   refine CW.exit ?_
   refine CW.le [(0, .r (sl 1 cU code)), (3, I h)] rfl (Le.of rfl) ?_
   refine CW.seq ?_
   refine CW.region ?_
   refine RW.v rfl (V.mv (d := .r (sl 1 cU code)) rfl rfl) ?_
   refine RW.v rfl (V.mv (d := I h) rfl rfl) ?_
   refine RW.v rfl (V.build (ds := [.r (sl 1 cU code), I 0, I h]) rfl rfl rfl rfl (.one rfl rfl rfl (Nat.le_of_ble_eq_true rfl) (.one rfl rfl rfl (Nat.le_of_ble_eq_true rfl) (.nil)))) ?_
   refine RW.box (ds := [.r (sl 1 cU code), I 0, I h]) rfl rfl rfl fun b5 => ?_
   refine RW.v rfl (V.as (d := .pt 31 b5 0) rfl rfl) ?_
   refine RW.nil ?_
   refine CW.le [(2, .pt 31 b5 0), (31, .obj b5 [.r (sl 1 cU code), I 0, I h])] rfl (Le.of rfl) ?_
   refine CW.pullP 2 31 (by decide) rfl rfl ?_
   refine CW.ret ?_
   exact Post.one (RV.p (f := fun e => (l01Cur.c e).map .r) (e' := (⟨code, 0, h⟩ : l01Cur)) rfl (DT.r (DT.r (DT.r DT.e))) (by rw [hh]; exact congrArg (fun l => (⟨code, 0, List.foldl hashStep _ l⟩ : l01Cur)) (take_min hb hq4 h4x))) (AOs.r AOs.e)
set_option maxHeartbeats 4000000 in
theorem spec_l01Byte_fn (c : l01Cur) (hc : curOk c) : Eng.Fn E.P 32 [.ob ((l01Cur.c c).map .r)] (.one (.one (.w (.v (.int .i64 ((byteN c).1)))))) [.ob ((l01Cur.c ((byteN c).2)).map .r)] := by
 refine Eng.Fn.intro (E := E) (rvs := [.tmp 2]) Try.func32 rfl rfl rfl (by simp [outSlots, moved, rvSlot, sl]) ?_
 intro B g bo
 refine CW.le [(0, .obj (bo 0) ((l01Cur.c c).map .r))] rfl (Le.of rfl) ?_
 obtain ⟨hc0, hc1, hc2⟩ := hc
 refine CW.seq ?_
 refine CW.region ?_
 refine RW.v rfl (V.as (d := I 0) rfl rfl) ?_
 refine RW.nil ?_
 refine CW.le [(0, .obj (bo 0) ((l01Cur.c c).map .r))] rfl (Le.of rfl) ?_
 refine CW.seq ?_
 refine CW.region ?_
 refine RW.v rfl (V.mv (d := .pt 0 (bo 0) 0) rfl rfl) ?_
 refine RW.v rfl (V.mv (d := .pt 0 (bo 0) 0) rfl rfl) ?_
 refine RW.v rfl (V.nilP rfl rfl) ?_
 refine RW.v rfl (V.field rfl rfl rfl rfl (by decide) rfl) ?_
 refine RW.v rfl (V.loadPrim (d := I c.h) rfl rfl (.inl rfl) rfl rfl rfl) ?_
 refine RW.v rfl (V.arInt rfl rfl rfl rfl) ?_
 refine RW.v rfl (V.arInt rfl rfl rfl rfl) ?_
 refine RW.v rfl (V.nilP rfl rfl) ?_
 refine RW.v rfl (V.field rfl rfl rfl rfl (by decide) rfl) ?_
 refine RW.store (d := I (IntKind.i64.wrap ((IntKind.i64.wrap (c.h * 6364136223846793005)) + 1442695040888963407))) rfl rfl rfl rfl rfl rfl rfl (Nat.le_of_ble_eq_true rfl) rfl rfl ?_
 refine RW.nil ?_
 refine CW.le [(0, .obj (bo 0) [.r (sl 1 cU c.b), I c.i, I (IntKind.i64.wrap ((IntKind.i64.wrap (c.h * 6364136223846793005)) + 1442695040888963407))])] rfl (Le.of rfl) ?_
 refine CW.seq ?_
 refine CW.drawn (by kernel_rfl) ?_
 refine RQ.v rfl (V.mv (d := .pt 0 (bo 0) 0) rfl rfl) ?_
 refine RQ.v rfl (V.nilP rfl rfl) ?_
 refine RQ.v rfl (V.field rfl rfl rfl rfl (by decide) rfl) ?_
 refine RQ.v rfl (V.loadPrim (d := I (IntKind.i64.wrap ((IntKind.i64.wrap (c.h * 6364136223846793005)) + 1442695040888963407))) rfl rfl (.inl rfl) rfl rfl rfl) ?_
 refine RQ.v rfl (V.shr rfl rfl rfl (by decide)) ?_
 refine RQ.v rfl (V.mv (d := .pt 0 (bo 0) 0) rfl rfl) ?_
 refine RQ.v rfl (V.nilP rfl rfl) ?_
 refine RQ.v rfl (V.field rfl rfl rfl rfl (by decide) rfl) ?_
 refine RQ.v rfl (V.loadPrim (d := I (IntKind.i64.wrap ((IntKind.i64.wrap (c.h * 6364136223846793005)) + 1442695040888963407))) rfl rfl (.inl rfl) rfl rfl rfl) ?_
 refine RQ.v rfl (V.shr rfl rfl rfl (by decide)) ?_
 refine RQ.v rfl (V.bits rfl rfl rfl rfl) ?_
 refine RQ.v rfl (V.bits rfl rfl rfl rfl) ?_
 refine RQ.v rfl (V.as (d := I (andI (xorI (shrI (IntKind.i64.wrap ((IntKind.i64.wrap (c.h * 6364136223846793005)) + 1442695040888963407)) 33) (shrI (IntKind.i64.wrap ((IntKind.i64.wrap (c.h * 6364136223846793005)) + 1442695040888963407)) 45)) 255)) rfl rfl) ?_
 refine RQ.nil ?_
 refine CW.le [(0, .obj (bo 0) [.r (sl 1 cU c.b), I c.i, I (IntKind.i64.wrap ((IntKind.i64.wrap (c.h * 6364136223846793005)) + 1442695040888963407))]), (3, I (andI (xorI (shrI (IntKind.i64.wrap ((IntKind.i64.wrap (c.h * 6364136223846793005)) + 1442695040888963407)) 33) (shrI (IntKind.i64.wrap ((IntKind.i64.wrap (c.h * 6364136223846793005)) + 1442695040888963407)) 45)) 255))] rfl (Le.of rfl) ?_
 refine CW.seq ?_
 refine CW.seq ?_
 refine CW.drawn (by kernel_rfl) ?_
 refine RQ.v rfl (V.mv (d := .pt 0 (bo 0) 0) rfl rfl) ?_
 refine RQ.v rfl (V.nilP rfl rfl) ?_
 refine RQ.v rfl (V.field rfl rfl rfl rfl (by decide) rfl) ?_
 refine RQ.v rfl (V.loadPrim (d := I c.i) rfl rfl (.inl rfl) rfl rfl rfl) ?_
 refine RQ.v rfl (V.mv (d := .pt 0 (bo 0) 0) rfl rfl) ?_
 refine RQ.v rfl (V.nilP rfl rfl) ?_
 refine RQ.v rfl (V.field rfl rfl rfl rfl (by decide) rfl) ?_
 refine RQ.v rfl (V.loadPrim (d := .r (sl 1 cU c.b)) rfl rfl (.inr ⟨_, rfl⟩) rfl rfl rfl) ?_
 refine RQ.v rfl (V.lenT (n := c.b.length) rfl rfl rfl .r) ?_
 refine RQ.v rfl (V.cmpInt rfl rfl rfl rfl) ?_
 refine RQ.nil ?_
 refine CW.le [(0, .obj (bo 0) [.r (sl 1 cU c.b), I c.i, I (IntKind.i64.wrap ((IntKind.i64.wrap (c.h * 6364136223846793005)) + 1442695040888963407))]), (3, I (andI (xorI (shrI (IntKind.i64.wrap ((IntKind.i64.wrap (c.h * 6364136223846793005)) + 1442695040888963407)) 33) (shrI (IntKind.i64.wrap ((IntKind.i64.wrap (c.h * 6364136223846793005)) + 1442695040888963407)) 45)) 255)), (34, Bo (decide (c.i < (c.b.length : Int))))] rfl (Le.of rfl) ?_
 refine CW.cond rfl (fun h1 => ?_) (fun h1 => ?_)
 ·skip
  have hlt : c.i < (c.b.length : Int) := by simpa using h1
  refine CW.seq ?_
  refine CW.drawn (by kernel_rfl) ?_
  refine RQ.v rfl (V.mv (d := I (andI (xorI (shrI (IntKind.i64.wrap ((IntKind.i64.wrap (c.h * 6364136223846793005)) + 1442695040888963407)) 33) (shrI (IntKind.i64.wrap ((IntKind.i64.wrap (c.h * 6364136223846793005)) + 1442695040888963407)) 45)) 255)) rfl rfl) ?_
  refine RQ.v rfl (V.mv (d := .pt 0 (bo 0) 0) rfl rfl) ?_
  refine RQ.v rfl (V.nilP rfl rfl) ?_
  refine RQ.v rfl (V.field rfl rfl rfl rfl (by decide) rfl) ?_
  refine RQ.v rfl (V.loadPrim (d := .r (sl 1 cU c.b)) rfl rfl (.inr ⟨_, rfl⟩) rfl rfl rfl) ?_
  refine RQ.v rfl (V.mv (d := .pt 0 (bo 0) 0) rfl rfl) ?_
  refine RQ.v rfl (V.nilP rfl rfl) ?_
  refine RQ.v rfl (V.field rfl rfl rfl rfl (by decide) rfl) ?_
  refine RQ.v rfl (V.loadPrim (d := I c.i) rfl rfl (.inl rfl) rfl rfl rfl) ?_
  refine RQ.v rfl (V.indexZ (m := c.i.toNat) (v := (c.b.getD c.i.toNat 0)) rfl rfl rfl rfl rfl rfl (by omega) cU.len (getD_some (by omega))) ?_
  refine RQ.v rfl (V.loadPrimR (t0 := .v (.int .u8 (c.b.getD c.i.toNat 0))) rfl rfl (.inl rfl) rfl rfl) ?_
  refine RQ.v rfl (V.convInt (k := .i64) (k' := .u8) rfl (by kernel_rfl) (by kernel_rfl) rfl) ?_
  refine RQ.v rfl (V.arInt rfl rfl rfl rfl) ?_
  refine RQ.v rfl (V.bits rfl rfl rfl rfl) ?_
  refine RQ.v rfl (V.as (d := I (andI (IntKind.i64.wrap ((andI (xorI (shrI (IntKind.i64.wrap ((IntKind.i64.wrap (c.h * 6364136223846793005)) + 1442695040888963407)) 33) (shrI (IntKind.i64.wrap ((IntKind.i64.wrap (c.h * 6364136223846793005)) + 1442695040888963407)) 45)) 255) + (IntKind.i64.wrap (c.b.getD c.i.toNat 0)))) 255)) rfl rfl) ?_
  refine RQ.nil ?_
  refine CW.le [(0, .obj (bo 0) [.r (sl 1 cU c.b), I c.i, I (IntKind.i64.wrap ((IntKind.i64.wrap (c.h * 6364136223846793005)) + 1442695040888963407))]), (3, I (andI (IntKind.i64.wrap ((andI (xorI (shrI (IntKind.i64.wrap ((IntKind.i64.wrap (c.h * 6364136223846793005)) + 1442695040888963407)) 33) (shrI (IntKind.i64.wrap ((IntKind.i64.wrap (c.h * 6364136223846793005)) + 1442695040888963407)) 45)) 255) + (IntKind.i64.wrap (c.b.getD c.i.toNat 0)))) 255))] rfl (Le.of rfl) ?_
  refine CW.region ?_
  refine RW.v rfl (V.mv (d := .pt 0 (bo 0) 0) rfl rfl) ?_
  refine RW.v rfl (V.mv (d := .pt 0 (bo 0) 0) rfl rfl) ?_
  refine RW.v rfl (V.nilP rfl rfl) ?_
  refine RW.v rfl (V.field rfl rfl rfl rfl (by decide) rfl) ?_
  refine RW.v rfl (V.loadPrim (d := I c.i) rfl rfl (.inl rfl) rfl rfl rfl) ?_
  refine RW.v rfl (V.arInt rfl rfl rfl rfl) ?_
  refine RW.v rfl (V.nilP rfl rfl) ?_
  refine RW.v rfl (V.field rfl rfl rfl rfl (by decide) rfl) ?_
  refine RW.store (d := I (IntKind.i64.wrap (c.i + 1))) rfl rfl rfl rfl rfl rfl rfl (Nat.le_of_ble_eq_true rfl) rfl rfl ?_
  refine RW.nil ?_
  refine CW.le [(0, .obj (bo 0) [.r (sl 1 cU c.b), I (IntKind.i64.wrap (c.i + 1)), I (IntKind.i64.wrap ((IntKind.i64.wrap (c.h * 6364136223846793005)) + 1442695040888963407))]), (3, I (andI (IntKind.i64.wrap ((andI (xorI (shrI (IntKind.i64.wrap ((IntKind.i64.wrap (c.h * 6364136223846793005)) + 1442695040888963407)) 33) (shrI (IntKind.i64.wrap ((IntKind.i64.wrap (c.h * 6364136223846793005)) + 1442695040888963407)) 45)) 255) + (IntKind.i64.wrap (c.b.getD c.i.toNat 0)))) 255))] rfl (Le.of rfl) ?_
  refine CW.seq ?_
  refine CW.region ?_
  refine RW.v rfl (V.mv (d := I (andI (IntKind.i64.wrap ((andI (xorI (shrI (IntKind.i64.wrap ((IntKind.i64.wrap (c.h * 6364136223846793005)) + 1442695040888963407)) 33) (shrI (IntKind.i64.wrap ((IntKind.i64.wrap (c.h * 6364136223846793005)) + 1442695040888963407)) 45)) 255) + (IntKind.i64.wrap (c.b.getD c.i.toNat 0)))) 255)) rfl rfl) ?_
  refine RW.v rfl (V.as (d := I (andI (IntKind.i64.wrap ((andI (xorI (shrI (IntKind.i64.wrap ((IntKind.i64.wrap (c.h * 6364136223846793005)) + 1442695040888963407)) 33) (shrI (IntKind.i64.wrap ((IntKind.i64.wrap (c.h * 6364136223846793005)) + 1442695040888963407)) 45)) 255) + (IntKind.i64.wrap (c.b.getD c.i.toNat 0)))) 255)) rfl rfl) ?_
  refine RW.nil ?_
  refine CW.le [(0, .obj (bo 0) [.r (sl 1 cU c.b), I (IntKind.i64.wrap (c.i + 1)), I (IntKind.i64.wrap ((IntKind.i64.wrap (c.h * 6364136223846793005)) + 1442695040888963407))]), (2, I (andI (IntKind.i64.wrap ((andI (xorI (shrI (IntKind.i64.wrap ((IntKind.i64.wrap (c.h * 6364136223846793005)) + 1442695040888963407)) 33) (shrI (IntKind.i64.wrap ((IntKind.i64.wrap (c.h * 6364136223846793005)) + 1442695040888963407)) 45)) 255) + (IntKind.i64.wrap (c.b.getD c.i.toNat 0)))) 255))] rfl (Le.of rfl) ?_
  refine CW.ret ?_
  exact Post.one (RV.i rfl (by unfold byteN; first | (rw [if_pos (by simpa using h1)]; rfl) | (rw [if_neg (by simpa using h1)]; rfl))) (AOs.obE (f := fun e => (l01Cur.c e).map .r) (e' := (⟨c.b, (IntKind.i64.wrap (c.i + 1)), (IntKind.i64.wrap ((IntKind.i64.wrap (c.h * 6364136223846793005)) + 1442695040888963407))⟩ : l01Cur)) rfl (DT.r (DT.r (DT.r DT.e))) (by unfold byteN; first | (rw [if_pos (by simpa using h1)]; rfl) | (rw [if_neg (by simpa using h1)]; rfl)) AOs.e)
 ·skip
  refine CW.skip ?_
  refine CW.le [(0, .obj (bo 0) [.r (sl 1 cU c.b), I c.i, I (IntKind.i64.wrap ((IntKind.i64.wrap (c.h * 6364136223846793005)) + 1442695040888963407))]), (3, I (andI (xorI (shrI (IntKind.i64.wrap ((IntKind.i64.wrap (c.h * 6364136223846793005)) + 1442695040888963407)) 33) (shrI (IntKind.i64.wrap ((IntKind.i64.wrap (c.h * 6364136223846793005)) + 1442695040888963407)) 45)) 255))] rfl (Le.of rfl) ?_
  refine CW.seq ?_
  refine CW.region ?_
  refine RW.v rfl (V.mv (d := I (andI (xorI (shrI (IntKind.i64.wrap ((IntKind.i64.wrap (c.h * 6364136223846793005)) + 1442695040888963407)) 33) (shrI (IntKind.i64.wrap ((IntKind.i64.wrap (c.h * 6364136223846793005)) + 1442695040888963407)) 45)) 255)) rfl rfl) ?_
  refine RW.v rfl (V.as (d := I (andI (xorI (shrI (IntKind.i64.wrap ((IntKind.i64.wrap (c.h * 6364136223846793005)) + 1442695040888963407)) 33) (shrI (IntKind.i64.wrap ((IntKind.i64.wrap (c.h * 6364136223846793005)) + 1442695040888963407)) 45)) 255)) rfl rfl) ?_
  refine RW.nil ?_
  refine CW.le [(0, .obj (bo 0) [.r (sl 1 cU c.b), I c.i, I (IntKind.i64.wrap ((IntKind.i64.wrap (c.h * 6364136223846793005)) + 1442695040888963407))]), (2, I (andI (xorI (shrI (IntKind.i64.wrap ((IntKind.i64.wrap (c.h * 6364136223846793005)) + 1442695040888963407)) 33) (shrI (IntKind.i64.wrap ((IntKind.i64.wrap (c.h * 6364136223846793005)) + 1442695040888963407)) 45)) 255))] rfl (Le.of rfl) ?_
  refine CW.ret ?_
  exact Post.one (RV.i rfl (by unfold byteN; first | (rw [if_pos (by simpa using h1)]; rfl) | (rw [if_neg (by simpa using h1)]; rfl))) (AOs.obE (f := fun e => (l01Cur.c e).map .r) (e' := (⟨c.b, c.i, (IntKind.i64.wrap ((IntKind.i64.wrap (c.h * 6364136223846793005)) + 1442695040888963407))⟩ : l01Cur)) rfl (DT.r (DT.r (DT.r DT.e))) (by unfold byteN; first | (rw [if_pos (by simpa using h1)]; rfl) | (rw [if_neg (by simpa using h1)]; rfl)) AOs.e)
set_option maxHeartbeats 4000000 in
theorem spec_l01Below_fn (c : l01Cur) (n : Int) (hc : curOk c) : Eng.Fn E.P 33 [.ob ((l01Cur.c c).map .r), .one (.r (.v (.int .i64 n)))] (.one (.one (.w (.v (.int .i64 ((belowN c n).1)))))) [.ob ((l01Cur.c ((belowN c n).2)).map .r), .one (.r (.v (.int .i64 n)))] := by
 refine Eng.Fn.intro (E := E) (rvs := [.tmp 4]) Try.func33 rfl rfl rfl (by simp [outSlots, moved, rvSlot, sl]) ?_
 intro B g bo
 refine CW.le [(0, .obj (bo 0) ((l01Cur.c c).map .r)), (1, I n)] rfl (Le.of rfl) ?_
 refine CW.seq ?_
 refine CW.region ?_
 refine RW.v rfl (V.as (d := I 0) rfl rfl) ?_
 refine RW.nil ?_
 refine CW.le [(0, .obj (bo 0) ((l01Cur.c c).map .r)), (1, I n)] rfl (Le.of rfl) ?_
 refine CW.seq ?_
 refine CW.seq ?_
 refine CW.region ?_
 refine RW.v rfl (V.mv (d := I n) rfl rfl) ?_
 refine RW.v rfl (V.cmpInt rfl rfl rfl rfl) ?_
 refine RW.nil ?_
 refine CW.le [(0, .obj (bo 0) ((l01Cur.c c).map .r)), (1, I n), (10, Bo (decide (n ≤ 0)))] rfl (Le.of rfl) ?_
 refine CW.cond rfl (fun h1 => ?_) (fun h1 => ?_)
 ·skip
  refine CW.seq ?_
  refine CW.region ?_
  refine RW.v rfl (V.as (d := I 0) rfl rfl) ?_
  refine RW.nil ?_
  refine CW.le [(0, .obj (bo 0) ((l01Cur.c c).map .r)), (4, I 0)] rfl (Le.of rfl) ?_
  refine CW.ret ?_
  exact Post.one (RV.i rfl (by unfold belowN; simp at h1; first | (rw [if_pos h1]; done) | (rw [if_neg (by omega)]; simp at h2; first | (rw [if_pos h2]; done) | (rw [if_neg (by omega)]; done)))) (AOs.obE (f := fun e => (l01Cur.c e).map .r) (e' := c) rfl (DT.r (DT.r (DT.r DT.e))) (by unfold belowN; simp at h1; first | (rw [if_pos h1]; done) | (rw [if_neg (by omega)]; simp at h2; first | (rw [if_pos h2]; done) | (rw [if_neg (by omega)]; done))) (AOs.r AOs.e))
 ·skip
  refine CW.skip ?_
  refine CW.le [(0, .obj (bo 0) ((l01Cur.c c).map .r)), (1, I n)] rfl (Le.of rfl) ?_
  refine CW.seq ?_
  refine CW.seq ?_
  refine CW.region ?_
  refine RW.v rfl (V.mv (d := I n) rfl rfl) ?_
  refine RW.v rfl (V.cmpInt rfl rfl rfl rfl) ?_
  refine RW.nil ?_
  refine CW.le [(0, .obj (bo 0) ((l01Cur.c c).map .r)), (1, I n), (12, Bo (decide (n ≤ 256)))] rfl (Le.of rfl) ?_
  refine CW.cond rfl (fun h2 => ?_) (fun h2 => ?_)
  ·skip
   refine CW.seq ?_
   refine CW.region ?_
   refine RW.v rfl (V.mv (d := .pt 0 (bo 0) 0) rfl rfl) ?_
   refine RW.callP (k := 0) (spec_l01Byte_fn c hc) rfl rfl (Nat.le_of_ble_eq_true rfl) (by decide) rfl (DT.r (DT.r (DT.r DT.e))) (AsPs.here rfl (.nil)) fun g3 q4 => ?_
   refine RW.v rfl (V.mv (d := I n) rfl rfl) ?_
   refine RW.v rfl (V.rem rfl rfl rfl (by simp at h1; omega)) ?_
   refine RW.v rfl (V.as (d := I (Int.tmod ((byteN c).1) n)) rfl rfl) ?_
   refine RW.nil ?_
   refine CW.le [(0, .obj (bo 0) ((l01Cur.c ((byteN c).2)).map .r)), (4, I (Int.tmod ((byteN c).1) n))] rfl (Le.of rfl) ?_
   refine CW.ret ?_
   exact Post.one (RV.i rfl (by unfold belowN; simp at h1; first | (rw [if_pos h1]; done) | (rw [if_neg (by omega)]; simp at h2; first | (rw [if_pos h2]; done) | (rw [if_neg (by omega)]; done)))) (AOs.obE (f := fun e => (l01Cur.c e).map .r) (e' := ((byteN c).2)) rfl (DT.r (DT.r (DT.r DT.e))) (by unfold belowN; simp at h1; first | (rw [if_pos h1]; done) | (rw [if_neg (by omega)]; simp at h2; first | (rw [if_pos h2]; done) | (rw [if_neg (by omega)]; done))) (AOs.r AOs.e))
  ·skip
   refine CW.skip ?_
   refine CW.le [(0, .obj (bo 0) ((l01Cur.c c).map .r)), (1, I n)] rfl (Le.of rfl) ?_
   refine CW.seq ?_
   refine CW.region ?_
   refine RW.v rfl (V.mv (d := .pt 0 (bo 0) 0) rfl rfl) ?_
   refine RW.callP (k := 0) (spec_l01Byte_fn c hc) rfl rfl (Nat.le_of_ble_eq_true rfl) (by decide) rfl (DT.r (DT.r (DT.r DT.e))) (AsPs.here rfl (.nil)) fun g5 q6 => ?_
   refine RW.v rfl (V.as (d := I ((byteN c).1)) rfl rfl) ?_
   refine RW.nil ?_
   refine CW.le [(0, .obj (bo 0) ((l01Cur.c ((byteN c).2)).map .r)), (1, I n), (5, I ((byteN c).1))] rfl (Le.of rfl) ?_
   refine CW.seq ?_
   refine CW.region ?_
   refine RW.v rfl (V.mv (d := .pt 0 (bo 0) 0) rfl rfl) ?_
   refine RW.callP (k := 0) (spec_l01Byte_fn ((byteN c).2) (byteN_ok hc)) rfl rfl (Nat.le_of_ble_eq_true rfl) (by decide) rfl (DT.r (DT.r (DT.r DT.e))) (AsPs.here rfl (.nil)) fun g7 q8 => ?_
   refine RW.v rfl (V.as (d := I ((byteN ((byteN c).2)).1)) rfl rfl) ?_
   refine RW.nil ?_
   refine CW.le [(0, .obj (bo 0) ((l01Cur.c ((byteN ((byteN c).2)).2)).map .r)), (1, I n), (5, I ((byteN c).1)), (6, I ((byteN ((byteN c).2)).1))] rfl (Le.of rfl) ?_
   refine CW.seq ?_
   refine CW.region ?_
   refine RW.v rfl (V.mv (d := .pt 0 (bo 0) 0) rfl rfl) ?_
   refine RW.callP (k := 0) (spec_l01Byte_fn ((byteN ((byteN c).2)).2) (byteN_ok (byteN_ok hc))) rfl rfl (Nat.le_of_ble_eq_true rfl) (by decide) rfl (DT.r (DT.r (DT.r DT.e))) (AsPs.here rfl (.nil)) fun g9 q10 => ?_
   refine RW.v rfl (V.as (d := I ((byteN ((byteN ((byteN c).2)).2)).1)) rfl rfl) ?_
   refine RW.nil ?_
   refine CW.le [(0, .obj (bo 0) ((l01Cur.c ((byteN ((byteN ((byteN c).2)).2)).2)).map .r)), (1, I n), (5, I ((byteN c).1)), (6, I ((byteN ((byteN c).2)).1)), (7, I ((byteN ((byteN ((byteN c).2)).2)).1))] rfl (Le.of rfl) ?_
   refine CW.seq ?_
   refine CW.region ?_
   refine RW.v rfl (V.mv (d := .pt 0 (bo 0) 0) rfl rfl) ?_
   refine RW.callP (k := 0) (spec_l01Byte_fn ((byteN ((byteN ((byteN c).2)).2)).2) (byteN_ok (byteN_ok (byteN_ok hc)))) rfl rfl (Nat.le_of_ble_eq_true rfl) (by decide) rfl (DT.r (DT.r (DT.r DT.e))) (AsPs.here rfl (.nil)) fun g11 q12 => ?_
   refine RW.v rfl (V.as (d := I ((byteN ((byteN ((byteN ((byteN c).2)).2)).2)).1)) rfl rfl) ?_
   refine RW.nil ?_
   refine CW.le [(0, .obj (bo 0) ((l01Cur.c ((byteN ((byteN ((byteN ((byteN c).2)).2)).2)).2)).map .r)), (1, I n), (5, I ((byteN c).1)), (6, I ((byteN ((byteN c).2)).1)), (7, I ((byteN ((byteN ((byteN c).2)).2)).1)), (8, I ((byteN ((byteN ((byteN ((byteN c).2)).2)).2)).1))] rfl (Le.of rfl) ?_
   refine CW.seq ?_
   refine CW.region ?_
   refine RW.v rfl (V.mv (d := I ((byteN c).1)) rfl rfl) ?_
   refine RW.v rfl (V.arInt rfl rfl rfl rfl) ?_
   refine RW.v rfl (V.mv (d := I ((byteN ((byteN c).2)).1)) rfl rfl) ?_
   refine RW.v rfl (V.arInt rfl rfl rfl rfl) ?_
   refine RW.v rfl (V.arInt rfl rfl rfl rfl) ?_
   refine RW.v rfl (V.mv (d := I ((byteN ((byteN ((byteN c).2)).2)).1)) rfl rfl) ?_
   refine RW.v rfl (V.arInt rfl rfl rfl rfl) ?_
   refine RW.v rfl (V.arInt rfl rfl rfl rfl) ?_
   refine RW.v rfl (V.mv (d := I ((byteN ((byteN ((byteN ((byteN c).2)).2)).2)).1)) rfl rfl) ?_
   refine RW.v rfl (V.arInt rfl rfl rfl rfl) ?_
   refine RW.v rfl (V.mv (d := I n) rfl rfl) ?_
   refine RW.v rfl (V.rem rfl rfl rfl (by simp at h1; omega)) ?_
   refine RW.v rfl (V.as (d := I (Int.tmod (IntKind.i64.wrap ((IntKind.i64.wrap ((IntKind.i64.wrap ((IntKind.i64.wrap (((byteN c).1) * 16777216)) + (IntKind.i64.wrap (((byteN ((byteN c).2)).1) * 65536)))) + (IntKind.i64.wrap (((byteN ((byteN ((byteN c).2)).2)).1) * 256)))) + ((byteN ((byteN ((byteN ((byteN c).2)).2)).2)).1))) n)) rfl rfl) ?_
   refine RW.nil ?_
   refine CW.le [(0, .obj (bo 0) ((l01Cur.c ((byteN ((byteN ((byteN ((byteN c).2)).2)).2)).2)).map .r)), (4, I (Int.tmod (IntKind.i64.wrap ((IntKind.i64.wrap ((IntKind.i64.wrap ((IntKind.i64.wrap (((byteN c).1) * 16777216)) + (IntKind.i64.wrap (((byteN ((byteN c).2)).1) * 65536)))) + (IntKind.i64.wrap (((byteN ((byteN ((byteN c).2)).2)).1) * 256)))) + ((byteN ((byteN ((byteN ((byteN c).2)).2)).2)).1))) n))] rfl (Le.of rfl) ?_
   refine CW.ret ?_
   exact Post.one (RV.i rfl (by unfold belowN; simp at h1; first | (rw [if_pos h1]; done) | (rw [if_neg (by omega)]; simp at h2; first | (rw [if_pos h2]; done) | (rw [if_neg (by omega)]; done)))) (AOs.obE (f := fun e => (l01Cur.c e).map .r) (e' := ((byteN ((byteN ((byteN ((byteN c).2)).2)).2)).2)) rfl (DT.r (DT.r (DT.r DT.e))) (by unfold belowN; simp at h1; first | (rw [if_pos h1]; done) | (rw [if_neg (by omega)]; simp at h2; first | (rw [if_pos h2]; done) | (rw [if_neg (by omega)]; done))) (AOs.r AOs.e))
set_option maxHeartbeats 4000000 in
theorem spec_DrawPlaces_fn (code : List Int) : Eng.Fn E.P 8 [.one (.r (sl 1 cU code))] (.one (.one (.w (sl 1 cI (drawPlaces code))))) [.one (.r (sl 1 cU code))] := by
 refine Eng.Fn.intro (E := E) (rvs := [.tmp 2]) Try.func8 rfl rfl rfl (by simp [outSlots, moved, rvSlot, sl]) ?_
 intro B g bo
 refine CW.bound (x := .tmp 0) (n := code.length) (AsT.r) (fun hl0 => ?_)
 refine CW.le [(0, .r (sl 1 cU code))] rfl (Le.of rfl) ?_
 refine CW.seq ?_
 refine CW.region ?_
 refine RW.v rfl (V.as (d := .r (.v (.slice none 0 0))) rfl rfl) ?_
 refine RW.nil ?_
 refine CW.le [(0, .r (sl 1 cU code))] rfl (Le.of rfl) ?_
 refine CW.seq ?_
 refine CW.region ?_
 refine RW.v rfl (V.mv (d := .r (sl 1 cU code)) rfl rfl) ?_
 refine RW.call rfl (spec_l01New_fn code) rfl (.cons (.one (.r .r)) (.nil)) fun g1 => ?_
 refine RW.v rfl (V.as (d := .pt 7 (blk (g1 0 3)) 0) rfl rfl) ?_
 refine RW.nil ?_
 refine CW.le [(3, .pt 7 (blk (g1 0 3)) 0), (7, .obj (blk (g1 0 3)) ((l01Cur.c (cur0 code)).map .r))] rfl (Le.of rfl) ?_
 refine CW.seq ?_
 refine CW.region ?_
 refine RW.v rfl (V.mv (d := .pt 7 (blk (g1 0 3)) 0) rfl rfl) ?_
 refine RW.callP (k := 7) (spec_l01Byte_fn (cur0 code) (cur0_ok hl0).2) rfl rfl (Nat.le_of_ble_eq_true rfl) (by decide) rfl (DT.r (DT.r (DT.r DT.e))) (AsPs.here rfl (.nil)) fun g2 q3 => ?_
 refine RW.nil ?_
 refine CW.le [(3, .pt 7 (blk (g1 0 3)) 0), (7, .obj (blk (g1 0 3)) ((l01Cur.c ((byteN (cur0 code)).2)).map .r))] rfl (Le.of rfl) ?_
 refine CW.seq ?_
 refine CW.region ?_
 refine RW.build0 cI rfl rfl rfl rfl rfl fun X4 => ?_
 refine RW.assignMove rfl rfl rfl (by decide) (Nat.le_of_ble_eq_true rfl) (Nat.le_of_ble_eq_true rfl) ?_
 refine RW.nil ?_
 refine CW.le [(3, .pt 7 (blk (g1 0 3)) 0), (4, .w (sl 1 cI ([] : List Int)) X4), (7, .obj (blk (g1 0 3)) ((l01Cur.c ((byteN (cur0 code)).2)).map .r))] rfl (Le.of rfl) ?_
 refine CW.seq ?_
 refine CW.seq ?_
 refine CW.region ?_
 refine RW.v rfl (V.as (d := I 0) rfl rfl) ?_
 refine RW.nil ?_
 refine CW.le [(3, .pt 7 (blk (g1 0 3)) 0), (4, .w (sl 1 cI ([] : List Int)) X4), (5, I 0), (7, .obj (blk (g1 0 3)) ((l01Cur.c ((byteN (cur0 code)).2)).map .r))] rfl (Le.of rfl) ?_
 refine CW.block ?_
 refine CW.loopI 21 (fun (x : Nat × List Int × Value × l01Cur) => match x with | (i, l, X, c) => [(3, .pt 7 (blk (g1 0 3)) 0), (4, .w (sl 1 cI l) X), (5, I (i : Int)), (7, .obj (blk (g1 0 3)) ((l01Cur.c c).map .r))]) (fun (x : Nat × List Int × Value × l01Cur) => match x with | (i, l, X, c) => PlP code i l c) (fun (x : Nat × List Int × Value × l01Cur) => match x with | (i, l, X, c) => 12 - i) (0, [], _, _) rfl (Le.c rfl <| Le.c rfl <| Le.c rfl <| Le.c rfl <| Le.e) (PlP.init hl0) ?_
 rintro ⟨i, l, X, c⟩ hP
 refine CW.seq ?_
 refine CW.seq ?_
 refine CW.region ?_
 refine RW.v rfl (V.mv (d := I (i : Int)) rfl rfl) ?_
 refine RW.v rfl (V.cmpInt rfl rfl rfl rfl) ?_
 refine RW.nil ?_
 refine CW.le [(3, .pt 7 (blk (g1 0 3)) 0), (4, .w (sl 1 cI l) X), (5, I (i : Int)), (7, .obj (blk (g1 0 3)) ((l01Cur.c c).map .r)), (12, Bo (decide ((i : Int) < 12)))] rfl (Le.of rfl) ?_
 refine CW.cond rfl (fun h5 => ?_) (fun h5 => ?_)
 ·skip
  have hlt : i < 12 := by simp at h5; omega
  refine CW.skip ?_
  refine CW.le [(3, .pt 7 (blk (g1 0 3)) 0), (4, .w (sl 1 cI l) X), (5, I (i : Int)), (7, .obj (blk (g1 0 3)) ((l01Cur.c c).map .r))] rfl (Le.of rfl) ?_
  refine CW.seq ?_
  refine CW.block ?_
  refine CW.region ?_
  refine RW.v rfl (V.mv (d := .al 4 none 1 l.length X 0) rfl rfl) ?_
  refine RW.v rfl (V.mv (d := .pt 7 (blk (g1 0 3)) 0) rfl rfl) ?_
  refine RW.callP (k := 7) (spec_l01Below_fn c 10000 hP.1) rfl rfl (Nat.le_of_ble_eq_true rfl) (by decide) rfl (DT.r (DT.r (DT.r DT.e))) (AsPs.here rfl (.cons (.one (.r .r)) (.nil))) fun g6 q7 => ?_
  refine RW.build1c (c := cI) (v := ((belowN c 10000).1)) (u := .v (.int .i64 ((belowN c 10000).1))) rfl rfl rfl rfl rfl rfl (.inl rfl) rfl rfl fun X8 => ?_
  refine RW.appendSR (c := cI) (l1 := l) (l2 := [((belowN c 10000).1)]) rfl rfl rfl rfl rfl rfl rfl rfl (.al (k := none) (i := 18) (sz := 1) (V := X8) rfl rfl nofun) (by decide) (Nat.le_of_ble_eq_true rfl) cI.len (fun _ => rfl) rfl (by have h7 := hP.2.1; simp only [maxLen, List.length_singleton]; omega) (by have h7 := hP.2.1; simp only [maxLen, List.length_singleton]; omega) fun X9 => ?_
  refine RW.assignMove rfl rfl rfl (by decide) (Nat.le_of_ble_eq_true rfl) (Nat.le_of_ble_eq_true rfl) ?_
  refine RW.nil ?_
  refine CW.le [(3, .pt 7 (blk (g1 0 3)) 0), (4, .w (sl 1 cI (l ++ ([((belowN c 10000).1)]))) X9), (5, I (i : Int)), (7, .obj (blk (g1 0 3)) ((l01Cur.c ((belowN c 10000).2)).map .r))] rfl (Le.of rfl) ?_
  refine CW.region ?_
  refine RW.v rfl (V.mv (d := I (i : Int)) rfl rfl) ?_
  refine RW.v rfl (V.inc rfl rfl rfl hlt (by simp only [maxLen]; omega)) ?_
  refine RW.v rfl (V.as (d := I ((i + 1 : Nat) : Int)) rfl rfl) ?_
  refine RW.nil ?_
  exact ⟨(i + 1, _, _, _), by simp only []; omega, (hP.step hlt), rfl, Le.c rfl <| Le.c rfl <| Le.c rfl <| Le.c rfl <| Le.e⟩
 ·skip
  have hge : 12 ≤ i := by simp at h5; omega
  refine CW.exit ?_
  refine CW.le [(4, .w (sl 1 cI l) X)] rfl (Le.of rfl) ?_
  refine CW.seq ?_
  refine CW.region ?_
  refine RW.v rfl (V.mv (d := .al 4 none 1 l.length X 0) rfl rfl) ?_
  refine RW.v rfl (V.as (d := .al 4 none 1 l.length X 0) rfl rfl) ?_
  refine RW.pullS 2 4 (by decide) rfl rfl ?_
  refine RW.nil ?_
  refine CW.le [(2, .w (sl 1 cI l) X)] rfl (Le.of rfl) ?_
  refine CW.ret ?_
  exact Post.one (RV.w rfl (by exact hP.fin hge)) (AOs.r AOs.e)
end Go.Proofs.Ytkfjkmklmjcngaa.Y
