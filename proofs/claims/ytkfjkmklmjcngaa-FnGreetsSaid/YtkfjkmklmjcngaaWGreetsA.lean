import Derived.Test.YtkfjkmklmjcngaaPu
import Derived.Test.YtkfjkmklmjcngaaProg
namespace Go.Proofs.Ytkfjkmklmjcngaa.Y
open Go Go.RowKit Go.Eng Go.Proofs
def tl : List (Nat × TyI) := [
(3, ⟨1, 8, [.int .i64 0], .prim⟩),
(4, ⟨1, 1, [.bool false], .prim⟩),
(5, ⟨1, 1, [.int .u8 0], .prim⟩),
(9, ⟨1, 16, [.string ⟨#[]⟩], .prim⟩),
(22, ⟨1, 24, [.slice none 0 0], .slice 5⟩),
(24, ⟨1, 24, [.slice none 0 0], .slice 3⟩),
(26, ⟨1, 24, [.slice none 0 0], .slice 88⟩),
(28, ⟨13, 136, [.int .i64 0, .int .i64 0, .int .i64 0, .int .i64 0, .string ⟨#[]⟩, .int .i64 0, .int .i64 0, .bool false, .string ⟨#[]⟩, .slice none 0 0, .bool false, .int .i64 0, .int .i64 0], .agg [(0, 3, 1), (1, 3, 1), (2, 3, 1), (3, 3, 1), (4, 9, 1), (5, 3, 1), (6, 3, 1), (7, 4, 1), (8, 9, 1), (9, 26, 1), (10, 4, 1), (11, 3, 1), (12, 3, 1)]⟩),
(31, ⟨1, 24, [.slice none 0 0], .slice 36⟩),
(36, ⟨4, 40, [.int .i64 0, .int .i64 0, .int .i64 0, .string ⟨#[]⟩], .agg [(0, 3, 1), (1, 3, 1), (2, 3, 1), (3, 9, 1)]⟩),
(88, ⟨2, 24, [.int .i64 0, .string ⟨#[]⟩], .agg [(0, 3, 1), (1, 9, 1)]⟩),
(101, ⟨3, 40, [.slice none 0 0, .int .i64 0, .int .i64 0], .agg [(0, 22, 1), (1, 3, 1), (2, 3, 1)]⟩)]
theorem tl_ok : ∀ p ∈ tl, tyI Try.prog p.1 = some p.2 := by
  refine List.forall_mem_cons.2 ⟨by kernel_rfl, ?_⟩
  refine List.forall_mem_cons.2 ⟨by kernel_rfl, ?_⟩
  refine List.forall_mem_cons.2 ⟨by kernel_rfl, ?_⟩
  refine List.forall_mem_cons.2 ⟨by kernel_rfl, ?_⟩
  refine List.forall_mem_cons.2 ⟨by kernel_rfl, ?_⟩
  refine List.forall_mem_cons.2 ⟨by kernel_rfl, ?_⟩
  refine List.forall_mem_cons.2 ⟨by kernel_rfl, ?_⟩
  refine List.forall_mem_cons.2 ⟨by kernel_rfl, ?_⟩
  refine List.forall_mem_cons.2 ⟨by kernel_rfl, ?_⟩
  refine List.forall_mem_cons.2 ⟨by kernel_rfl, ?_⟩
  refine List.forall_mem_cons.2 ⟨by kernel_rfl, ?_⟩
  refine List.forall_mem_cons.2 ⟨by kernel_rfl, ?_⟩
  exact fun _ h => by cases h
noncomputable def E : Env := ⟨Try.prog, lk tl, fun t i h => tl_ok (t, i) (lk_mem _ _ _ h), by kernel_rfl⟩
set_option maxHeartbeats 4000000 in
theorem laws_big_fn (c : List Int) : Eng.Fn E.P 7 [.one (.r (sl 1 cU c))] (.one (.one (.w (.v (.bool (decide ((c.length : Int) > 1048576))))))) [.one (.r (sl 1 cU c))] := by
 refine Eng.Fn.intro (E := E) (rvs := [.tmp 2]) Try.func7 rfl rfl rfl (by simp [outSlots, moved, rvSlot, sl]) ?_
 intro B g bo
 refine CW.bound (x := .tmp 0) (n := c.length) (AsT.r) (fun hl0 => ?_)
 refine CW.le [(0, .r (sl 1 cU c))] rfl (Le.of rfl) ?_
 refine CW.seq ?_
 refine CW.region ?_
 refine RW.v rfl (V.as (d := Bo false) rfl rfl) ?_
 refine RW.nil ?_
 refine CW.le [(0, .r (sl 1 cU c))] rfl (Le.of rfl) ?_
 refine CW.seq ?_
 refine CW.region ?_
 refine RW.v rfl (V.mv (d := .r (sl 1 cU c)) rfl rfl) ?_
 refine RW.v rfl (V.lenT (n := c.length) rfl rfl rfl .r) ?_
 refine RW.v rfl (V.cmpInt rfl rfl rfl rfl) ?_
 refine RW.v rfl (V.as (d := Bo (decide ((c.length : Int) > 1048576))) rfl rfl) ?_
 refine RW.nil ?_
 refine CW.le [(2, Bo (decide ((c.length : Int) > 1048576)))] rfl (Le.of rfl) ?_
 refine CW.ret ?_
 exact Post.one (RV.b rfl (by rfl)) (AOs.r AOs.e)
set_option maxHeartbeats 4000000 in
theorem impl_within_fn (n : Int) (x : Int) (y : Int) : Eng.Fn E.P 36 [.one (.r (.v (.int .i64 n))), .one (.r (.v (.int .i64 x))), .one (.r (.v (.int .i64 y)))] (.one (.one (.w (.v (.bool (inR n x y)))))) [.one (.r (.v (.int .i64 n))), .one (.r (.v (.int .i64 x))), .one (.r (.v (.int .i64 y)))] := by
 refine Eng.Fn.intro (E := E) (rvs := [.tmp 6]) Try.func36 rfl rfl rfl (by simp [outSlots, moved, rvSlot, sl]) ?_
 intro B g bo
 refine CW.le [(0, I n), (1, I x), (2, I y)] rfl (Le.of rfl) ?_
 refine CW.seq ?_
 refine CW.region ?_
 refine RW.v rfl (V.as (d := Bo false) rfl rfl) ?_
 refine RW.nil ?_
 refine CW.le [(0, I n), (1, I x), (2, I y)] rfl (Le.of rfl) ?_
 refine CW.seqJ 15 (fun (v1 : Bool) => [(6, Bo v1)]) (fun v1 => v1 = (decide (n ≥ x) && decide (n ≤ y))) ?_ ?_
 ·refine CW.region ?_
  refine RW.v rfl (V.mv (d := I n) rfl rfl) ?_
  refine RW.v rfl (V.mv (d := I x) rfl rfl) ?_
  refine RW.v rfl (V.cmpInt rfl rfl rfl rfl) ?_
  refine RW.v rfl (V.mv (d := Bo (decide (n ≥ x))) rfl rfl) ?_
  refine RW.gv rfl rfl rfl rfl (fun h2 => V.mv (d := I n) rfl rfl) (fun h2 => ?_) (fun h2 => ?_)
  ·skip
   refine RW.gt rfl rfl rfl rfl (V.mv (d := I y) rfl rfl) ?_
   refine RW.gt rfl rfl rfl rfl (V.cmpInt rfl rfl rfl rfl) ?_
   refine RW.v rfl (V.pickT (d := Bo (decide (n ≤ y))) rfl rfl rfl) ?_
   refine RW.v rfl (V.as (d := Bo (decide (n ≤ y))) rfl rfl) ?_
   refine RW.nil ?_
   exact ⟨_, by first | rfl | (simp_all; done) | (simp_all; omega) | grind, rfl, Le.c rfl <| Le.e⟩
  ·skip
   refine RW.guardF rfl rfl rfl rfl ?_
   refine RW.guardF rfl rfl rfl rfl ?_
   refine RW.v rfl (V.pickF (d := Bo false) rfl rfl rfl) ?_
   refine RW.v rfl (V.as (d := Bo false) rfl rfl) ?_
   refine RW.nil ?_
   exact ⟨_, by first | rfl | (simp_all; done) | (simp_all; omega) | grind, rfl, Le.c rfl <| Le.e⟩
 ·intro v1 hv3
  refine CW.ret ?_
  exact Post.one (RV.b rfl (by simp_all [inR])) (AOs.r (AOs.r (AOs.r AOs.e)))
set_option maxHeartbeats 4000000 in
theorem impl_isWord_fn (n : Int) : Eng.Fn E.P 34 [.one (.r (.v (.int .i64 n)))] (.one (.one (.w (.v (.bool (isWord n)))))) [.one (.r (.v (.int .i64 n)))] := by
 refine Eng.Fn.intro (E := E) (rvs := [.tmp 2]) Try.func34 rfl rfl rfl (by simp [outSlots, moved, rvSlot, sl]) ?_
 intro B g bo
 refine CW.le [(0, I n)] rfl (Le.of rfl) ?_
 refine CW.seq ?_
 refine CW.region ?_
 refine RW.v rfl (V.as (d := Bo false) rfl rfl) ?_
 refine RW.nil ?_
 refine CW.le [(0, I n)] rfl (Le.of rfl) ?_
 refine CW.seq ?_
 refine CW.region ?_
 refine RW.v rfl (V.mv (d := I n) rfl rfl) ?_
 refine RW.call rfl (impl_within_fn n 0 65535) rfl (.cons (.one (.r .r)) (.cons (.one (.r .r)) (.cons (.one (.r .r)) (.nil)))) fun g1 => ?_
 refine RW.v rfl (V.as (d := Bo (inR n 0 65535)) rfl rfl) ?_
 refine RW.nil ?_
 refine CW.le [(2, Bo (inR n 0 65535))] rfl (Le.of rfl) ?_
 refine CW.ret ?_
 exact Post.one (RV.b rfl (by rfl)) (AOs.r AOs.e)
set_option maxHeartbeats 4000000 in
theorem impl_AddNum_fn (a : Int) (n : Int) : Eng.Fn E.P 68 [.one (.r (.v (.int .i64 a))), .one (.r (.v (.int .i64 n)))] (.one (.one (.w (.v (.int .i64 (addNum a n)))))) [.one (.r (.v (.int .i64 a))), .one (.r (.v (.int .i64 n)))] := by
 refine Eng.Fn.intro (E := E) (rvs := [.tmp 4]) Try.func68 rfl rfl rfl (by simp [outSlots, moved, rvSlot, sl]) ?_
 intro B g bo
 refine CW.le [(0, I a), (1, I n)] rfl (Le.of rfl) ?_
 refine CW.seq ?_
 refine CW.region ?_
 refine RW.v rfl (V.as (d := I 0) rfl rfl) ?_
 refine RW.nil ?_
 refine CW.le [(0, I a), (1, I n)] rfl (Le.of rfl) ?_
 refine CW.seq ?_
 refine CW.region ?_
 refine RW.v rfl (V.mv (d := I a) rfl rfl) ?_
 refine RW.v rfl (V.mv (d := I n) rfl rfl) ?_
 refine RW.v rfl (V.arInt rfl rfl rfl rfl) ?_
 refine RW.v rfl (V.bits rfl rfl rfl rfl) ?_
 refine RW.v rfl (V.as (d := I (andI (IntKind.i64.wrap (a + n)) 65535)) rfl rfl) ?_
 refine RW.nil ?_
 refine CW.le [(4, I (andI (IntKind.i64.wrap (a + n)) 65535))] rfl (Le.of rfl) ?_
 refine CW.ret ?_
 exact Post.one (RV.i rfl (by exact andI_wrap _)) (AOs.r (AOs.r AOs.e))
set_option maxHeartbeats 4000000 in
theorem impl_Gap_fn (a : Int) (b : Int) : Eng.Fn E.P 112 [.one (.r (.v (.int .i64 a))), .one (.r (.v (.int .i64 b)))] (.one (.one (.w (.v (.int .i64 (gap a b)))))) [.one (.r (.v (.int .i64 a))), .one (.r (.v (.int .i64 b)))] := by
 refine Eng.Fn.intro (E := E) (rvs := [.tmp 4]) Try.func112 rfl rfl rfl (by simp [outSlots, moved, rvSlot, sl]) ?_
 intro B g bo
 refine CW.le [(0, I a), (1, I b)] rfl (Le.of rfl) ?_
 refine CW.seq ?_
 refine CW.region ?_
 refine RW.v rfl (V.as (d := I 0) rfl rfl) ?_
 refine RW.nil ?_
 refine CW.le [(0, I a), (1, I b)] rfl (Le.of rfl) ?_
 refine CW.seq ?_
 refine CW.region ?_
 refine RW.v rfl (V.mv (d := I b) rfl rfl) ?_
 refine RW.v rfl (V.mv (d := I a) rfl rfl) ?_
 refine RW.v rfl (V.neg rfl rfl) ?_
 refine RW.call rfl (impl_AddNum_fn b (IntKind.i64.wrap (0 - a))) rfl (.cons (.one (.r .r)) (.cons (.one (.r .r)) (.nil))) fun g1 => ?_
 refine RW.v rfl (V.as (d := I (addNum b (IntKind.i64.wrap (0 - a)))) rfl rfl) ?_
 refine RW.nil ?_
 refine CW.le [(4, I (addNum b (IntKind.i64.wrap (0 - a))))] rfl (Le.of rfl) ?_
 refine CW.ret ?_
 exact Post.one (RV.i rfl (by exact gap_impl _ _)) (AOs.r (AOs.r AOs.e))
set_option maxHeartbeats 4000000 in
theorem impl_flag_fn (b : Bool) : Eng.Fn E.P 69 [.one (.r (.v (.bool b)))] (.one (.one (.w (.v (.int .i64 (flagN b)))))) [.one (.r (.v (.bool b)))] := by
 refine Eng.Fn.intro (E := E) (rvs := [.tmp 2]) Try.func69 rfl rfl rfl (by simp [outSlots, moved, rvSlot, sl]) ?_
 intro B g bo
 refine CW.le [(0, Bo b)] rfl (Le.of rfl) ?_
 refine CW.seq ?_
 refine CW.region ?_
 refine RW.v rfl (V.as (d := I 0) rfl rfl) ?_
 refine RW.nil ?_
 refine CW.le [(0, Bo b)] rfl (Le.of rfl) ?_
 refine CW.seq ?_
 refine CW.seq ?_
 refine CW.region ?_
 refine RW.v rfl (V.mv (d := Bo b) rfl rfl) ?_
 refine RW.nil ?_
 refine CW.le [(3, Bo b)] rfl (Le.of rfl) ?_
 refine CW.cond rfl (fun h1 => ?_) (fun h1 => ?_)
 ·skip
  refine CW.seq ?_
  refine CW.region ?_
  refine RW.v rfl (V.as (d := I 1) rfl rfl) ?_
  refine RW.nil ?_
  refine CW.le [(2, I 1)] rfl (Le.of rfl) ?_
  refine CW.ret ?_
  exact Post.one (RV.i rfl (by simp_all [flagN])) (AOs.r AOs.e)
 ·skip
  refine CW.skip ?_
  refine CW.le [] rfl (Le.of rfl) ?_
  refine CW.seq ?_
  refine CW.region ?_
  refine RW.v rfl (V.as (d := I 0) rfl rfl) ?_
  refine RW.nil ?_
  refine CW.le [(2, I 0)] rfl (Le.of rfl) ?_
  refine CW.ret ?_
  exact Post.one (RV.i rfl (by simp_all [flagN])) (AOs.r AOs.e)
set_option maxHeartbeats 4000000 in
theorem impl_copyStream_fn (x : Stream) (hm : x.late.length ≤ 1048576) : Eng.Fn E.P 35 [.agg ((Stream.c x).map .r)] (.one (.agg ((Stream.c x).map .w))) [.agg ((Stream.c x).map .r)] := by
 refine Eng.Fn.intro (E := E) (rvs := [.cell 2 28]) Try.func35 rfl rfl rfl (by simp [outSlots, moved, rvSlot, sl]) ?_
 intro B g bo
 refine CW.le [(0, .agg ((Stream.c x).map .r))] rfl (Le.of rfl) ?_
 refine CW.seq ?_
 refine CW.region ?_
 refine RW.box (ds := ((Stream.c x).map .r)) rfl rfl rfl fun b1 => ?_
 refine RW.alloc (ds := [I 0, I 0, I 0, I 0, S (⟨#[]⟩), I 0, I 0, Bo false, S (⟨#[]⟩), .r (.v (.slice none 0 0)), Bo false, I 0, I 0]) rfl rfl rfl rfl fun b2 => ?_
 refine RW.nil ?_
 refine CW.le [(1, .obj b1 ((Stream.c x).map .r)), (2, .obj b2 [I 0, I 0, I 0, I 0, S (⟨#[]⟩), I 0, I 0, Bo false, S (⟨#[]⟩), .r (.v (.slice none 0 0)), Bo false, I 0, I 0])] rfl (Le.of rfl) ?_
 refine CW.seq ?_
 refine CW.region ?_
 refine RW.build0 Late.c rfl rfl rfl rfl rfl fun X3 => ?_
 refine RW.v rfl (V.field rfl rfl rfl rfl (by decide) rfl) ?_
 refine RW.v rfl (V.loadPrim (d := .r (sl 2 Late.c x.late)) rfl rfl (.inr ⟨_, rfl⟩) rfl rfl rfl) ?_
 refine RW.appendSR (c := Late.c) (l1 := ([] : List Late)) (l2 := x.late) rfl rfl rfl rfl rfl rfl rfl rfl .r (by decide) (Nat.le_of_ble_eq_true rfl) Late.len (fun _ => rfl) rfl (by simp only [maxLen, List.length_nil]; omega) (by simp only [maxLen, List.length_nil]; omega) fun X4 => ?_
 refine RW.v rfl (V.field rfl rfl rfl rfl (by decide) rfl) ?_
 refine RW.store (d := .al 6 none 2 ((([] : List Late) ++ x.late).length) X4 0) rfl rfl rfl rfl rfl rfl rfl (Nat.le_of_ble_eq_true rfl) rfl rfl ?_
 refine RW.le [(1, .obj b1 [I x.state, I x.iss, I x.una, I x.rcv, S x.wait, I x.sent, I x.fin, Bo x.peerFin, S x.in_, .al 6 none 2 ((([] : List Late) ++ x.late).length) X4 0, Bo x.owe, I x.due, I x.times]), (2, .obj b2 [I 0, I 0, I 0, I 0, S (⟨#[]⟩), I 0, I 0, Bo false, S (⟨#[]⟩), .r (.v (.slice none 0 0)), Bo false, I 0, I 0]), (6, .w (sl 2 Late.c (([] : List Late) ++ x.late)) X4)] rfl (Le.of rfl) ?_
 refine RW.pullT (k := 1) (l := 6) (j := 9) 1 6 9 rfl rfl rfl (by decide) rfl rfl rfl ?_
 refine RW.le [(1, .obj b1 [I x.state, I x.iss, I x.una, I x.rcv, S x.wait, I x.sent, I x.fin, Bo x.peerFin, S x.in_, .w (sl 2 Late.c (([] : List Late) ++ x.late)) X4, Bo x.owe, I x.due, I x.times]), (2, .obj b2 [I 0, I 0, I 0, I 0, S (⟨#[]⟩), I 0, I 0, Bo false, S (⟨#[]⟩), .r (.v (.slice none 0 0)), Bo false, I 0, I 0])] rfl (Le.of rfl) ?_
 refine RW.nil ?_
 refine CW.le [(1, .obj b1 [I x.state, I x.iss, I x.una, I x.rcv, S x.wait, I x.sent, I x.fin, Bo x.peerFin, S x.in_, .w (sl 2 Late.c (([] : List Late) ++ x.late)) X4, Bo x.owe, I x.due, I x.times]), (2, .obj b2 [I 0, I 0, I 0, I 0, S (⟨#[]⟩), I 0, I 0, Bo false, S (⟨#[]⟩), .r (.v (.slice none 0 0)), Bo false, I 0, I 0])] rfl (Le.of rfl) ?_
 refine CW.seq ?_
 refine CW.region ?_
 refine RW.v rfl (V.loadAgg rfl rfl rfl rfl rfl (Nat.le_of_ble_eq_true rfl)) ?_
 refine RW.storeAgg (es := [I x.state, I x.iss, I x.una, I x.rcv, S x.wait, I x.sent, I x.fin, Bo x.peerFin, S x.in_, .al 1 (some 9) 2 ((([] : List Late) ++ x.late).length) X4 0, Bo x.owe, I x.due, I x.times]) rfl rfl rfl rfl rfl rfl rfl rfl (Nat.le_of_ble_eq_true rfl) rfl ?_
 refine RW.le [(1, .obj b1 [I x.state, I x.iss, I x.una, I x.rcv, S x.wait, I x.sent, I x.fin, Bo x.peerFin, S x.in_, .w (sl 2 Late.c (([] : List Late) ++ x.late)) X4, Bo x.owe, I x.due, I x.times]), (2, .obj b2 [I x.state, I x.iss, I x.una, I x.rcv, S x.wait, I x.sent, I x.fin, Bo x.peerFin, S x.in_, .al 1 (some 9) 2 ((([] : List Late) ++ x.late).length) X4 0, Bo x.owe, I x.due, I x.times])] rfl (Le.of rfl) ?_
 refine RW.pullO (k := 2) (l := 1) (j := 9) 2 1 9 rfl rfl rfl (by decide) rfl rfl rfl rfl ?_
 refine RW.le [(2, .obj b2 [I x.state, I x.iss, I x.una, I x.rcv, S x.wait, I x.sent, I x.fin, Bo x.peerFin, S x.in_, .w (sl 2 Late.c (([] : List Late) ++ x.late)) X4, Bo x.owe, I x.due, I x.times])] rfl (Le.of rfl) ?_
 refine RW.nil ?_
 refine CW.le [(2, .obj b2 [I x.state, I x.iss, I x.una, I x.rcv, S x.wait, I x.sent, I x.fin, Bo x.peerFin, S x.in_, .w (sl 2 Late.c (([] : List Late) ++ x.late)) X4, Bo x.owe, I x.due, I x.times])] rfl (Le.of rfl) ?_
 refine CW.ret ?_
 exact Post.one (RV.c (f := fun e => (Stream.c e).map .w) (e' := (⟨x.state, x.iss, x.una, x.rcv, x.wait, x.sent, x.fin, x.peerFin, x.in_, (([] : List Late) ++ x.late), x.owe, x.due, x.times⟩ : Stream)) rfl rfl rfl rfl (DT.v (DT.v (DT.v (DT.v (DT.v (DT.v (DT.v (DT.v (DT.v (DT.w (DT.v (DT.v (DT.v DT.e))))))))))))) (by rfl)) (AOs.a rfl AOs.e)
set_option maxHeartbeats 4000000 in
theorem impl_StreamOk_fn (x : Stream) : Eng.Fn E.P 24 [.agg ((Stream.c x).map .r)] (.one (.one (.w (.v (.bool (streamOk x)))))) [.agg ((Stream.c x).map .r)] := by
 refine Eng.Fn.intro (E := E) (rvs := [.tmp 2]) Try.func24 rfl rfl rfl (by simp [outSlots, moved, rvSlot, sl]) ?_
 intro B g bo
 refine CW.le [(0, .agg ((Stream.c x).map .r))] rfl (Le.of rfl) ?_
 refine CW.seq ?_
 refine CW.region ?_
 refine RW.box (ds := ((Stream.c x).map .r)) rfl rfl rfl fun b1 => ?_
 refine RW.v rfl (V.as (d := Bo false) rfl rfl) ?_
 refine RW.nil ?_
 refine CW.le [(1, .obj b1 ((Stream.c x).map .r))] rfl (Le.of rfl) ?_
 refine CW.seq ?_
 refine CW.seq ?_
 refine CW.region ?_
 refine RW.v rfl (V.field rfl rfl rfl rfl (by decide) rfl) ?_
 refine RW.v rfl (V.loadPrim (d := .r (sl 2 Late.c x.late)) rfl rfl (.inr ⟨_, rfl⟩) rfl rfl rfl) ?_
 refine RW.v rfl (V.lenT (n := x.late.length) rfl rfl rfl .r) ?_
 refine RW.v rfl (V.mv (d := I 0) rfl rfl) ?_
 refine RW.nil ?_
 refine CW.le [(1, .obj b1 ((Stream.c x).map .r)), (8, .r (sl 2 Late.c x.late)), (9, I (x.late.length : Int)), (10, I 0)] rfl (Le.of rfl) ?_
 refine CW.block ?_
 refine CW.loopI 113 (fun (i : Nat) => [(1, .obj b1 ((Stream.c x).map .r)), (8, .r (sl 2 Late.c x.late)), (9, I (x.late.length : Int)), (10, I (i : Int))]) (fun (i : Nat) => i ≤ x.late.length ∧ (x.late.take i).all lateOk = true) (fun (i : Nat) => x.late.length - i) 0 rfl (Le.c rfl <| Le.c rfl <| Le.c rfl <| Le.c rfl <| Le.e) ⟨by omega, by simp⟩ ?_
 rintro i ⟨hb, hr⟩
 refine CW.bound (x := .tmp 8) (n := x.late.length) AsT.r (fun hl0 => ?_)
 refine CW.seq ?_
 refine CW.region ?_
 refine RW.v rfl (V.cmpInt rfl rfl rfl rfl) ?_
 refine RW.nil ?_
 refine CW.le [(1, .obj b1 ((Stream.c x).map .r)), (8, .r (sl 2 Late.c x.late)), (9, I (x.late.length : Int)), (10, I (i : Int)), (11, Bo (decide ((i : Int) < (x.late.length : Int))))] rfl (Le.of rfl) ?_
 refine CW.seq ?_
 refine CW.cond rfl (fun h2 => ?_) (fun h2 => ?_)
 ·skip
  have hii : i < x.late.length := by have := h2; simp at this; first | exact this | omega | (simp; done) | (simp; omega)
  obtain ⟨ei, hei⟩ : ∃ e, x.late[i]? = some e := ⟨_, List.getElem?_eq_getElem hii⟩
  have hdi := drop_get hei
  refine CW.skip ?_
  refine CW.le [(1, .obj b1 ((Stream.c x).map .r)), (8, .r (sl 2 Late.c x.late)), (9, I (x.late.length : Int)), (10, I (i : Int))] rfl (Le.of rfl) ?_
  refine CW.seq ?_
  refine CW.block ?_
  refine CW.seq ?_
  refine CW.region ?_
  refine RW.v rfl (V.indexS rfl rfl rfl rfl rfl rfl Late.len hei) ?_
  refine RW.v rfl (V.loadAggR rfl rfl rfl rfl (Nat.le_of_ble_eq_true rfl)) ?_
  refine RW.alloc (ds := [I 0, S (⟨#[]⟩)]) rfl rfl rfl rfl fun b3 => ?_
  refine RW.storeAgg (es := ((Late.c ei).map .r)) rfl rfl rfl rfl rfl rfl rfl rfl (Nat.le_of_ble_eq_true rfl) rfl ?_
  refine RW.nil ?_
  refine CW.le [(1, .obj b1 ((Stream.c x).map .r)), (4, .obj b3 ((Late.c ei).map .r)), (8, .r (sl 2 Late.c x.late)), (9, I (x.late.length : Int)), (10, I (i : Int))] rfl (Le.of rfl) ?_
  refine CW.seqJ 113 (fun (v4 : Bool) => [(1, .obj b1 ((Stream.c x).map .r)), (8, .r (sl 2 Late.c x.late)), (9, I (x.late.length : Int)), (10, I (i : Int)), (24, Bo v4)]) (fun v4 => v4 = ((!(inR (ei.text.size : Int) 1 8)) || (!(isWord ei.num)))) ?_ ?_
  ·refine CW.region ?_
   refine RW.v rfl (V.field rfl rfl rfl rfl (by decide) rfl) ?_
   refine RW.v rfl (V.loadPrim (d := S ei.text) rfl rfl (.inl rfl) rfl rfl rfl) ?_
   refine RW.v rfl (V.lenStr rfl (by kernel_rfl) rfl) ?_
   refine RW.call rfl (impl_within_fn (ei.text.size : Int) 1 8) rfl (.cons (.one (.r .r)) (.cons (.one (.r .r)) (.cons (.one (.r .r)) (.nil)))) fun g5 => ?_
   refine RW.v rfl (V.not rfl rfl) ?_
   refine RW.v rfl (V.mv (d := Bo (!(inR (ei.text.size : Int) 1 8))) rfl rfl) ?_
   refine RW.gv rfl rfl rfl rfl (fun h6 => V.field rfl rfl rfl rfl (by decide) rfl) (fun h6 => ?_) (fun h6 => ?_)
   ·skip
    refine RW.gt rfl rfl rfl rfl (V.loadPrim (d := I ei.num) rfl rfl (.inl rfl) rfl rfl rfl) ?_
    refine RW.gcall rfl rfl rfl rfl (impl_isWord_fn ei.num) rfl (.cons (.one (.r .r)) (.nil)) fun g7 => ?_
    refine RW.gt rfl rfl rfl rfl (V.not rfl rfl) ?_
    refine RW.v rfl (V.pickF (d := Bo (!(isWord ei.num))) rfl rfl rfl) ?_
    refine RW.nil ?_
    exact ⟨_, by first | rfl | (simp_all; done) | (simp_all; omega) | grind, rfl, Le.c rfl <| Le.c rfl <| Le.c rfl <| Le.c rfl <| Le.c rfl <| Le.e⟩
   ·skip
    refine RW.guardF rfl rfl rfl rfl ?_
    refine RW.guardF rfl rfl rfl rfl ?_
    refine RW.guardF rfl rfl rfl rfl ?_
    refine RW.v rfl (V.pickT (d := Bo true) rfl rfl rfl) ?_
    refine RW.nil ?_
    exact ⟨_, by first | rfl | (simp_all; done) | (simp_all; omega) | grind, rfl, Le.c rfl <| Le.c rfl <| Le.c rfl <| Le.c rfl <| Le.c rfl <| Le.e⟩
  ·intro v4 hv8
   refine CW.cond rfl (fun h9 => ?_) (fun h9 => ?_)
   ·skip
    refine CW.seq ?_
    refine CW.region ?_
    refine RW.v rfl (V.as (d := Bo false) rfl rfl) ?_
    refine RW.nil ?_
    refine CW.le [(2, Bo false)] rfl (Le.of rfl) ?_
    refine CW.ret ?_
    exact Post.one (RV.b rfl (by have := all_not (p := lateOk) hei (by first | (simp_all [lateOk]; done) | grind [lateOk]); simp [streamOk, this])) (AOs.a rfl AOs.e)
   ·skip
    refine CW.skip ?_
    refine CW.le [(1, .obj b1 ((Stream.c x).map .r)), (8, .r (sl 2 Late.c x.late)), (9, I (x.late.length : Int)), (10, I (i : Int))] rfl (Le.of rfl) ?_
    refine CW.region ?_
    refine RW.v rfl (V.inc rfl rfl rfl hii hl0) ?_
    refine RW.v rfl (V.mv (d := I ((i + 1 : Nat) : Int)) rfl rfl) ?_
    refine RW.nil ?_
    exact ⟨i + 1, by omega, ⟨by omega, all_snoc hr hei (by first | (simp_all [lateOk]; done) | grind [lateOk])⟩, rfl, Le.c rfl <| Le.c rfl <| Le.c rfl <| Le.c rfl <| Le.e⟩
 ·skip
  have hii : x.late.length ≤ i := by have := h2; simp at this; first | exact this | omega | (simp; done) | (simp; omega)
  have hdi : x.late.drop i = [] := List.drop_eq_nil_of_le hii
  refine CW.exit ?_
  refine CW.le [(1, .obj b1 ((Stream.c x).map .r))] rfl (Le.of rfl) ?_
  refine CW.seq ?_
  refine CW.seqJ 113 (fun (v10 : Bool) => [(1, .obj b1 ((Stream.c x).map .r)), (53, Bo v10)]) (fun v10 => v10 = (((((!(inR x.state 0 4)) || (!(isWord x.iss))) || (!(isWord x.una))) || (!(isWord x.rcv))) || decide ((x.wait.size : Int) > 200))) ?_ ?_
  ·refine CW.region ?_
   refine RW.v rfl (V.field rfl rfl rfl rfl (by decide) rfl) ?_
   refine RW.v rfl (V.loadPrim (d := I x.state) rfl rfl (.inl rfl) rfl rfl rfl) ?_
   refine RW.call rfl (impl_within_fn x.state 0 4) rfl (.cons (.one (.r .r)) (.cons (.one (.r .r)) (.cons (.one (.r .r)) (.nil)))) fun g11 => ?_
   refine RW.v rfl (V.not rfl rfl) ?_
   refine RW.v rfl (V.mv (d := Bo (!(inR x.state 0 4))) rfl rfl) ?_
   refine RW.gv rfl rfl rfl rfl (fun h12 => V.field rfl rfl rfl rfl (by decide) rfl) (fun h12 => ?_) (fun h12 => ?_)
   ·skip
    refine RW.gt rfl rfl rfl rfl (V.loadPrim (d := I x.iss) rfl rfl (.inl rfl) rfl rfl rfl) ?_
    refine RW.gcall rfl rfl rfl rfl (impl_isWord_fn x.iss) rfl (.cons (.one (.r .r)) (.nil)) fun g13 => ?_
    refine RW.gt rfl rfl rfl rfl (V.not rfl rfl) ?_
    refine RW.v rfl (V.pickF (d := Bo (!(isWord x.iss))) rfl rfl rfl) ?_
    refine RW.v rfl (V.mv (d := Bo (!(isWord x.iss))) rfl rfl) ?_
    refine RW.gv rfl rfl rfl rfl (fun h14 => V.field rfl rfl rfl rfl (by decide) rfl) (fun h14 => ?_) (fun h14 => ?_)
    ·skip
     refine RW.gt rfl rfl rfl rfl (V.loadPrim (d := I x.una) rfl rfl (.inl rfl) rfl rfl rfl) ?_
     refine RW.gcall rfl rfl rfl rfl (impl_isWord_fn x.una) rfl (.cons (.one (.r .r)) (.nil)) fun g15 => ?_
     refine RW.gt rfl rfl rfl rfl (V.not rfl rfl) ?_
     refine RW.v rfl (V.pickF (d := Bo (!(isWord x.una))) rfl rfl rfl) ?_
     refine RW.v rfl (V.mv (d := Bo (!(isWord x.una))) rfl rfl) ?_
     refine RW.gv rfl rfl rfl rfl (fun h16 => V.field rfl rfl rfl rfl (by decide) rfl) (fun h16 => ?_) (fun h16 => ?_)
     ·skip
      refine RW.gt rfl rfl rfl rfl (V.loadPrim (d := I x.rcv) rfl rfl (.inl rfl) rfl rfl rfl) ?_
      refine RW.gcall rfl rfl rfl rfl (impl_isWord_fn x.rcv) rfl (.cons (.one (.r .r)) (.nil)) fun g17 => ?_
      refine RW.gt rfl rfl rfl rfl (V.not rfl rfl) ?_
      refine RW.v rfl (V.pickF (d := Bo (!(isWord x.rcv))) rfl rfl rfl) ?_
      refine RW.v rfl (V.mv (d := Bo (!(isWord x.rcv))) rfl rfl) ?_
      refine RW.gv rfl rfl rfl rfl (fun h18 => V.field rfl rfl rfl rfl (by decide) rfl) (fun h18 => ?_) (fun h18 => ?_)
      ·skip
       refine RW.gt rfl rfl rfl rfl (V.loadPrim (d := S x.wait) rfl rfl (.inl rfl) rfl rfl rfl) ?_
       refine RW.gt rfl rfl rfl rfl (V.lenStr rfl (by kernel_rfl) rfl) ?_
       refine RW.gt rfl rfl rfl rfl (V.cmpInt rfl rfl rfl rfl) ?_
       refine RW.v rfl (V.pickF (d := Bo (decide ((x.wait.size : Int) > 200))) rfl rfl rfl) ?_
       refine RW.nil ?_
       exact ⟨_, by first | rfl | (simp_all; done) | (simp_all; omega) | grind, rfl, Le.c rfl <| Le.c rfl <| Le.e⟩
      ·skip
       refine RW.guardF rfl rfl rfl rfl ?_
       refine RW.guardF rfl rfl rfl rfl ?_
       refine RW.guardF rfl rfl rfl rfl ?_
       refine RW.v rfl (V.pickT (d := Bo true) rfl rfl rfl) ?_
       refine RW.nil ?_
       exact ⟨_, by first | rfl | (simp_all; done) | (simp_all; omega) | grind, rfl, Le.c rfl <| Le.c rfl <| Le.e⟩
     ·skip
      refine RW.guardF rfl rfl rfl rfl ?_
      refine RW.guardF rfl rfl rfl rfl ?_
      refine RW.guardF rfl rfl rfl rfl ?_
      refine RW.v rfl (V.pickT (d := Bo true) rfl rfl rfl) ?_
      refine RW.v rfl (V.mv (d := Bo true) rfl rfl) ?_
      refine RW.guardF rfl rfl rfl rfl ?_
      refine RW.guardF rfl rfl rfl rfl ?_
      refine RW.guardF rfl rfl rfl rfl ?_
      refine RW.guardF rfl rfl rfl rfl ?_
      refine RW.v rfl (V.pickT (d := Bo true) rfl rfl rfl) ?_
      refine RW.nil ?_
      exact ⟨_, by first | rfl | (simp_all; done) | (simp_all; omega) | grind, rfl, Le.c rfl <| Le.c rfl <| Le.e⟩
    ·skip
     refine RW.guardF rfl rfl rfl rfl ?_
     refine RW.guardF rfl rfl rfl rfl ?_
     refine RW.guardF rfl rfl rfl rfl ?_
     refine RW.v rfl (V.pickT (d := Bo true) rfl rfl rfl) ?_
     refine RW.v rfl (V.mv (d := Bo true) rfl rfl) ?_
     refine RW.guardF rfl rfl rfl rfl ?_
     refine RW.guardF rfl rfl rfl rfl ?_
     refine RW.guardF rfl rfl rfl rfl ?_
     refine RW.guardF rfl rfl rfl rfl ?_
     refine RW.v rfl (V.pickT (d := Bo true) rfl rfl rfl) ?_
     refine RW.v rfl (V.mv (d := Bo true) rfl rfl) ?_
     refine RW.guardF rfl rfl rfl rfl ?_
     refine RW.guardF rfl rfl rfl rfl ?_
     refine RW.guardF rfl rfl rfl rfl ?_
     refine RW.guardF rfl rfl rfl rfl ?_
     refine RW.v rfl (V.pickT (d := Bo true) rfl rfl rfl) ?_
     refine RW.nil ?_
     exact ⟨_, by first | rfl | (simp_all; done) | (simp_all; omega) | grind, rfl, Le.c rfl <| Le.c rfl <| Le.e⟩
   ·skip
    refine RW.guardF rfl rfl rfl rfl ?_
    refine RW.guardF rfl rfl rfl rfl ?_
    refine RW.guardF rfl rfl rfl rfl ?_
    refine RW.v rfl (V.pickT (d := Bo true) rfl rfl rfl) ?_
    refine RW.v rfl (V.mv (d := Bo true) rfl rfl) ?_
    refine RW.guardF rfl rfl rfl rfl ?_
    refine RW.guardF rfl rfl rfl rfl ?_
    refine RW.guardF rfl rfl rfl rfl ?_
    refine RW.guardF rfl rfl rfl rfl ?_
    refine RW.v rfl (V.pickT (d := Bo true) rfl rfl rfl) ?_
    refine RW.v rfl (V.mv (d := Bo true) rfl rfl) ?_
    refine RW.guardF rfl rfl rfl rfl ?_
    refine RW.guardF rfl rfl rfl rfl ?_
    refine RW.guardF rfl rfl rfl rfl ?_
    refine RW.guardF rfl rfl rfl rfl ?_
    refine RW.v rfl (V.pickT (d := Bo true) rfl rfl rfl) ?_
    refine RW.v rfl (V.mv (d := Bo true) rfl rfl) ?_
    refine RW.guardF rfl rfl rfl rfl ?_
    refine RW.guardF rfl rfl rfl rfl ?_
    refine RW.guardF rfl rfl rfl rfl ?_
    refine RW.guardF rfl rfl rfl rfl ?_
    refine RW.v rfl (V.pickT (d := Bo true) rfl rfl rfl) ?_
    refine RW.nil ?_
    exact ⟨_, by first | rfl | (simp_all; done) | (simp_all; omega) | grind, rfl, Le.c rfl <| Le.c rfl <| Le.e⟩
  ·intro v10 hv19
   refine CW.cond rfl (fun h20 => ?_) (fun h20 => ?_)
   ·skip
    refine CW.seq ?_
    refine CW.region ?_
    refine RW.v rfl (V.as (d := Bo false) rfl rfl) ?_
    refine RW.nil ?_
    refine CW.le [(2, Bo false)] rfl (Le.of rfl) ?_
    refine CW.ret ?_
    exact Post.one (RV.b rfl (by have ht : x.late.all lateOk = true := (by rw [← List.take_of_length_le hii]; exact hr); clear hr hdi; unfold streamOk emp; rw [ht]; first | (simp_all; done) | grind)) (AOs.a rfl AOs.e)
   ·skip
    refine CW.skip ?_
    refine CW.le [(1, .obj b1 ((Stream.c x).map .r))] rfl (Le.of rfl) ?_
    refine CW.seqJ 113 (fun (v21 : Bool) => [(1, .obj b1 ((Stream.c x).map .r)), (5, Bo v21)]) (fun v21 => v21 = (((inR x.fin 0 3) && ((x.fin != 2) || (x.sent == (x.wait.size : Int)))) && ((x.fin != 3) || (x.wait.toList == (⟨#[]⟩ : ByteArray).toList)))) ?_ ?_
    ·refine CW.region ?_
     refine RW.v rfl (V.field rfl rfl rfl rfl (by decide) rfl) ?_
     refine RW.v rfl (V.loadPrim (d := I x.fin) rfl rfl (.inl rfl) rfl rfl rfl) ?_
     refine RW.call rfl (impl_within_fn x.fin 0 3) rfl (.cons (.one (.r .r)) (.cons (.one (.r .r)) (.cons (.one (.r .r)) (.nil)))) fun g22 => ?_
     refine RW.v rfl (V.mv (d := Bo (inR x.fin 0 3)) rfl rfl) ?_
     refine RW.gv rfl rfl rfl rfl (fun h23 => V.field rfl rfl rfl rfl (by decide) rfl) (fun h23 => ?_) (fun h23 => ?_)
     ·skip
      refine RW.gt rfl rfl rfl rfl (V.loadPrim (d := I x.fin) rfl rfl (.inl rfl) rfl rfl rfl) ?_
      refine RW.gt rfl rfl rfl rfl (V.cmpInt rfl rfl rfl rfl) ?_
      refine RW.gt rfl rfl rfl rfl (V.mv (d := Bo (x.fin != 2)) rfl rfl) ?_
      refine RW.gv rfl rfl rfl rfl (fun h24 => V.field rfl rfl rfl rfl (by decide) rfl) (fun h24 => ?_) (fun h24 => ?_)
      ·skip
       refine RW.gt rfl rfl rfl rfl (V.loadPrim (d := I x.sent) rfl rfl (.inl rfl) rfl rfl rfl) ?_
       refine RW.gt rfl rfl rfl rfl (V.field rfl rfl rfl rfl (by decide) rfl) ?_
       refine RW.gt rfl rfl rfl rfl (V.loadPrim (d := S x.wait) rfl rfl (.inl rfl) rfl rfl rfl) ?_
       refine RW.gt rfl rfl rfl rfl (V.lenStr rfl (by kernel_rfl) rfl) ?_
       refine RW.gt rfl rfl rfl rfl (V.cmpInt rfl rfl rfl rfl) ?_
       refine RW.gt rfl rfl rfl rfl (V.pickF (d := Bo (x.sent == (x.wait.size : Int))) rfl rfl rfl) ?_
       refine RW.v rfl (V.pickT (d := Bo (x.sent == (x.wait.size : Int))) rfl rfl rfl) ?_
       refine RW.v rfl (V.mv (d := Bo (x.sent == (x.wait.size : Int))) rfl rfl) ?_
       refine RW.gv rfl rfl rfl rfl (fun h25 => V.field rfl rfl rfl rfl (by decide) rfl) (fun h25 => ?_) (fun h25 => ?_)
       ·skip
        refine RW.gt rfl rfl rfl rfl (V.loadPrim (d := I x.fin) rfl rfl (.inl rfl) rfl rfl rfl) ?_
        refine RW.gt rfl rfl rfl rfl (V.cmpInt rfl rfl rfl rfl) ?_
        refine RW.gt rfl rfl rfl rfl (V.mv (d := Bo (x.fin != 3)) rfl rfl) ?_
        refine RW.gv rfl rfl rfl rfl (fun h26 => V.field rfl rfl rfl rfl (by decide) rfl) (fun h26 => ?_) (fun h26 => ?_)
        ·skip
         refine RW.gt rfl rfl rfl rfl (V.loadPrim (d := S x.wait) rfl rfl (.inl rfl) rfl rfl rfl) ?_
         refine RW.gt rfl rfl rfl rfl (V.strCmp rfl rfl rfl rfl) ?_
         refine RW.gt rfl rfl rfl rfl (V.pickF (d := Bo (x.wait.toList == (⟨#[]⟩ : ByteArray).toList)) rfl rfl rfl) ?_
         refine RW.v rfl (V.pickT (d := Bo (x.wait.toList == (⟨#[]⟩ : ByteArray).toList)) rfl rfl rfl) ?_
         refine RW.v rfl (V.as (d := Bo (x.wait.toList == (⟨#[]⟩ : ByteArray).toList)) rfl rfl) ?_
         refine RW.nil ?_
         exact ⟨_, by first | rfl | (simp_all; done) | (simp_all; omega) | grind, rfl, Le.c rfl <| Le.c rfl <| Le.e⟩
        ·skip
         refine RW.guardF rfl rfl rfl rfl ?_
         refine RW.guardF rfl rfl rfl rfl ?_
         refine RW.gt rfl rfl rfl rfl (V.pickT (d := Bo true) rfl rfl rfl) ?_
         refine RW.v rfl (V.pickT (d := Bo true) rfl rfl rfl) ?_
         refine RW.v rfl (V.as (d := Bo true) rfl rfl) ?_
         refine RW.nil ?_
         exact ⟨_, by first | rfl | (simp_all; done) | (simp_all; omega) | grind, rfl, Le.c rfl <| Le.c rfl <| Le.e⟩
       ·skip
        refine RW.guardF rfl rfl rfl rfl ?_
        refine RW.guardF rfl rfl rfl rfl ?_
        refine RW.guardF rfl rfl rfl rfl ?_
        refine RW.guardU rfl rfl rfl rfl ?_
        refine RW.guardU rfl rfl rfl rfl ?_
        refine RW.guardU rfl rfl rfl rfl ?_
        refine RW.guardF rfl rfl rfl rfl ?_
        refine RW.v rfl (V.pickF (d := Bo false) rfl rfl rfl) ?_
        refine RW.v rfl (V.as (d := Bo false) rfl rfl) ?_
        refine RW.nil ?_
        exact ⟨_, by first | rfl | (simp_all; done) | (simp_all; omega) | grind, rfl, Le.c rfl <| Le.c rfl <| Le.e⟩
      ·skip
       refine RW.guardF rfl rfl rfl rfl ?_
       refine RW.guardF rfl rfl rfl rfl ?_
       refine RW.guardF rfl rfl rfl rfl ?_
       refine RW.guardF rfl rfl rfl rfl ?_
       refine RW.guardF rfl rfl rfl rfl ?_
       refine RW.gt rfl rfl rfl rfl (V.pickT (d := Bo true) rfl rfl rfl) ?_
       refine RW.v rfl (V.pickT (d := Bo true) rfl rfl rfl) ?_
       refine RW.v rfl (V.mv (d := Bo true) rfl rfl) ?_
       refine RW.gt rfl rfl rfl rfl (V.field rfl rfl rfl rfl (by decide) rfl) ?_
       refine RW.gt rfl rfl rfl rfl (V.loadPrim (d := I x.fin) rfl rfl (.inl rfl) rfl rfl rfl) ?_
       refine RW.gt rfl rfl rfl rfl (V.cmpInt rfl rfl rfl rfl) ?_
       refine RW.gt rfl rfl rfl rfl (V.mv (d := Bo (x.fin != 3)) rfl rfl) ?_
       refine RW.gv rfl rfl rfl rfl (fun h27 => V.field rfl rfl rfl rfl (by decide) rfl) (fun h27 => ?_) (fun h27 => ?_)
       ·skip
        refine RW.gt rfl rfl rfl rfl (V.loadPrim (d := S x.wait) rfl rfl (.inl rfl) rfl rfl rfl) ?_
        refine RW.gt rfl rfl rfl rfl (V.strCmp rfl rfl rfl rfl) ?_
        refine RW.gt rfl rfl rfl rfl (V.pickF (d := Bo (x.wait.toList == (⟨#[]⟩ : ByteArray).toList)) rfl rfl rfl) ?_
        refine RW.v rfl (V.pickT (d := Bo (x.wait.toList == (⟨#[]⟩ : ByteArray).toList)) rfl rfl rfl) ?_
        refine RW.v rfl (V.as (d := Bo (x.wait.toList == (⟨#[]⟩ : ByteArray).toList)) rfl rfl) ?_
        refine RW.nil ?_
        exact ⟨_, by first | rfl | (simp_all; done) | (simp_all; omega) | grind, rfl, Le.c rfl <| Le.c rfl <| Le.e⟩
       ·skip
        refine RW.guardF rfl rfl rfl rfl ?_
        refine RW.guardF rfl rfl rfl rfl ?_
        refine RW.gt rfl rfl rfl rfl (V.pickT (d := Bo true) rfl rfl rfl) ?_
        refine RW.v rfl (V.pickT (d := Bo true) rfl rfl rfl) ?_
        refine RW.v rfl (V.as (d := Bo true) rfl rfl) ?_
        refine RW.nil ?_
        exact ⟨_, by first | rfl | (simp_all; done) | (simp_all; omega) | grind, rfl, Le.c rfl <| Le.c rfl <| Le.e⟩
     ·skip
      refine RW.guardF rfl rfl rfl rfl ?_
      refine RW.guardF rfl rfl rfl rfl ?_
      refine RW.guardF rfl rfl rfl rfl ?_
      refine RW.guardU rfl rfl rfl rfl ?_
      refine RW.guardU rfl rfl rfl rfl ?_
      refine RW.guardU rfl rfl rfl rfl ?_
      refine RW.guardU rfl rfl rfl rfl ?_
      refine RW.guardU rfl rfl rfl rfl ?_
      refine RW.guardU rfl rfl rfl rfl ?_
      refine RW.guardF rfl rfl rfl rfl ?_
      refine RW.v rfl (V.pickF (d := Bo false) rfl rfl rfl) ?_
      refine RW.v rfl (V.mv (d := Bo false) rfl rfl) ?_
      refine RW.guardF rfl rfl rfl rfl ?_
      refine RW.guardF rfl rfl rfl rfl ?_
      refine RW.guardF rfl rfl rfl rfl ?_
      refine RW.guardF rfl rfl rfl rfl ?_
      refine RW.guardU rfl rfl rfl rfl ?_
      refine RW.guardU rfl rfl rfl rfl ?_
      refine RW.guardU rfl rfl rfl rfl ?_
      refine RW.guardF rfl rfl rfl rfl ?_
      refine RW.v rfl (V.pickF (d := Bo false) rfl rfl rfl) ?_
      refine RW.v rfl (V.as (d := Bo false) rfl rfl) ?_
      refine RW.nil ?_
      exact ⟨_, by first | rfl | (simp_all; done) | (simp_all; omega) | grind, rfl, Le.c rfl <| Le.c rfl <| Le.e⟩
    ·intro v21 hv28
     refine CW.seqJ 113 (fun (v29 : Bool) => [(1, .obj b1 ((Stream.c x).map .r)), (5, Bo v21), (6, Bo v29)]) (fun v29 => v29 = (decide ((x.in_.size : Int) ≤ 1000) && decide ((x.late.length : Int) ≤ 8))) ?_ ?_
     ·refine CW.region ?_
      refine RW.v rfl (V.field rfl rfl rfl rfl (by decide) rfl) ?_
      refine RW.v rfl (V.loadPrim (d := S x.in_) rfl rfl (.inl rfl) rfl rfl rfl) ?_
      refine RW.v rfl (V.lenStr rfl (by kernel_rfl) rfl) ?_
      refine RW.v rfl (V.cmpInt rfl rfl rfl rfl) ?_
      refine RW.v rfl (V.mv (d := Bo (decide ((x.in_.size : Int) ≤ 1000))) rfl rfl) ?_
      refine RW.gv rfl rfl rfl rfl (fun h30 => V.field rfl rfl rfl rfl (by decide) rfl) (fun h30 => ?_) (fun h30 => ?_)
      ·skip
       refine RW.gt rfl rfl rfl rfl (V.loadPrim (d := .r (sl 2 Late.c x.late)) rfl rfl (.inr ⟨_, rfl⟩) rfl rfl rfl) ?_
       refine RW.gt rfl rfl rfl rfl (V.lenT (n := x.late.length) rfl rfl rfl .r) ?_
       refine RW.gt rfl rfl rfl rfl (V.cmpInt rfl rfl rfl rfl) ?_
       refine RW.v rfl (V.pickT (d := Bo (decide ((x.late.length : Int) ≤ 8))) rfl rfl rfl) ?_
       refine RW.v rfl (V.as (d := Bo (decide ((x.late.length : Int) ≤ 8))) rfl rfl) ?_
       refine RW.nil ?_
       exact ⟨_, by first | rfl | (simp_all; done) | (simp_all; omega) | grind, rfl, Le.c rfl <| Le.c rfl <| Le.c rfl <| Le.e⟩
      ·skip
       refine RW.guardF rfl rfl rfl rfl ?_
       refine RW.guardF rfl rfl rfl rfl ?_
       refine RW.guardF rfl rfl rfl rfl ?_
       refine RW.v rfl (V.pickF (d := Bo false) rfl rfl rfl) ?_
       refine RW.v rfl (V.as (d := Bo false) rfl rfl) ?_
       refine RW.nil ?_
       exact ⟨_, by first | rfl | (simp_all; done) | (simp_all; omega) | grind, rfl, Le.c rfl <| Le.c rfl <| Le.c rfl <| Le.e⟩
     ·intro v29 hv31
      refine CW.seqJ 113 (fun (v32 : Bool) => [(2, Bo v32)]) (fun v32 => v32 = (((((inR x.sent 0 (mnI (x.wait.size : Int) 24)) && v21) && v29) && (inR x.due 0 1000000000)) && (inR x.times 0 12))) ?_ ?_
      ·refine CW.region ?_
       refine RW.v rfl (V.field rfl rfl rfl rfl (by decide) rfl) ?_
       refine RW.v rfl (V.loadPrim (d := I x.sent) rfl rfl (.inl rfl) rfl rfl rfl) ?_
       refine RW.v rfl (V.field rfl rfl rfl rfl (by decide) rfl) ?_
       refine RW.v rfl (V.loadPrim (d := S x.wait) rfl rfl (.inl rfl) rfl rfl rfl) ?_
       refine RW.v rfl (V.lenStr rfl (by kernel_rfl) rfl) ?_
       refine RW.v rfl (V.min2I rfl rfl rfl) ?_
       refine RW.call rfl (impl_within_fn x.sent 0 (mnI (x.wait.size : Int) 24)) rfl (.cons (.one (.r .r)) (.cons (.one (.r .r)) (.cons (.one (.r .r)) (.nil)))) fun g33 => ?_
       refine RW.v rfl (V.mv (d := Bo (inR x.sent 0 (mnI (x.wait.size : Int) 24))) rfl rfl) ?_
       refine RW.gv rfl rfl rfl rfl (fun h34 => V.mv (d := Bo v21) rfl rfl) (fun h34 => ?_) (fun h34 => ?_)
       ·skip
        refine RW.v rfl (V.pickT (d := Bo v21) rfl rfl rfl) ?_
        refine RW.v rfl (V.mv (d := Bo v21) rfl rfl) ?_
        refine RW.gv rfl rfl rfl rfl (fun h35 => V.mv (d := Bo v29) rfl rfl) (fun h35 => ?_) (fun h35 => ?_)
        ·skip
         refine RW.v rfl (V.pickT (d := Bo v29) rfl rfl rfl) ?_
         refine RW.v rfl (V.mv (d := Bo v29) rfl rfl) ?_
         refine RW.gv rfl rfl rfl rfl (fun h36 => V.field rfl rfl rfl rfl (by decide) rfl) (fun h36 => ?_) (fun h36 => ?_)
         ·skip
          refine RW.gt rfl rfl rfl rfl (V.loadPrim (d := I x.due) rfl rfl (.inl rfl) rfl rfl rfl) ?_
          refine RW.gcall rfl rfl rfl rfl (impl_within_fn x.due 0 1000000000) rfl (.cons (.one (.r .r)) (.cons (.one (.r .r)) (.cons (.one (.r .r)) (.nil)))) fun g37 => ?_
          refine RW.v rfl (V.pickT (d := Bo (inR x.due 0 1000000000)) rfl rfl rfl) ?_
          refine RW.v rfl (V.mv (d := Bo (inR x.due 0 1000000000)) rfl rfl) ?_
          refine RW.gv rfl rfl rfl rfl (fun h38 => V.field rfl rfl rfl rfl (by decide) rfl) (fun h38 => ?_) (fun h38 => ?_)
          ·skip
           refine RW.gt rfl rfl rfl rfl (V.loadPrim (d := I x.times) rfl rfl (.inl rfl) rfl rfl rfl) ?_
           refine RW.gcall rfl rfl rfl rfl (impl_within_fn x.times 0 12) rfl (.cons (.one (.r .r)) (.cons (.one (.r .r)) (.cons (.one (.r .r)) (.nil)))) fun g39 => ?_
           refine RW.v rfl (V.pickT (d := Bo (inR x.times 0 12)) rfl rfl rfl) ?_
           refine RW.v rfl (V.as (d := Bo (inR x.times 0 12)) rfl rfl) ?_
           refine RW.nil ?_
           exact ⟨_, by first | rfl | (simp_all; done) | (simp_all; omega) | grind, rfl, Le.c rfl <| Le.e⟩
          ·skip
           refine RW.guardF rfl rfl rfl rfl ?_
           refine RW.guardF rfl rfl rfl rfl ?_
           refine RW.v rfl (V.pickF (d := Bo false) rfl rfl rfl) ?_
           refine RW.v rfl (V.as (d := Bo false) rfl rfl) ?_
           refine RW.nil ?_
           exact ⟨_, by first | rfl | (simp_all; done) | (simp_all; omega) | grind, rfl, Le.c rfl <| Le.e⟩
         ·skip
          refine RW.guardF rfl rfl rfl rfl ?_
          refine RW.guardF rfl rfl rfl rfl ?_
          refine RW.v rfl (V.pickF (d := Bo false) rfl rfl rfl) ?_
          refine RW.v rfl (V.mv (d := Bo false) rfl rfl) ?_
          refine RW.guardF rfl rfl rfl rfl ?_
          refine RW.guardF rfl rfl rfl rfl ?_
          refine RW.guardF rfl rfl rfl rfl ?_
          refine RW.v rfl (V.pickF (d := Bo false) rfl rfl rfl) ?_
          refine RW.v rfl (V.as (d := Bo false) rfl rfl) ?_
          refine RW.nil ?_
          exact ⟨_, by first | rfl | (simp_all; done) | (simp_all; omega) | grind, rfl, Le.c rfl <| Le.e⟩
        ·skip
         refine RW.v rfl (V.pickF (d := Bo false) rfl rfl rfl) ?_
         refine RW.v rfl (V.mv (d := Bo false) rfl rfl) ?_
         refine RW.guardF rfl rfl rfl rfl ?_
         refine RW.guardF rfl rfl rfl rfl ?_
         refine RW.guardF rfl rfl rfl rfl ?_
         refine RW.v rfl (V.pickF (d := Bo false) rfl rfl rfl) ?_
         refine RW.v rfl (V.mv (d := Bo false) rfl rfl) ?_
         refine RW.guardF rfl rfl rfl rfl ?_
         refine RW.guardF rfl rfl rfl rfl ?_
         refine RW.guardF rfl rfl rfl rfl ?_
         refine RW.v rfl (V.pickF (d := Bo false) rfl rfl rfl) ?_
         refine RW.v rfl (V.as (d := Bo false) rfl rfl) ?_
         refine RW.nil ?_
         exact ⟨_, by first | rfl | (simp_all; done) | (simp_all; omega) | grind, rfl, Le.c rfl <| Le.e⟩
       ·skip
        refine RW.v rfl (V.pickF (d := Bo false) rfl rfl rfl) ?_
        refine RW.v rfl (V.mv (d := Bo false) rfl rfl) ?_
        refine RW.guardF rfl rfl rfl rfl ?_
        refine RW.v rfl (V.pickF (d := Bo false) rfl rfl rfl) ?_
        refine RW.v rfl (V.mv (d := Bo false) rfl rfl) ?_
        refine RW.guardF rfl rfl rfl rfl ?_
        refine RW.guardF rfl rfl rfl rfl ?_
        refine RW.guardF rfl rfl rfl rfl ?_
        refine RW.v rfl (V.pickF (d := Bo false) rfl rfl rfl) ?_
        refine RW.v rfl (V.mv (d := Bo false) rfl rfl) ?_
        refine RW.guardF rfl rfl rfl rfl ?_
        refine RW.guardF rfl rfl rfl rfl ?_
        refine RW.guardF rfl rfl rfl rfl ?_
        refine RW.v rfl (V.pickF (d := Bo false) rfl rfl rfl) ?_
        refine RW.v rfl (V.as (d := Bo false) rfl rfl) ?_
        refine RW.nil ?_
        exact ⟨_, by first | rfl | (simp_all; done) | (simp_all; omega) | grind, rfl, Le.c rfl <| Le.e⟩
      ·intro v32 hv40
       refine CW.ret ?_
       exact Post.one (RV.b rfl (by have ht : x.late.all lateOk = true := (by rw [← List.take_of_length_le hii]; exact hr); clear hr hdi; unfold streamOk emp; rw [ht]; first | (simp_all; done) | grind)) (AOs.a rfl AOs.e)
set_option maxHeartbeats 4000000 in
theorem impl_SegOk_fn (s : Seg) : Eng.Fn E.P 39 [.agg ((Seg.c s).map .r)] (.one (.one (.w (.v (.bool (segOk s)))))) [.agg ((Seg.c s).map .r)] := by
 refine Eng.Fn.intro (E := E) (rvs := [.tmp 2]) Try.func39 rfl rfl rfl (by simp [outSlots, moved, rvSlot, sl]) ?_
 intro B g bo
 refine CW.le [(0, .agg ((Seg.c s).map .r))] rfl (Le.of rfl) ?_
 refine CW.seq ?_
 refine CW.region ?_
 refine RW.box (ds := ((Seg.c s).map .r)) rfl rfl rfl fun b1 => ?_
 refine RW.v rfl (V.as (d := Bo false) rfl rfl) ?_
 refine RW.nil ?_
 refine CW.le [(1, .obj b1 ((Seg.c s).map .r))] rfl (Le.of rfl) ?_
 refine CW.seq ?_
 refine CW.seqJ 45 (fun (v2 : Bool) => [(1, .obj b1 ((Seg.c s).map .r)), (24, Bo v2)]) (fun v2 => v2 = ((((!(isWord s.num)) || (!(isWord s.ack))) || (!(inR s.flags 0 7))) || decide ((s.body.size : Int) > 8))) ?_ ?_
 ·refine CW.region ?_
  refine RW.v rfl (V.field rfl rfl rfl rfl (by decide) rfl) ?_
  refine RW.v rfl (V.loadPrim (d := I s.num) rfl rfl (.inl rfl) rfl rfl rfl) ?_
  refine RW.call rfl (impl_isWord_fn s.num) rfl (.cons (.one (.r .r)) (.nil)) fun g3 => ?_
  refine RW.v rfl (V.not rfl rfl) ?_
  refine RW.v rfl (V.mv (d := Bo (!(isWord s.num))) rfl rfl) ?_
  refine RW.gv rfl rfl rfl rfl (fun h4 => V.field rfl rfl rfl rfl (by decide) rfl) (fun h4 => ?_) (fun h4 => ?_)
  ·skip
   refine RW.gt rfl rfl rfl rfl (V.loadPrim (d := I s.ack) rfl rfl (.inl rfl) rfl rfl rfl) ?_
   refine RW.gcall rfl rfl rfl rfl (impl_isWord_fn s.ack) rfl (.cons (.one (.r .r)) (.nil)) fun g5 => ?_
   refine RW.gt rfl rfl rfl rfl (V.not rfl rfl) ?_
   refine RW.v rfl (V.pickF (d := Bo (!(isWord s.ack))) rfl rfl rfl) ?_
   refine RW.v rfl (V.mv (d := Bo (!(isWord s.ack))) rfl rfl) ?_
   refine RW.gv rfl rfl rfl rfl (fun h6 => V.field rfl rfl rfl rfl (by decide) rfl) (fun h6 => ?_) (fun h6 => ?_)
   ·skip
    refine RW.gt rfl rfl rfl rfl (V.loadPrim (d := I s.flags) rfl rfl (.inl rfl) rfl rfl rfl) ?_
    refine RW.gcall rfl rfl rfl rfl (impl_within_fn s.flags 0 7) rfl (.cons (.one (.r .r)) (.cons (.one (.r .r)) (.cons (.one (.r .r)) (.nil)))) fun g7 => ?_
    refine RW.gt rfl rfl rfl rfl (V.not rfl rfl) ?_
    refine RW.v rfl (V.pickF (d := Bo (!(inR s.flags 0 7))) rfl rfl rfl) ?_
    refine RW.v rfl (V.mv (d := Bo (!(inR s.flags 0 7))) rfl rfl) ?_
    refine RW.gv rfl rfl rfl rfl (fun h8 => V.field rfl rfl rfl rfl (by decide) rfl) (fun h8 => ?_) (fun h8 => ?_)
    ·skip
     refine RW.gt rfl rfl rfl rfl (V.loadPrim (d := S s.body) rfl rfl (.inl rfl) rfl rfl rfl) ?_
     refine RW.gt rfl rfl rfl rfl (V.lenStr rfl (by kernel_rfl) rfl) ?_
     refine RW.gt rfl rfl rfl rfl (V.cmpInt rfl rfl rfl rfl) ?_
     refine RW.v rfl (V.pickF (d := Bo (decide ((s.body.size : Int) > 8))) rfl rfl rfl) ?_
     refine RW.nil ?_
     exact ⟨_, by first | rfl | (simp_all; done) | (simp_all; omega) | grind, rfl, Le.c rfl <| Le.c rfl <| Le.e⟩
    ·skip
     refine RW.guardF rfl rfl rfl rfl ?_
     refine RW.guardF rfl rfl rfl rfl ?_
     refine RW.guardF rfl rfl rfl rfl ?_
     refine RW.v rfl (V.pickT (d := Bo true) rfl rfl rfl) ?_
     refine RW.nil ?_
     exact ⟨_, by first | rfl | (simp_all; done) | (simp_all; omega) | grind, rfl, Le.c rfl <| Le.c rfl <| Le.e⟩
   ·skip
    refine RW.guardF rfl rfl rfl rfl ?_
    refine RW.guardF rfl rfl rfl rfl ?_
    refine RW.guardF rfl rfl rfl rfl ?_
    refine RW.v rfl (V.pickT (d := Bo true) rfl rfl rfl) ?_
    refine RW.v rfl (V.mv (d := Bo true) rfl rfl) ?_
    refine RW.guardF rfl rfl rfl rfl ?_
    refine RW.guardF rfl rfl rfl rfl ?_
    refine RW.guardF rfl rfl rfl rfl ?_
    refine RW.guardF rfl rfl rfl rfl ?_
    refine RW.v rfl (V.pickT (d := Bo true) rfl rfl rfl) ?_
    refine RW.nil ?_
    exact ⟨_, by first | rfl | (simp_all; done) | (simp_all; omega) | grind, rfl, Le.c rfl <| Le.c rfl <| Le.e⟩
  ·skip
   refine RW.guardF rfl rfl rfl rfl ?_
   refine RW.guardF rfl rfl rfl rfl ?_
   refine RW.guardF rfl rfl rfl rfl ?_
   refine RW.v rfl (V.pickT (d := Bo true) rfl rfl rfl) ?_
   refine RW.v rfl (V.mv (d := Bo true) rfl rfl) ?_
   refine RW.guardF rfl rfl rfl rfl ?_
   refine RW.guardF rfl rfl rfl rfl ?_
   refine RW.guardF rfl rfl rfl rfl ?_
   refine RW.guardF rfl rfl rfl rfl ?_
   refine RW.v rfl (V.pickT (d := Bo true) rfl rfl rfl) ?_
   refine RW.v rfl (V.mv (d := Bo true) rfl rfl) ?_
   refine RW.guardF rfl rfl rfl rfl ?_
   refine RW.guardF rfl rfl rfl rfl ?_
   refine RW.guardF rfl rfl rfl rfl ?_
   refine RW.guardF rfl rfl rfl rfl ?_
   refine RW.v rfl (V.pickT (d := Bo true) rfl rfl rfl) ?_
   refine RW.nil ?_
   exact ⟨_, by first | rfl | (simp_all; done) | (simp_all; omega) | grind, rfl, Le.c rfl <| Le.c rfl <| Le.e⟩
 ·intro v2 hv9
  refine CW.cond rfl (fun h10 => ?_) (fun h10 => ?_)
  ·skip
   refine CW.seq ?_
   refine CW.region ?_
   refine RW.v rfl (V.as (d := Bo false) rfl rfl) ?_
   refine RW.nil ?_
   refine CW.le [(2, Bo false)] rfl (Le.of rfl) ?_
   refine CW.ret ?_
   exact Post.one (RV.b rfl (by by_cases hf : inR s.flags 0 7 = true; (have hb := bits_in hf; unfold segOk emp; first | (simp_all; done) | grind); (unfold segOk; first | (simp_all; done) | grind))) (AOs.a rfl AOs.e)
  ·skip
   refine CW.skip ?_
   refine CW.le [(1, .obj b1 ((Seg.c s).map .r))] rfl (Le.of rfl) ?_
   refine CW.seqJ 45 (fun (v11 : Bool) => [(2, Bo v11)]) (fun v11 => v11 = (((s.body.toList == (⟨#[]⟩ : ByteArray).toList) || ((andI s.flags 1) == 0)) && ((s.ack == 0) || ((andI s.flags 2) != 0)))) ?_ ?_
   ·refine CW.region ?_
    refine RW.v rfl (V.field rfl rfl rfl rfl (by decide) rfl) ?_
    refine RW.v rfl (V.loadPrim (d := S s.body) rfl rfl (.inl rfl) rfl rfl rfl) ?_
    refine RW.v rfl (V.strCmp rfl rfl rfl rfl) ?_
    refine RW.v rfl (V.mv (d := Bo (s.body.toList == (⟨#[]⟩ : ByteArray).toList)) rfl rfl) ?_
    refine RW.gv rfl rfl rfl rfl (fun h12 => V.field rfl rfl rfl rfl (by decide) rfl) (fun h12 => ?_) (fun h12 => ?_)
    ·skip
     refine RW.gt rfl rfl rfl rfl (V.loadPrim (d := I s.flags) rfl rfl (.inl rfl) rfl rfl rfl) ?_
     refine RW.gt rfl rfl rfl rfl (V.bits rfl rfl rfl rfl) ?_
     refine RW.gt rfl rfl rfl rfl (V.cmpInt rfl rfl rfl rfl) ?_
     refine RW.v rfl (V.pickF (d := Bo ((andI s.flags 1) == 0)) rfl rfl rfl) ?_
     refine RW.v rfl (V.mv (d := Bo ((andI s.flags 1) == 0)) rfl rfl) ?_
     refine RW.gv rfl rfl rfl rfl (fun h13 => V.field rfl rfl rfl rfl (by decide) rfl) (fun h13 => ?_) (fun h13 => ?_)
     ·skip
      refine RW.gt rfl rfl rfl rfl (V.loadPrim (d := I s.ack) rfl rfl (.inl rfl) rfl rfl rfl) ?_
      refine RW.gt rfl rfl rfl rfl (V.cmpInt rfl rfl rfl rfl) ?_
      refine RW.gt rfl rfl rfl rfl (V.mv (d := Bo (s.ack == 0)) rfl rfl) ?_
      refine RW.gv rfl rfl rfl rfl (fun h14 => V.field rfl rfl rfl rfl (by decide) rfl) (fun h14 => ?_) (fun h14 => ?_)
      ·skip
       refine RW.gt rfl rfl rfl rfl (V.loadPrim (d := I s.flags) rfl rfl (.inl rfl) rfl rfl rfl) ?_
       refine RW.gt rfl rfl rfl rfl (V.bits rfl rfl rfl rfl) ?_
       refine RW.gt rfl rfl rfl rfl (V.cmpInt rfl rfl rfl rfl) ?_
       refine RW.gt rfl rfl rfl rfl (V.pickF (d := Bo ((andI s.flags 2) != 0)) rfl rfl rfl) ?_
       refine RW.v rfl (V.pickT (d := Bo ((andI s.flags 2) != 0)) rfl rfl rfl) ?_
       refine RW.v rfl (V.as (d := Bo ((andI s.flags 2) != 0)) rfl rfl) ?_
       refine RW.nil ?_
       exact ⟨_, by first | rfl | (simp_all; done) | (simp_all; omega) | grind, rfl, Le.c rfl <| Le.e⟩
      ·skip
       refine RW.guardF rfl rfl rfl rfl ?_
       refine RW.guardF rfl rfl rfl rfl ?_
       refine RW.guardF rfl rfl rfl rfl ?_
       refine RW.gt rfl rfl rfl rfl (V.pickT (d := Bo true) rfl rfl rfl) ?_
       refine RW.v rfl (V.pickT (d := Bo true) rfl rfl rfl) ?_
       refine RW.v rfl (V.as (d := Bo true) rfl rfl) ?_
       refine RW.nil ?_
       exact ⟨_, by first | rfl | (simp_all; done) | (simp_all; omega) | grind, rfl, Le.c rfl <| Le.e⟩
     ·skip
      refine RW.guardF rfl rfl rfl rfl ?_
      refine RW.guardF rfl rfl rfl rfl ?_
      refine RW.guardF rfl rfl rfl rfl ?_
      refine RW.guardU rfl rfl rfl rfl ?_
      refine RW.guardU rfl rfl rfl rfl ?_
      refine RW.guardU rfl rfl rfl rfl ?_
      refine RW.guardU rfl rfl rfl rfl ?_
      refine RW.guardF rfl rfl rfl rfl ?_
      refine RW.v rfl (V.pickF (d := Bo false) rfl rfl rfl) ?_
      refine RW.v rfl (V.as (d := Bo false) rfl rfl) ?_
      refine RW.nil ?_
      exact ⟨_, by first | rfl | (simp_all; done) | (simp_all; omega) | grind, rfl, Le.c rfl <| Le.e⟩
    ·skip
     refine RW.guardF rfl rfl rfl rfl ?_
     refine RW.guardF rfl rfl rfl rfl ?_
     refine RW.guardF rfl rfl rfl rfl ?_
     refine RW.v rfl (V.pickT (d := Bo true) rfl rfl rfl) ?_
     refine RW.v rfl (V.mv (d := Bo true) rfl rfl) ?_
     refine RW.gt rfl rfl rfl rfl (V.field rfl rfl rfl rfl (by decide) rfl) ?_
     refine RW.gt rfl rfl rfl rfl (V.loadPrim (d := I s.ack) rfl rfl (.inl rfl) rfl rfl rfl) ?_
     refine RW.gt rfl rfl rfl rfl (V.cmpInt rfl rfl rfl rfl) ?_
     refine RW.gt rfl rfl rfl rfl (V.mv (d := Bo (s.ack == 0)) rfl rfl) ?_
     refine RW.gv rfl rfl rfl rfl (fun h15 => V.field rfl rfl rfl rfl (by decide) rfl) (fun h15 => ?_) (fun h15 => ?_)
     ·skip
      refine RW.gt rfl rfl rfl rfl (V.loadPrim (d := I s.flags) rfl rfl (.inl rfl) rfl rfl rfl) ?_
      refine RW.gt rfl rfl rfl rfl (V.bits rfl rfl rfl rfl) ?_
      refine RW.gt rfl rfl rfl rfl (V.cmpInt rfl rfl rfl rfl) ?_
      refine RW.gt rfl rfl rfl rfl (V.pickF (d := Bo ((andI s.flags 2) != 0)) rfl rfl rfl) ?_
      refine RW.v rfl (V.pickT (d := Bo ((andI s.flags 2) != 0)) rfl rfl rfl) ?_
      refine RW.v rfl (V.as (d := Bo ((andI s.flags 2) != 0)) rfl rfl) ?_
      refine RW.nil ?_
      exact ⟨_, by first | rfl | (simp_all; done) | (simp_all; omega) | grind, rfl, Le.c rfl <| Le.e⟩
     ·skip
      refine RW.guardF rfl rfl rfl rfl ?_
      refine RW.guardF rfl rfl rfl rfl ?_
      refine RW.guardF rfl rfl rfl rfl ?_
      refine RW.gt rfl rfl rfl rfl (V.pickT (d := Bo true) rfl rfl rfl) ?_
      refine RW.v rfl (V.pickT (d := Bo true) rfl rfl rfl) ?_
      refine RW.v rfl (V.as (d := Bo true) rfl rfl) ?_
      refine RW.nil ?_
      exact ⟨_, by first | rfl | (simp_all; done) | (simp_all; omega) | grind, rfl, Le.c rfl <| Le.e⟩
   ·intro v11 hv16
    refine CW.ret ?_
    exact Post.one (RV.b rfl (by by_cases hf : inR s.flags 0 7 = true; (have hb := bits_in hf; unfold segOk emp; first | (simp_all; done) | grind); (unfold segOk; first | (simp_all; done) | grind))) (AOs.a rfl AOs.e)
set_option maxHeartbeats 4000000 in
theorem impl_StreamNew_fn (iss : Int) (ask : Bool) : Eng.Fn E.P 9 [.one (.r (.v (.int .i64 iss))), .one (.r (.v (.bool ask)))] (.tup [.agg ((Stream.c ((streamNew iss ask).1)).map .w), .one (.w (.v (.bool ((streamNew iss ask).2))))]) [.one (.r (.v (.int .i64 iss))), .one (.r (.v (.bool ask)))] := by
 refine Eng.Fn.intro (E := E) (rvs := [.cell 4 28, .tmp 5]) Try.func9 rfl rfl rfl (by simp [outSlots, moved, rvSlot, sl]) ?_
 intro B g bo
 refine CW.le [(0, I iss), (1, Bo ask)] rfl (Le.of rfl) ?_
 refine CW.seq ?_
 refine CW.region ?_
 refine RW.alloc (ds := [I 0, I 0, I 0, I 0, S (⟨#[]⟩), I 0, I 0, Bo false, S (⟨#[]⟩), .r (.v (.slice none 0 0)), Bo false, I 0, I 0]) rfl rfl rfl rfl fun b1 => ?_
 refine RW.v rfl (V.as (d := Bo false) rfl rfl) ?_
 refine RW.nil ?_
 refine CW.le [(0, I iss), (1, Bo ask), (4, .obj b1 [I 0, I 0, I 0, I 0, S (⟨#[]⟩), I 0, I 0, Bo false, S (⟨#[]⟩), .r (.v (.slice none 0 0)), Bo false, I 0, I 0])] rfl (Le.of rfl) ?_
 refine CW.seq ?_
 refine CW.seq ?_
 refine CW.region ?_
 refine RW.v rfl (V.mv (d := I iss) rfl rfl) ?_
 refine RW.call rfl (impl_isWord_fn iss) rfl (.cons (.one (.r .r)) (.nil)) fun g2 => ?_
 refine RW.v rfl (V.not rfl rfl) ?_
 refine RW.nil ?_
 refine CW.le [(0, I iss), (1, Bo ask), (4, .obj b1 [I 0, I 0, I 0, I 0, S (⟨#[]⟩), I 0, I 0, Bo false, S (⟨#[]⟩), .r (.v (.slice none 0 0)), Bo false, I 0, I 0]), (9, Bo (!(isWord iss)))] rfl (Le.of rfl) ?_
 refine CW.cond rfl (fun h3 => ?_) (fun h3 => ?_)
 ·skip
  refine CW.seq ?_
  refine CW.region ?_
  refine RW.v rfl (V.build (ds := [I 0, I 0, I 0, I 0, S (⟨#[]⟩), I 0, I 0, Bo false, S (⟨#[]⟩), .r (.v (.slice none 0 0)), Bo false, I 0, I 0]) rfl rfl rfl rfl (.nil)) ?_
  refine RW.storeAgg (es := [I 0, I 0, I 0, I 0, S (⟨#[]⟩), I 0, I 0, Bo false, S (⟨#[]⟩), .r (.v (.slice none 0 0)), Bo false, I 0, I 0]) rfl rfl rfl rfl rfl rfl rfl rfl (Nat.le_of_ble_eq_true rfl) rfl ?_
  refine RW.v rfl (V.as (d := Bo false) rfl rfl) ?_
  refine RW.nil ?_
  refine CW.le [(4, .obj b1 [I 0, I 0, I 0, I 0, S (⟨#[]⟩), I 0, I 0, Bo false, S (⟨#[]⟩), .r (.v (.slice none 0 0)), Bo false, I 0, I 0]), (5, Bo false)] rfl (Le.of rfl) ?_
  refine CW.ret ?_
  exact Post.tup (by decide) (RVs.c (RV.c (f := fun e => (Stream.c e).map .w) (e' := (⟨0, 0, 0, 0, ⟨#[]⟩, 0, 0, false, ⟨#[]⟩, [], false, 0, 0⟩ : Stream)) rfl rfl rfl rfl (DT.v (DT.v (DT.v (DT.v (DT.v (DT.v (DT.v (DT.v (DT.v (DT.n (DT.v (DT.v (DT.v DT.e))))))))))))) (by simp_all [streamNew, Stream.z])) (RVs.c (RV.b rfl (by simp_all [streamNew, Stream.z])) RVs.e)) (AOs.r (AOs.r AOs.e))
 ·skip
  refine CW.skip ?_
  refine CW.le [(0, I iss), (1, Bo ask), (4, .obj b1 [I 0, I 0, I 0, I 0, S (⟨#[]⟩), I 0, I 0, Bo false, S (⟨#[]⟩), .r (.v (.slice none 0 0)), Bo false, I 0, I 0])] rfl (Le.of rfl) ?_
  refine CW.seq ?_
  refine CW.region ?_
  refine RW.v rfl (V.mv (d := I iss) rfl rfl) ?_
  refine RW.v rfl (V.mv (d := I iss) rfl rfl) ?_
  refine RW.v rfl (V.build (ds := [I 1, I iss, I iss, I 0, S (⟨#[]⟩), I 0, I 0, Bo false, S (⟨#[]⟩), .r (.v (.slice none 0 0)), Bo false, I 0, I 0]) rfl rfl rfl rfl (.one rfl rfl rfl (Nat.le_of_ble_eq_true rfl) (.one rfl rfl rfl (Nat.le_of_ble_eq_true rfl) (.one rfl rfl rfl (Nat.le_of_ble_eq_true rfl) (.nil))))) ?_
  refine RW.alloc (ds := [I 0, I 0, I 0, I 0, S (⟨#[]⟩), I 0, I 0, Bo false, S (⟨#[]⟩), .r (.v (.slice none 0 0)), Bo false, I 0, I 0]) rfl rfl rfl rfl fun b4 => ?_
  refine RW.storeAgg (es := [I 1, I iss, I iss, I 0, S (⟨#[]⟩), I 0, I 0, Bo false, S (⟨#[]⟩), .r (.v (.slice none 0 0)), Bo false, I 0, I 0]) rfl rfl rfl rfl rfl rfl rfl rfl (Nat.le_of_ble_eq_true rfl) rfl ?_
  refine RW.nil ?_
  refine CW.le [(1, Bo ask), (4, .obj b1 [I 0, I 0, I 0, I 0, S (⟨#[]⟩), I 0, I 0, Bo false, S (⟨#[]⟩), .r (.v (.slice none 0 0)), Bo false, I 0, I 0]), (6, .obj b4 [I 1, I iss, I iss, I 0, S (⟨#[]⟩), I 0, I 0, Bo false, S (⟨#[]⟩), .r (.v (.slice none 0 0)), Bo false, I 0, I 0])] rfl (Le.of rfl) ?_
  refine CW.seq ?_
  refine CW.seq ?_
  refine CW.region ?_
  refine RW.v rfl (V.mv (d := Bo ask) rfl rfl) ?_
  refine RW.nil ?_
  refine CW.le [(4, .obj b1 [I 0, I 0, I 0, I 0, S (⟨#[]⟩), I 0, I 0, Bo false, S (⟨#[]⟩), .r (.v (.slice none 0 0)), Bo false, I 0, I 0]), (6, .obj b4 [I 1, I iss, I iss, I 0, S (⟨#[]⟩), I 0, I 0, Bo false, S (⟨#[]⟩), .r (.v (.slice none 0 0)), Bo false, I 0, I 0]), (14, Bo ask)] rfl (Le.of rfl) ?_
  refine CW.cond rfl (fun h5 => ?_) (fun h5 => ?_)
  ·skip
   refine CW.region ?_
   refine RW.v rfl (V.field rfl rfl rfl rfl (by decide) rfl) ?_
   refine RW.store (d := I 2) rfl rfl rfl rfl rfl rfl rfl (Nat.le_of_ble_eq_true rfl) rfl rfl ?_
   refine RW.nil ?_
   refine CW.le [(4, .obj b1 [I 0, I 0, I 0, I 0, S (⟨#[]⟩), I 0, I 0, Bo false, S (⟨#[]⟩), .r (.v (.slice none 0 0)), Bo false, I 0, I 0]), (6, .obj b4 [I 2, I iss, I iss, I 0, S (⟨#[]⟩), I 0, I 0, Bo false, S (⟨#[]⟩), .r (.v (.slice none 0 0)), Bo false, I 0, I 0])] rfl (Le.of rfl) ?_
   refine CW.seq ?_
   refine CW.region ?_
   refine RW.v rfl (V.loadAgg rfl rfl rfl rfl rfl (Nat.le_of_ble_eq_true rfl)) ?_
   refine RW.storeAgg (es := [I 2, I iss, I iss, I 0, S (⟨#[]⟩), I 0, I 0, Bo false, S (⟨#[]⟩), .r (.v (.slice none 0 0)), Bo false, I 0, I 0]) rfl rfl rfl rfl rfl rfl rfl rfl (Nat.le_of_ble_eq_true rfl) rfl ?_
   refine RW.v rfl (V.as (d := Bo true) rfl rfl) ?_
   refine RW.nil ?_
   refine CW.le [(4, .obj b1 [I 2, I iss, I iss, I 0, S (⟨#[]⟩), I 0, I 0, Bo false, S (⟨#[]⟩), .r (.v (.slice none 0 0)), Bo false, I 0, I 0]), (5, Bo true)] rfl (Le.of rfl) ?_
   refine CW.ret ?_
   exact Post.tup (by decide) (RVs.c (RV.c (f := fun e => (Stream.c e).map .w) (e' := (⟨2, iss, iss, 0, ⟨#[]⟩, 0, 0, false, ⟨#[]⟩, [], false, 0, 0⟩ : Stream)) rfl rfl rfl rfl (DT.v (DT.v (DT.v (DT.v (DT.v (DT.v (DT.v (DT.v (DT.v (DT.n (DT.v (DT.v (DT.v DT.e))))))))))))) (by simp_all [streamNew, Stream.z])) (RVs.c (RV.b rfl (by simp_all [streamNew, Stream.z])) RVs.e)) (AOs.r (AOs.r AOs.e))
  ·skip
   refine CW.skip ?_
   refine CW.le [(4, .obj b1 [I 0, I 0, I 0, I 0, S (⟨#[]⟩), I 0, I 0, Bo false, S (⟨#[]⟩), .r (.v (.slice none 0 0)), Bo false, I 0, I 0]), (6, .obj b4 [I 1, I iss, I iss, I 0, S (⟨#[]⟩), I 0, I 0, Bo false, S (⟨#[]⟩), .r (.v (.slice none 0 0)), Bo false, I 0, I 0])] rfl (Le.of rfl) ?_
   refine CW.seq ?_
   refine CW.region ?_
   refine RW.v rfl (V.loadAgg rfl rfl rfl rfl rfl (Nat.le_of_ble_eq_true rfl)) ?_
   refine RW.storeAgg (es := [I 1, I iss, I iss, I 0, S (⟨#[]⟩), I 0, I 0, Bo false, S (⟨#[]⟩), .r (.v (.slice none 0 0)), Bo false, I 0, I 0]) rfl rfl rfl rfl rfl rfl rfl rfl (Nat.le_of_ble_eq_true rfl) rfl ?_
   refine RW.v rfl (V.as (d := Bo true) rfl rfl) ?_
   refine RW.nil ?_
   refine CW.le [(4, .obj b1 [I 1, I iss, I iss, I 0, S (⟨#[]⟩), I 0, I 0, Bo false, S (⟨#[]⟩), .r (.v (.slice none 0 0)), Bo false, I 0, I 0]), (5, Bo true)] rfl (Le.of rfl) ?_
   refine CW.ret ?_
   exact Post.tup (by decide) (RVs.c (RV.c (f := fun e => (Stream.c e).map .w) (e' := (⟨1, iss, iss, 0, ⟨#[]⟩, 0, 0, false, ⟨#[]⟩, [], false, 0, 0⟩ : Stream)) rfl rfl rfl rfl (DT.v (DT.v (DT.v (DT.v (DT.v (DT.v (DT.v (DT.v (DT.v (DT.n (DT.v (DT.v (DT.v DT.e))))))))))))) (by simp_all [streamNew, Stream.z])) (RVs.c (RV.b rfl (by simp_all [streamNew, Stream.z])) RVs.e)) (AOs.r (AOs.r AOs.e))
set_option maxHeartbeats 4000000 in
theorem __impl_Stream__again_fn (x : Stream) (now : Int) (ht : 0 ≤ x.times ∧ x.times ≤ 12) : Eng.Fn E.P 37 [.ob ((Stream.c x).map .w), .one (.r (.v (.int .i64 now)))] (.tup []) [.ob ((Stream.c (againN x now)).map .w), .one (.r (.v (.int .i64 now)))] := by
 refine Eng.Fn.intro (E := E) (rvs := []) Try.func37 rfl rfl rfl (by simp [outSlots, moved, rvSlot, sl]) ?_
 intro B g bo
 refine CW.le [(0, .obj (bo 0) [I x.state, I x.iss, I x.una, I x.rcv, S x.wait, I x.sent, I x.fin, Bo x.peerFin, S x.in_, .w (sl 2 Late.c x.late) (g 0 9), Bo x.owe, I x.due, I x.times]), (1, I now)] rfl (Le.of rfl) ?_
 refine CW.seq ?_
 refine CW.region ?_
 refine RW.v rfl (V.mv (d := .pt 0 (bo 0) 0) rfl rfl) ?_
 refine RW.v rfl (V.mv (d := .pt 0 (bo 0) 0) rfl rfl) ?_
 refine RW.v rfl (V.nilP rfl rfl) ?_
 refine RW.v rfl (V.field rfl rfl rfl rfl (by decide) rfl) ?_
 refine RW.v rfl (V.loadPrim (d := I x.times) rfl rfl (.inl rfl) rfl rfl rfl) ?_
 refine RW.v rfl (V.arInt rfl rfl rfl rfl) ?_
 refine RW.v rfl (V.min2I rfl rfl rfl) ?_
 refine RW.v rfl (V.nilP rfl rfl) ?_
 refine RW.v rfl (V.field rfl rfl rfl rfl (by decide) rfl) ?_
 refine RW.store (d := I (mnI (IntKind.i64.wrap (x.times + 1)) 12)) rfl rfl rfl rfl rfl rfl rfl (Nat.le_of_ble_eq_true rfl) rfl rfl ?_
 refine RW.nil ?_
 refine CW.le [(0, .obj (bo 0) [I x.state, I x.iss, I x.una, I x.rcv, S x.wait, I x.sent, I x.fin, Bo x.peerFin, S x.in_, .w (sl 2 Late.c x.late) (g 0 9), Bo x.owe, I x.due, I (mnI (IntKind.i64.wrap (x.times + 1)) 12)]), (1, I now)] rfl (Le.of rfl) ?_
 refine CW.region ?_
 refine RW.v rfl (V.mv (d := .pt 0 (bo 0) 0) rfl rfl) ?_
 refine RW.v rfl (V.mv (d := I now) rfl rfl) ?_
 refine RW.v rfl (V.mv (d := .pt 0 (bo 0) 0) rfl rfl) ?_
 refine RW.v rfl (V.nilP rfl rfl) ?_
 refine RW.v rfl (V.field rfl rfl rfl rfl (by decide) rfl) ?_
 refine RW.v rfl (V.loadPrim (d := I (mnI (IntKind.i64.wrap (x.times + 1)) 12)) rfl rfl (.inl rfl) rfl rfl rfl) ?_
 refine RW.v rfl (V.shl rfl rfl rfl (by unfold mnI; rw [IntKind.wrap_i64]; split <;> omega)) ?_
 refine RW.v rfl (V.min2I rfl rfl rfl) ?_
 refine RW.v rfl (V.arInt rfl rfl rfl rfl) ?_
 refine RW.v rfl (V.nilP rfl rfl) ?_
 refine RW.v rfl (V.field rfl rfl rfl rfl (by decide) rfl) ?_
 refine RW.store (d := I (IntKind.i64.wrap (now + (mnI 64 (shlI 1 (mnI (IntKind.i64.wrap (x.times + 1)) 12)))))) rfl rfl rfl rfl rfl rfl rfl (Nat.le_of_ble_eq_true rfl) rfl rfl ?_
 refine RW.nil ?_
 exact Post.tup (by decide) RVs.e (AOs.obE (f := fun e => (Stream.c e).map .w) (e' := (⟨x.state, x.iss, x.una, x.rcv, x.wait, x.sent, x.fin, x.peerFin, x.in_, x.late, x.owe, (IntKind.i64.wrap (now + (mnI 64 (shlI 1 (mnI (IntKind.i64.wrap (x.times + 1)) 12))))), (mnI (IntKind.i64.wrap (x.times + 1)) 12)⟩ : Stream)) rfl (DT.v (DT.v (DT.v (DT.v (DT.v (DT.v (DT.v (DT.v (DT.v (DT.w (DT.v (DT.v (DT.v DT.e))))))))))))) (by rfl) (AOs.r AOs.e))
set_option maxHeartbeats 4000000 in
theorem __impl_Stream__reset_fn (x : Stream) : Eng.Fn E.P 70 [.ob ((Stream.c x).map .w)] (.tup []) [.ob ((Stream.c (resetN x)).map .w)] := by
 refine Eng.Fn.intro (E := E) (rvs := []) Try.func70 rfl rfl rfl (by simp [outSlots, moved, rvSlot, sl]) ?_
 intro B g bo
 refine CW.le [(0, .obj (bo 0) [I x.state, I x.iss, I x.una, I x.rcv, S x.wait, I x.sent, I x.fin, Bo x.peerFin, S x.in_, .w (sl 2 Late.c x.late) (g 0 9), Bo x.owe, I x.due, I x.times])] rfl (Le.of rfl) ?_
 refine CW.region ?_
 refine RW.v rfl (V.mv (d := .pt 0 (bo 0) 0) rfl rfl) ?_
 refine RW.v rfl (V.mv (d := .pt 0 (bo 0) 0) rfl rfl) ?_
 refine RW.v rfl (V.nilP rfl rfl) ?_
 refine RW.v rfl (V.field rfl rfl rfl rfl (by decide) rfl) ?_
 refine RW.store (d := I 0) rfl rfl rfl rfl rfl rfl rfl (Nat.le_of_ble_eq_true rfl) rfl rfl ?_
 refine RW.v rfl (V.nilP rfl rfl) ?_
 refine RW.v rfl (V.field rfl rfl rfl rfl (by decide) rfl) ?_
 refine RW.store (d := I 0) rfl rfl rfl rfl rfl rfl rfl (Nat.le_of_ble_eq_true rfl) rfl rfl ?_
 refine RW.nil ?_
 exact Post.tup (by decide) RVs.e (AOs.obE (f := fun e => (Stream.c e).map .w) (e' := (⟨x.state, x.iss, x.una, x.rcv, x.wait, x.sent, x.fin, x.peerFin, x.in_, x.late, x.owe, 0, 0⟩ : Stream)) rfl (DT.v (DT.v (DT.v (DT.v (DT.v (DT.v (DT.v (DT.v (DT.v (DT.w (DT.v (DT.v (DT.v DT.e))))))))))))) (by rfl) AOs.e)
set_option maxHeartbeats 4000000 in
theorem impl_Ended_fn (x : Stream) : Eng.Fn E.P 12 [.agg ((Stream.c x).map .r)] (.one (.one (.w (.v (.bool (x.fin == 3 && x.peerFin)))))) [.agg ((Stream.c x).map .r)] := by
 refine Eng.Fn.intro (E := E) (rvs := [.tmp 2]) Try.func12 rfl rfl rfl (by simp [outSlots, moved, rvSlot, sl]) ?_
 intro B g bo
 refine CW.le [(0, .agg ((Stream.c x).map .r))] rfl (Le.of rfl) ?_
 refine CW.seq ?_
 refine CW.region ?_
 refine RW.box (ds := ((Stream.c x).map .r)) rfl rfl rfl fun b1 => ?_
 refine RW.v rfl (V.as (d := Bo false) rfl rfl) ?_
 refine RW.nil ?_
 refine CW.le [(1, .obj b1 ((Stream.c x).map .r))] rfl (Le.of rfl) ?_
 refine CW.seqJ 10 (fun (v2 : Bool) => [(2, Bo v2)]) (fun v2 => v2 = ((x.fin == 3) && x.peerFin)) ?_ ?_
 ·refine CW.region ?_
  refine RW.v rfl (V.field rfl rfl rfl rfl (by decide) rfl) ?_
  refine RW.v rfl (V.loadPrim (d := I x.fin) rfl rfl (.inl rfl) rfl rfl rfl) ?_
  refine RW.v rfl (V.cmpInt rfl rfl rfl rfl) ?_
  refine RW.v rfl (V.mv (d := Bo (x.fin == 3)) rfl rfl) ?_
  refine RW.gv rfl rfl rfl rfl (fun h3 => V.field rfl rfl rfl rfl (by decide) rfl) (fun h3 => ?_) (fun h3 => ?_)
  ·skip
   refine RW.gt rfl rfl rfl rfl (V.loadPrim (d := Bo x.peerFin) rfl rfl (.inl rfl) rfl rfl rfl) ?_
   refine RW.v rfl (V.pickT (d := Bo x.peerFin) rfl rfl rfl) ?_
   refine RW.v rfl (V.as (d := Bo x.peerFin) rfl rfl) ?_
   refine RW.nil ?_
   exact ⟨_, by first | rfl | (simp_all; done) | (simp_all; omega) | grind, rfl, Le.c rfl <| Le.e⟩
  ·skip
   refine RW.guardF rfl rfl rfl rfl ?_
   refine RW.v rfl (V.pickF (d := Bo false) rfl rfl rfl) ?_
   refine RW.v rfl (V.as (d := Bo false) rfl rfl) ?_
   refine RW.nil ?_
   exact ⟨_, by first | rfl | (simp_all; done) | (simp_all; omega) | grind, rfl, Le.c rfl <| Le.e⟩
 ·intro v2 hv4
  refine CW.ret ?_
  exact Post.one (RV.b rfl (by simp_all)) (AOs.a rfl AOs.e)
set_option maxHeartbeats 4000000 in
theorem __impl_Stream__acked_fn (x : Stream) (a : Int) (hx : sentOk x) : Eng.Fn E.P 91 [.ob ((Stream.c x).map .w), .one (.r (.v (.int .i64 a)))] (.tup []) [.ob ((Stream.c (ackedN x a)).map .w), .one (.r (.v (.int .i64 a)))] := by
 refine Eng.Fn.intro (E := E) (rvs := []) Try.func91 rfl rfl rfl (by simp [outSlots, moved, rvSlot, sl]) ?_
 intro B g bo
 refine CW.le [(0, .obj (bo 0) [I x.state, I x.iss, I x.una, I x.rcv, S x.wait, I x.sent, I x.fin, Bo x.peerFin, S x.in_, .w (sl 2 Late.c x.late) (g 0 9), Bo x.owe, I x.due, I x.times]), (1, I a)] rfl (Le.of rfl) ?_
 refine CW.seq ?_
 refine CW.region ?_
 refine RW.v rfl (V.mv (d := .pt 0 (bo 0) 0) rfl rfl) ?_
 refine RW.v rfl (V.nilP rfl rfl) ?_
 refine RW.v rfl (V.field rfl rfl rfl rfl (by decide) rfl) ?_
 refine RW.v rfl (V.loadPrim (d := I x.una) rfl rfl (.inl rfl) rfl rfl rfl) ?_
 refine RW.v rfl (V.mv (d := I a) rfl rfl) ?_
 refine RW.call rfl (impl_Gap_fn x.una a) rfl (.cons (.one (.r .r)) (.cons (.one (.r .r)) (.nil))) fun g1 => ?_
 refine RW.v rfl (V.as (d := I (gap x.una a)) rfl rfl) ?_
 refine RW.nil ?_
 refine CW.le [(0, .obj (bo 0) [I x.state, I x.iss, I x.una, I x.rcv, S x.wait, I x.sent, I x.fin, Bo x.peerFin, S x.in_, .w (sl 2 Late.c x.late) (g 0 9), Bo x.owe, I x.due, I x.times]), (1, I a), (4, I (gap x.una a))] rfl (Le.of rfl) ?_
 refine CW.seq ?_
 refine CW.seq ?_
 refine CW.drawn (by kernel_rfl) ?_
 refine RQ.v rfl (V.mv (d := I (gap x.una a)) rfl rfl) ?_
 refine RQ.v rfl (V.mv (d := .pt 0 (bo 0) 0) rfl rfl) ?_
 refine RQ.v rfl (V.nilP rfl rfl) ?_
 refine RQ.v rfl (V.field rfl rfl rfl rfl (by decide) rfl) ?_
 refine RQ.v rfl (V.loadPrim (d := I x.sent) rfl rfl (.inl rfl) rfl rfl rfl) ?_
 refine RQ.v rfl (V.mv (d := .pt 0 (bo 0) 0) rfl rfl) ?_
 refine RQ.v rfl (V.nilP rfl rfl) ?_
 refine RQ.v rfl (V.field rfl rfl rfl rfl (by decide) rfl) ?_
 refine RQ.v rfl (V.loadPrim (d := I x.fin) rfl rfl (.inl rfl) rfl rfl rfl) ?_
 refine RQ.v rfl (V.cmpInt rfl rfl rfl rfl) ?_
 refine RQ.cons rfl (QOK.call (impl_flag_fn (x.fin == 2)) rfl (.cons (.one (.r .r)) (.nil)) ?_)
 refine RQ.v rfl (V.arInt rfl rfl rfl rfl) ?_
 refine RQ.cons rfl (QOK.call (impl_within_fn (gap x.una a) 1 (IntKind.i64.wrap (x.sent + (flagN (x.fin == 2))))) rfl (.cons (.one (.r .r)) (.cons (.one (.r .r)) (.cons (.one (.r .r)) (.nil)))) ?_)
 refine RQ.v rfl (V.not rfl rfl) ?_
 refine RQ.nil ?_
 refine CW.le [(0, .obj (bo 0) [I x.state, I x.iss, I x.una, I x.rcv, S x.wait, I x.sent, I x.fin, Bo x.peerFin, S x.in_, .w (sl 2 Late.c x.late) (g 0 9), Bo x.owe, I x.due, I x.times]), (1, I a), (4, I (gap x.una a)), (25, Bo (!(inR (gap x.una a) 1 (IntKind.i64.wrap (x.sent + (flagN (x.fin == 2)))))))] rfl (Le.of rfl) ?_
 refine CW.cond rfl (fun h2 => ?_) (fun h2 => ?_)
 ·skip
  refine CW.ret ?_
  exact Post.tup (by decide) RVs.e (AOs.obE (f := fun e => (Stream.c e).map .w) (e' := x) rfl (DT.v (DT.v (DT.v (DT.v (DT.v (DT.v (DT.v (DT.v (DT.v (DT.w (DT.v (DT.v (DT.v DT.e))))))))))))) (by first | (simp_all [ackedN]; done) | (unfold ackedN; simp_all; done) | (unfold ackedN; grind)) (AOs.r AOs.e))
 ·skip
  refine CW.skip ?_
  refine CW.le [(0, .obj (bo 0) [I x.state, I x.iss, I x.una, I x.rcv, S x.wait, I x.sent, I x.fin, Bo x.peerFin, S x.in_, .w (sl 2 Late.c x.late) (g 0 9), Bo x.owe, I x.due, I x.times]), (1, I a), (4, I (gap x.una a))] rfl (Le.of rfl) ?_
  refine CW.seq ?_
  refine CW.seq ?_
  refine CW.region ?_
  refine RW.v rfl (V.mv (d := I (gap x.una a)) rfl rfl) ?_
  refine RW.v rfl (V.mv (d := .pt 0 (bo 0) 0) rfl rfl) ?_
  refine RW.v rfl (V.nilP rfl rfl) ?_
  refine RW.v rfl (V.field rfl rfl rfl rfl (by decide) rfl) ?_
  refine RW.v rfl (V.loadPrim (d := I x.sent) rfl rfl (.inl rfl) rfl rfl rfl) ?_
  refine RW.v rfl (V.cmpInt rfl rfl rfl rfl) ?_
  refine RW.nil ?_
  refine CW.le [(0, .obj (bo 0) [I x.state, I x.iss, I x.una, I x.rcv, S x.wait, I x.sent, I x.fin, Bo x.peerFin, S x.in_, .w (sl 2 Late.c x.late) (g 0 9), Bo x.owe, I x.due, I x.times]), (1, I a), (4, I (gap x.una a)), (31, Bo (decide ((gap x.una a) > x.sent)))] rfl (Le.of rfl) ?_
  refine CW.cond rfl (fun h3 => ?_) (fun h3 => ?_)
  ·skip
   refine CW.region ?_
   refine RW.v rfl (V.mv (d := .pt 0 (bo 0) 0) rfl rfl) ?_
   refine RW.v rfl (V.nilP rfl rfl) ?_
   refine RW.v rfl (V.field rfl rfl rfl rfl (by decide) rfl) ?_
   refine RW.store (d := I 3) rfl rfl rfl rfl rfl rfl rfl (Nat.le_of_ble_eq_true rfl) rfl rfl ?_
   refine RW.nil ?_
   refine CW.le [(0, .obj (bo 0) [I x.state, I x.iss, I x.una, I x.rcv, S x.wait, I x.sent, I 3, Bo x.peerFin, S x.in_, .w (sl 2 Late.c x.late) (g 0 9), Bo x.owe, I x.due, I x.times]), (1, I a), (4, I (gap x.una a))] rfl (Le.of rfl) ?_
   refine CW.seq ?_
   refine CW.region ?_
   refine RW.v rfl (V.mv (d := I (gap x.una a)) rfl rfl) ?_
   refine RW.v rfl (V.mv (d := .pt 0 (bo 0) 0) rfl rfl) ?_
   refine RW.v rfl (V.nilP rfl rfl) ?_
   refine RW.v rfl (V.field rfl rfl rfl rfl (by decide) rfl) ?_
   refine RW.v rfl (V.loadPrim (d := I x.sent) rfl rfl (.inl rfl) rfl rfl rfl) ?_
   refine RW.v rfl (V.min2I rfl rfl rfl) ?_
   refine RW.v rfl (V.as (d := I (mnI (gap x.una a) x.sent)) rfl rfl) ?_
   refine RW.nil ?_
   refine CW.le [(0, .obj (bo 0) [I x.state, I x.iss, I x.una, I x.rcv, S x.wait, I x.sent, I 3, Bo x.peerFin, S x.in_, .w (sl 2 Late.c x.late) (g 0 9), Bo x.owe, I x.due, I x.times]), (1, I a), (5, I (mnI (gap x.una a) x.sent))] rfl (Le.of rfl) ?_
   refine CW.seq ?_
   refine CW.region ?_
   refine RW.v rfl (V.mv (d := .pt 0 (bo 0) 0) rfl rfl) ?_
   refine RW.v rfl (V.mv (d := .pt 0 (bo 0) 0) rfl rfl) ?_
   refine RW.v rfl (V.nilP rfl rfl) ?_
   refine RW.v rfl (V.field rfl rfl rfl rfl (by decide) rfl) ?_
   refine RW.v rfl (V.loadPrim (d := S x.wait) rfl rfl (.inl rfl) rfl rfl rfl) ?_
   refine RW.v rfl (V.mv (d := I (mnI (gap x.una a) x.sent)) rfl rfl) ?_
   refine RW.v rfl (V.strSlice (l := (mnI (gap x.una a) x.sent)) (h := (x.wait.size : Int)) rfl (by kernel_rfl) rfl (.inr ⟨_, _, rfl, rfl⟩) (.inl ⟨rfl, rfl⟩) (ack_slice hx (by have := h2; simp at this; exact this))) ?_
   refine RW.v rfl (V.nilP rfl rfl) ?_
   refine RW.v rfl (V.field rfl rfl rfl rfl (by decide) rfl) ?_
   refine RW.store (d := S (x.wait.extract (mnI (gap x.una a) x.sent).toNat (x.wait.size : Int).toNat)) rfl rfl rfl rfl rfl rfl rfl (Nat.le_of_ble_eq_true rfl) rfl rfl ?_
   refine RW.nil ?_
   refine CW.le [(0, .obj (bo 0) [I x.state, I x.iss, I x.una, I x.rcv, S (x.wait.extract (mnI (gap x.una a) x.sent).toNat (x.wait.size : Int).toNat), I x.sent, I 3, Bo x.peerFin, S x.in_, .w (sl 2 Late.c x.late) (g 0 9), Bo x.owe, I x.due, I x.times]), (1, I a), (5, I (mnI (gap x.una a) x.sent))] rfl (Le.of rfl) ?_
   refine CW.seq ?_
   refine CW.region ?_
   refine RW.v rfl (V.mv (d := .pt 0 (bo 0) 0) rfl rfl) ?_
   refine RW.v rfl (V.nilP rfl rfl) ?_
   refine RW.v rfl (V.field rfl rfl rfl rfl (by decide) rfl) ?_
   refine RW.v rfl (V.loadPrim (d := I x.sent) rfl rfl (.inl rfl) rfl rfl rfl) ?_
   refine RW.v rfl (V.mv (d := I (mnI (gap x.una a) x.sent)) rfl rfl) ?_
   refine RW.v rfl (V.arInt rfl rfl rfl rfl) ?_
   refine RW.v rfl (V.nilP rfl rfl) ?_
   refine RW.v rfl (V.field rfl rfl rfl rfl (by decide) rfl) ?_
   refine RW.store (d := I (IntKind.i64.wrap (x.sent - (mnI (gap x.una a) x.sent)))) rfl rfl rfl rfl rfl rfl rfl (Nat.le_of_ble_eq_true rfl) rfl rfl ?_
   refine RW.nil ?_
   refine CW.le [(0, .obj (bo 0) [I x.state, I x.iss, I x.una, I x.rcv, S (x.wait.extract (mnI (gap x.una a) x.sent).toNat (x.wait.size : Int).toNat), I (IntKind.i64.wrap (x.sent - (mnI (gap x.una a) x.sent))), I 3, Bo x.peerFin, S x.in_, .w (sl 2 Late.c x.late) (g 0 9), Bo x.owe, I x.due, I x.times]), (1, I a)] rfl (Le.of rfl) ?_
   refine CW.seq ?_
   refine CW.region ?_
   refine RW.v rfl (V.mv (d := .pt 0 (bo 0) 0) rfl rfl) ?_
   refine RW.v rfl (V.mv (d := I a) rfl rfl) ?_
   refine RW.v rfl (V.nilP rfl rfl) ?_
   refine RW.v rfl (V.field rfl rfl rfl rfl (by decide) rfl) ?_
   refine RW.store (d := I a) rfl rfl rfl rfl rfl rfl rfl (Nat.le_of_ble_eq_true rfl) rfl rfl ?_
   refine RW.nil ?_
   refine CW.le [(0, .obj (bo 0) [I x.state, I x.iss, I a, I x.rcv, S (x.wait.extract (mnI (gap x.una a) x.sent).toNat (x.wait.size : Int).toNat), I (IntKind.i64.wrap (x.sent - (mnI (gap x.una a) x.sent))), I 3, Bo x.peerFin, S x.in_, .w (sl 2 Late.c x.late) (g 0 9), Bo x.owe, I x.due, I x.times])] rfl (Le.of rfl) ?_
   refine CW.region ?_
   refine RW.v rfl (V.mv (d := .pt 0 (bo 0) 0) rfl rfl) ?_
   refine RW.v rfl (V.nilP rfl rfl) ?_
   refine RW.v rfl (V.field rfl rfl rfl rfl (by decide) rfl) ?_
   refine RW.store (d := I 0) rfl rfl rfl rfl rfl rfl rfl (Nat.le_of_ble_eq_true rfl) rfl rfl ?_
   refine RW.nil ?_
   exact Post.tup (by decide) RVs.e (AOs.obE (f := fun e => (Stream.c e).map .w) (e' := (⟨x.state, x.iss, a, x.rcv, (x.wait.extract (mnI (gap x.una a) x.sent).toNat (x.wait.size : Int).toNat), (IntKind.i64.wrap (x.sent - (mnI (gap x.una a) x.sent))), 3, x.peerFin, x.in_, x.late, x.owe, x.due, 0⟩ : Stream)) rfl (DT.v (DT.v (DT.v (DT.v (DT.v (DT.v (DT.v (DT.v (DT.v (DT.w (DT.v (DT.v (DT.v DT.e))))))))))))) (by first | (simp_all [ackedN]; done) | (unfold ackedN; simp_all; done) | (unfold ackedN; grind)) (AOs.r AOs.e))
  ·skip
   refine CW.skip ?_
   refine CW.le [(0, .obj (bo 0) [I x.state, I x.iss, I x.una, I x.rcv, S x.wait, I x.sent, I x.fin, Bo x.peerFin, S x.in_, .w (sl 2 Late.c x.late) (g 0 9), Bo x.owe, I x.due, I x.times]), (1, I a), (4, I (gap x.una a))] rfl (Le.of rfl) ?_
   refine CW.seq ?_
   refine CW.region ?_
   refine RW.v rfl (V.mv (d := I (gap x.una a)) rfl rfl) ?_
   refine RW.v rfl (V.mv (d := .pt 0 (bo 0) 0) rfl rfl) ?_
   refine RW.v rfl (V.nilP rfl rfl) ?_
   refine RW.v rfl (V.field rfl rfl rfl rfl (by decide) rfl) ?_
   refine RW.v rfl (V.loadPrim (d := I x.sent) rfl rfl (.inl rfl) rfl rfl rfl) ?_
   refine RW.v rfl (V.min2I rfl rfl rfl) ?_
   refine RW.v rfl (V.as (d := I (mnI (gap x.una a) x.sent)) rfl rfl) ?_
   refine RW.nil ?_
   refine CW.le [(0, .obj (bo 0) [I x.state, I x.iss, I x.una, I x.rcv, S x.wait, I x.sent, I x.fin, Bo x.peerFin, S x.in_, .w (sl 2 Late.c x.late) (g 0 9), Bo x.owe, I x.due, I x.times]), (1, I a), (5, I (mnI (gap x.una a) x.sent))] rfl (Le.of rfl) ?_
   refine CW.seq ?_
   refine CW.region ?_
   refine RW.v rfl (V.mv (d := .pt 0 (bo 0) 0) rfl rfl) ?_
   refine RW.v rfl (V.mv (d := .pt 0 (bo 0) 0) rfl rfl) ?_
   refine RW.v rfl (V.nilP rfl rfl) ?_
   refine RW.v rfl (V.field rfl rfl rfl rfl (by decide) rfl) ?_
   refine RW.v rfl (V.loadPrim (d := S x.wait) rfl rfl (.inl rfl) rfl rfl rfl) ?_
   refine RW.v rfl (V.mv (d := I (mnI (gap x.una a) x.sent)) rfl rfl) ?_
   refine RW.v rfl (V.strSlice (l := (mnI (gap x.una a) x.sent)) (h := (x.wait.size : Int)) rfl (by kernel_rfl) rfl (.inr ⟨_, _, rfl, rfl⟩) (.inl ⟨rfl, rfl⟩) (ack_slice hx (by have := h2; simp at this; exact this))) ?_
   refine RW.v rfl (V.nilP rfl rfl) ?_
   refine RW.v rfl (V.field rfl rfl rfl rfl (by decide) rfl) ?_
   refine RW.store (d := S (x.wait.extract (mnI (gap x.una a) x.sent).toNat (x.wait.size : Int).toNat)) rfl rfl rfl rfl rfl rfl rfl (Nat.le_of_ble_eq_true rfl) rfl rfl ?_
   refine RW.nil ?_
   refine CW.le [(0, .obj (bo 0) [I x.state, I x.iss, I x.una, I x.rcv, S (x.wait.extract (mnI (gap x.una a) x.sent).toNat (x.wait.size : Int).toNat), I x.sent, I x.fin, Bo x.peerFin, S x.in_, .w (sl 2 Late.c x.late) (g 0 9), Bo x.owe, I x.due, I x.times]), (1, I a), (5, I (mnI (gap x.una a) x.sent))] rfl (Le.of rfl) ?_
   refine CW.seq ?_
   refine CW.region ?_
   refine RW.v rfl (V.mv (d := .pt 0 (bo 0) 0) rfl rfl) ?_
   refine RW.v rfl (V.nilP rfl rfl) ?_
   refine RW.v rfl (V.field rfl rfl rfl rfl (by decide) rfl) ?_
   refine RW.v rfl (V.loadPrim (d := I x.sent) rfl rfl (.inl rfl) rfl rfl rfl) ?_
   refine RW.v rfl (V.mv (d := I (mnI (gap x.una a) x.sent)) rfl rfl) ?_
   refine RW.v rfl (V.arInt rfl rfl rfl rfl) ?_
   refine RW.v rfl (V.nilP rfl rfl) ?_
   refine RW.v rfl (V.field rfl rfl rfl rfl (by decide) rfl) ?_
   refine RW.store (d := I (IntKind.i64.wrap (x.sent - (mnI (gap x.una a) x.sent)))) rfl rfl rfl rfl rfl rfl rfl (Nat.le_of_ble_eq_true rfl) rfl rfl ?_
   refine RW.nil ?_
   refine CW.le [(0, .obj (bo 0) [I x.state, I x.iss, I x.una, I x.rcv, S (x.wait.extract (mnI (gap x.una a) x.sent).toNat (x.wait.size : Int).toNat), I (IntKind.i64.wrap (x.sent - (mnI (gap x.una a) x.sent))), I x.fin, Bo x.peerFin, S x.in_, .w (sl 2 Late.c x.late) (g 0 9), Bo x.owe, I x.due, I x.times]), (1, I a)] rfl (Le.of rfl) ?_
   refine CW.seq ?_
   refine CW.region ?_
   refine RW.v rfl (V.mv (d := .pt 0 (bo 0) 0) rfl rfl) ?_
   refine RW.v rfl (V.mv (d := I a) rfl rfl) ?_
   refine RW.v rfl (V.nilP rfl rfl) ?_
   refine RW.v rfl (V.field rfl rfl rfl rfl (by decide) rfl) ?_
   refine RW.store (d := I a) rfl rfl rfl rfl rfl rfl rfl (Nat.le_of_ble_eq_true rfl) rfl rfl ?_
   refine RW.nil ?_
   refine CW.le [(0, .obj (bo 0) [I x.state, I x.iss, I a, I x.rcv, S (x.wait.extract (mnI (gap x.una a) x.sent).toNat (x.wait.size : Int).toNat), I (IntKind.i64.wrap (x.sent - (mnI (gap x.una a) x.sent))), I x.fin, Bo x.peerFin, S x.in_, .w (sl 2 Late.c x.late) (g 0 9), Bo x.owe, I x.due, I x.times])] rfl (Le.of rfl) ?_
   refine CW.region ?_
   refine RW.v rfl (V.mv (d := .pt 0 (bo 0) 0) rfl rfl) ?_
   refine RW.v rfl (V.nilP rfl rfl) ?_
   refine RW.v rfl (V.field rfl rfl rfl rfl (by decide) rfl) ?_
   refine RW.store (d := I 0) rfl rfl rfl rfl rfl rfl rfl (Nat.le_of_ble_eq_true rfl) rfl rfl ?_
   refine RW.nil ?_
   exact Post.tup (by decide) RVs.e (AOs.obE (f := fun e => (Stream.c e).map .w) (e' := (⟨x.state, x.iss, a, x.rcv, (x.wait.extract (mnI (gap x.una a) x.sent).toNat (x.wait.size : Int).toNat), (IntKind.i64.wrap (x.sent - (mnI (gap x.una a) x.sent))), x.fin, x.peerFin, x.in_, x.late, x.owe, x.due, 0⟩ : Stream)) rfl (DT.v (DT.v (DT.v (DT.v (DT.v (DT.v (DT.v (DT.v (DT.v (DT.w (DT.v (DT.v (DT.v DT.e))))))))))))) (by first | (simp_all [ackedN]; done) | (unfold ackedN; simp_all; done) | (unfold ackedN; grind)) (AOs.r AOs.e))
set_option maxHeartbeats 4000000 in
theorem __impl_Stream__hearOpen_fn (x : Stream) (s : Seg) (hx : sentOk x) (hs : segOk s = true) (hb : emp s.body = true) : Eng.Fn E.P 71 [.ob ((Stream.c x).map .w), .agg ((Seg.c s).map .r)] (.tup []) [.ob ((Stream.c (hearOpenN x s)).map .w), .agg ((Seg.c s).map .r)] := by
 refine Eng.Fn.intro (E := E) (rvs := []) Try.func71 rfl rfl rfl (by simp [outSlots, moved, rvSlot, sl]) ?_
 intro B g bo
 refine CW.le [(0, .obj (bo 0) [I x.state, I x.iss, I x.una, I x.rcv, S x.wait, I x.sent, I x.fin, Bo x.peerFin, S x.in_, .w (sl 2 Late.c x.late) (g 0 9), Bo x.owe, I x.due, I x.times]), (1, .agg ((Seg.c s).map .r))] rfl (Le.of rfl) ?_
 have hbt := bits_in (segOk_flags hs)
 refine CW.seq ?_
 refine CW.region ?_
 refine RW.box (ds := ((Seg.c s).map .r)) rfl rfl rfl fun b1 => ?_
 refine RW.nil ?_
 refine CW.le [(0, .obj (bo 0) [I x.state, I x.iss, I x.una, I x.rcv, S x.wait, I x.sent, I x.fin, Bo x.peerFin, S x.in_, .w (sl 2 Late.c x.late) (g 0 9), Bo x.owe, I x.due, I x.times]), (3, .obj b1 ((Seg.c s).map .r))] rfl (Le.of rfl) ?_
 refine CW.seq ?_
 refine CW.seq ?_
 refine CW.region ?_
 refine RW.v rfl (V.field rfl rfl rfl rfl (by decide) rfl) ?_
 refine RW.v rfl (V.loadPrim (d := I s.flags) rfl rfl (.inl rfl) rfl rfl rfl) ?_
 refine RW.v rfl (V.bits rfl rfl rfl rfl) ?_
 refine RW.v rfl (V.cmpInt rfl rfl rfl rfl) ?_
 refine RW.nil ?_
 refine CW.le [(0, .obj (bo 0) [I x.state, I x.iss, I x.una, I x.rcv, S x.wait, I x.sent, I x.fin, Bo x.peerFin, S x.in_, .w (sl 2 Late.c x.late) (g 0 9), Bo x.owe, I x.due, I x.times]), (3, .obj b1 ((Seg.c s).map .r)), (7, Bo ((andI s.flags 2) != 0))] rfl (Le.of rfl) ?_
 refine CW.cond rfl (fun h2 => ?_) (fun h2 => ?_)
 ·skip
  refine CW.region ?_
  refine RW.v rfl (V.mv (d := .pt 0 (bo 0) 0) rfl rfl) ?_
  refine RW.v rfl (V.field rfl rfl rfl rfl (by decide) rfl) ?_
  refine RW.v rfl (V.loadPrim (d := I s.ack) rfl rfl (.inl rfl) rfl rfl rfl) ?_
  refine RW.callW (k := 0) (__impl_Stream__acked_fn x s.ack hx) rfl rfl (Nat.le_of_ble_eq_true rfl) (by decide) (.here (AsW.ob (DT.v (DT.v (DT.v (DT.v (DT.v (DT.v (DT.v (DT.v (DT.v (DT.w (DT.v (DT.v (DT.v DT.e))))))))))))) rfl) (.cons (.one (.r .r)) (.nil))) rfl fun g3 q4 => ?_
  refine RW.nil ?_
  refine CW.le [(0, .obj (bo 0) [I ((ackedN x s.ack).state), I ((ackedN x s.ack).iss), I ((ackedN x s.ack).una), I ((ackedN x s.ack).rcv), S ((ackedN x s.ack).wait), I ((ackedN x s.ack).sent), I ((ackedN x s.ack).fin), Bo ((ackedN x s.ack).peerFin), S ((ackedN x s.ack).in_), .w (sl 2 Late.c ((ackedN x s.ack).late)) (q4 9), Bo ((ackedN x s.ack).owe), I ((ackedN x s.ack).due), I ((ackedN x s.ack).times)]), (3, .obj b1 ((Seg.c s).map .r))] rfl (Le.of rfl) ?_
  refine CW.seq ?_
  refine CW.seq ?_
  refine CW.region ?_
  refine RW.v rfl (V.field rfl rfl rfl rfl (by decide) rfl) ?_
  refine RW.v rfl (V.loadPrim (d := S s.body) rfl rfl (.inl rfl) rfl rfl rfl) ?_
  refine RW.v rfl (V.strCmp rfl rfl rfl rfl) ?_
  refine RW.nil ?_
  refine CW.le [(0, .obj (bo 0) [I ((ackedN x s.ack).state), I ((ackedN x s.ack).iss), I ((ackedN x s.ack).una), I ((ackedN x s.ack).rcv), S ((ackedN x s.ack).wait), I ((ackedN x s.ack).sent), I ((ackedN x s.ack).fin), Bo ((ackedN x s.ack).peerFin), S ((ackedN x s.ack).in_), .w (sl 2 Late.c ((ackedN x s.ack).late)) (q4 9), Bo ((ackedN x s.ack).owe), I ((ackedN x s.ack).due), I ((ackedN x s.ack).times)]), (3, .obj b1 ((Seg.c s).map .r)), (14, Bo (!(s.body.toList == (⟨#[]⟩ : ByteArray).toList)))] rfl (Le.of rfl) ?_
  refine CW.cond rfl (fun h5 => ?_) (fun h5 => ?_)
  ·skip
   exfalso; simp [emp] at hb; simp [hb] at h5
  ·skip
   refine CW.skip ?_
   refine CW.le [(0, .obj (bo 0) [I ((ackedN x s.ack).state), I ((ackedN x s.ack).iss), I ((ackedN x s.ack).una), I ((ackedN x s.ack).rcv), S ((ackedN x s.ack).wait), I ((ackedN x s.ack).sent), I ((ackedN x s.ack).fin), Bo ((ackedN x s.ack).peerFin), S ((ackedN x s.ack).in_), .w (sl 2 Late.c ((ackedN x s.ack).late)) (q4 9), Bo ((ackedN x s.ack).owe), I ((ackedN x s.ack).due), I ((ackedN x s.ack).times)]), (3, .obj b1 ((Seg.c s).map .r))] rfl (Le.of rfl) ?_
   refine CW.seq ?_
   refine CW.seq ?_
   refine CW.region ?_
   refine RW.v rfl (V.field rfl rfl rfl rfl (by decide) rfl) ?_
   refine RW.v rfl (V.loadPrim (d := I s.flags) rfl rfl (.inl rfl) rfl rfl rfl) ?_
   refine RW.v rfl (V.bits rfl rfl rfl rfl) ?_
   refine RW.v rfl (V.cmpInt rfl rfl rfl rfl) ?_
   refine RW.nil ?_
   refine CW.le [(0, .obj (bo 0) [I ((ackedN x s.ack).state), I ((ackedN x s.ack).iss), I ((ackedN x s.ack).una), I ((ackedN x s.ack).rcv), S ((ackedN x s.ack).wait), I ((ackedN x s.ack).sent), I ((ackedN x s.ack).fin), Bo ((ackedN x s.ack).peerFin), S ((ackedN x s.ack).in_), .w (sl 2 Late.c ((ackedN x s.ack).late)) (q4 9), Bo ((ackedN x s.ack).owe), I ((ackedN x s.ack).due), I ((ackedN x s.ack).times)]), (3, .obj b1 ((Seg.c s).map .r)), (24, Bo ((andI s.flags 4) == 0))] rfl (Le.of rfl) ?_
   refine CW.cond rfl (fun h6 => ?_) (fun h6 => ?_)
   ·skip
    refine CW.ret ?_
    exact Post.tup (by decide) RVs.e (AOs.obE (f := fun e => (Stream.c e).map .w) (e' := (ackedN x s.ack)) rfl (DT.v (DT.v (DT.v (DT.v (DT.v (DT.v (DT.v (DT.v (DT.v (DT.w (DT.v (DT.v (DT.v DT.e))))))))))))) (by unfold hearOpenN; rw [hb]; unfold finN; first | (simp_all; done) | grind) (AOs.a rfl AOs.e))
   ·skip
    refine CW.skip ?_
    refine CW.le [(0, .obj (bo 0) [I ((ackedN x s.ack).state), I ((ackedN x s.ack).iss), I ((ackedN x s.ack).una), I ((ackedN x s.ack).rcv), S ((ackedN x s.ack).wait), I ((ackedN x s.ack).sent), I ((ackedN x s.ack).fin), Bo ((ackedN x s.ack).peerFin), S ((ackedN x s.ack).in_), .w (sl 2 Late.c ((ackedN x s.ack).late)) (q4 9), Bo ((ackedN x s.ack).owe), I ((ackedN x s.ack).due), I ((ackedN x s.ack).times)]), (3, .obj b1 ((Seg.c s).map .r))] rfl (Le.of rfl) ?_
    refine CW.seq ?_
    refine CW.region ?_
    refine RW.v rfl (V.mv (d := .pt 0 (bo 0) 0) rfl rfl) ?_
    refine RW.v rfl (V.nilP rfl rfl) ?_
    refine RW.v rfl (V.field rfl rfl rfl rfl (by decide) rfl) ?_
    refine RW.store (d := Bo true) rfl rfl rfl rfl rfl rfl rfl (Nat.le_of_ble_eq_true rfl) rfl rfl ?_
    refine RW.nil ?_
    refine CW.le [(0, .obj (bo 0) [I ((ackedN x s.ack).state), I ((ackedN x s.ack).iss), I ((ackedN x s.ack).una), I ((ackedN x s.ack).rcv), S ((ackedN x s.ack).wait), I ((ackedN x s.ack).sent), I ((ackedN x s.ack).fin), Bo ((ackedN x s.ack).peerFin), S ((ackedN x s.ack).in_), .w (sl 2 Late.c ((ackedN x s.ack).late)) (q4 9), Bo true, I ((ackedN x s.ack).due), I ((ackedN x s.ack).times)]), (3, .obj b1 ((Seg.c s).map .r))] rfl (Le.of rfl) ?_
    refine CW.seqJ 57 (fun (v7 : Bool) => [(0, .obj (bo 0) [I ((ackedN x s.ack).state), I ((ackedN x s.ack).iss), I ((ackedN x s.ack).una), I ((ackedN x s.ack).rcv), S ((ackedN x s.ack).wait), I ((ackedN x s.ack).sent), I ((ackedN x s.ack).fin), Bo ((ackedN x s.ack).peerFin), S ((ackedN x s.ack).in_), .w (sl 2 Late.c ((ackedN x s.ack).late)) (q4 9), Bo true, I ((ackedN x s.ack).due), I ((ackedN x s.ack).times)]), (45, Bo v7)]) (fun v7 => v7 = (((addNum s.num (s.body.size : Int)) == (ackedN x s.ack).rcv) && (!(ackedN x s.ack).peerFin))) ?_ ?_
    ·refine CW.drawn (by kernel_rfl) ?_
     refine RQ.v rfl (V.field rfl rfl rfl rfl (by decide) rfl) ?_
     refine RQ.v rfl (V.loadPrim (d := I s.num) rfl rfl (.inl rfl) rfl rfl rfl) ?_
     refine RQ.v rfl (V.field rfl rfl rfl rfl (by decide) rfl) ?_
     refine RQ.v rfl (V.loadPrim (d := S s.body) rfl rfl (.inl rfl) rfl rfl rfl) ?_
     refine RQ.v rfl (V.lenStr rfl (by kernel_rfl) rfl) ?_
     refine RQ.cons rfl (QOK.call (impl_AddNum_fn s.num (s.body.size : Int)) rfl (.cons (.one (.r .r)) (.cons (.one (.r .r)) (.nil))) ?_)
     refine RQ.v rfl (V.mv (d := .pt 0 (bo 0) 0) rfl rfl) ?_
     refine RQ.v rfl (V.nilP rfl rfl) ?_
     refine RQ.v rfl (V.field rfl rfl rfl rfl (by decide) rfl) ?_
     refine RQ.v rfl (V.loadPrim (d := I ((ackedN x s.ack).rcv)) rfl rfl (.inl rfl) rfl rfl rfl) ?_
     refine RQ.v rfl (V.cmpInt rfl rfl rfl rfl) ?_
     refine RQ.v rfl (V.mv (d := Bo ((addNum s.num (s.body.size : Int)) == (ackedN x s.ack).rcv)) rfl rfl) ?_
     refine RQ.gv rfl rfl rfl rfl (fun h8 => V.mv (d := .pt 0 (bo 0) 0) rfl rfl) (fun h8 => ?_) (fun h8 => ?_)
     ·skip
      refine RQ.gt rfl rfl rfl rfl (V.nilP rfl rfl) ?_
      refine RQ.gt rfl rfl rfl rfl (V.field rfl rfl rfl rfl (by decide) rfl) ?_
      refine RQ.gt rfl rfl rfl rfl (V.loadPrim (d := Bo ((ackedN x s.ack).peerFin)) rfl rfl (.inl rfl) rfl rfl rfl) ?_
      refine RQ.gt rfl rfl rfl rfl (V.not rfl rfl) ?_
      refine RQ.v rfl (V.pickT (d := Bo (!(ackedN x s.ack).peerFin)) rfl rfl rfl) ?_
      refine RQ.nil ?_
      exact ⟨_, by first | rfl | (simp_all; done) | (simp_all; omega) | grind, rfl, Le.c rfl <| Le.c rfl <| Le.e⟩
     ·skip
      refine RQ.guardF rfl rfl rfl rfl ?_
      refine RQ.guardF rfl rfl rfl rfl ?_
      refine RQ.guardF rfl rfl rfl rfl ?_
      refine RQ.guardF rfl rfl rfl rfl ?_
      refine RQ.v rfl (V.pickF (d := Bo false) rfl rfl rfl) ?_
      refine RQ.nil ?_
      exact ⟨_, by first | rfl | (simp_all; done) | (simp_all; omega) | grind, rfl, Le.c rfl <| Le.c rfl <| Le.e⟩
    ·intro v7 hv9
     refine CW.cond rfl (fun h10 => ?_) (fun h10 => ?_)
     ·skip
      refine CW.region ?_
      refine RW.v rfl (V.mv (d := .pt 0 (bo 0) 0) rfl rfl) ?_
      refine RW.v rfl (V.mv (d := .pt 0 (bo 0) 0) rfl rfl) ?_
      refine RW.v rfl (V.mv (d := .pt 0 (bo 0) 0) rfl rfl) ?_
      refine RW.v rfl (V.nilP rfl rfl) ?_
      refine RW.v rfl (V.field rfl rfl rfl rfl (by decide) rfl) ?_
      refine RW.v rfl (V.loadPrim (d := I ((ackedN x s.ack).rcv)) rfl rfl (.inl rfl) rfl rfl rfl) ?_
      refine RW.call rfl (impl_AddNum_fn ((ackedN x s.ack).rcv) 1) rfl (.cons (.one (.r .r)) (.cons (.one (.r .r)) (.nil))) fun g11 => ?_
      refine RW.v rfl (V.nilP rfl rfl) ?_
      refine RW.v rfl (V.field rfl rfl rfl rfl (by decide) rfl) ?_
      refine RW.store (d := Bo true) rfl rfl rfl rfl rfl rfl rfl (Nat.le_of_ble_eq_true rfl) rfl rfl ?_
      refine RW.v rfl (V.nilP rfl rfl) ?_
      refine RW.v rfl (V.field rfl rfl rfl rfl (by decide) rfl) ?_
      refine RW.store (d := I (addNum ((ackedN x s.ack).rcv) 1)) rfl rfl rfl rfl rfl rfl rfl (Nat.le_of_ble_eq_true rfl) rfl rfl ?_
      refine RW.nil ?_
      exact Post.tup (by decide) RVs.e (AOs.obE (f := fun e => (Stream.c e).map .w) (e' := (⟨(ackedN x s.ack).state, (ackedN x s.ack).iss, (ackedN x s.ack).una, (addNum ((ackedN x s.ack).rcv) 1), (ackedN x s.ack).wait, (ackedN x s.ack).sent, (ackedN x s.ack).fin, true, (ackedN x s.ack).in_, (ackedN x s.ack).late, true, (ackedN x s.ack).due, (ackedN x s.ack).times⟩ : Stream)) rfl (DT.v (DT.v (DT.v (DT.v (DT.v (DT.v (DT.v (DT.v (DT.v (DT.w (DT.v (DT.v (DT.v DT.e))))))))))))) (by unfold hearOpenN; rw [hb]; unfold finN; first | (simp_all; done) | grind) (AOs.a rfl AOs.e))
     ·skip
      refine CW.skip ?_
      exact Post.tup (by decide) RVs.e (AOs.obE (f := fun e => (Stream.c e).map .w) (e' := (⟨(ackedN x s.ack).state, (ackedN x s.ack).iss, (ackedN x s.ack).una, (ackedN x s.ack).rcv, (ackedN x s.ack).wait, (ackedN x s.ack).sent, (ackedN x s.ack).fin, (ackedN x s.ack).peerFin, (ackedN x s.ack).in_, (ackedN x s.ack).late, true, (ackedN x s.ack).due, (ackedN x s.ack).times⟩ : Stream)) rfl (DT.v (DT.v (DT.v (DT.v (DT.v (DT.v (DT.v (DT.v (DT.v (DT.w (DT.v (DT.v (DT.v DT.e))))))))))))) (by unfold hearOpenN; rw [hb]; unfold finN; first | (simp_all; done) | grind) (AOs.a rfl AOs.e))
 ·skip
  refine CW.skip ?_
  refine CW.le [(0, .obj (bo 0) [I x.state, I x.iss, I x.una, I x.rcv, S x.wait, I x.sent, I x.fin, Bo x.peerFin, S x.in_, .w (sl 2 Late.c x.late) (g 0 9), Bo x.owe, I x.due, I x.times]), (3, .obj b1 ((Seg.c s).map .r))] rfl (Le.of rfl) ?_
  refine CW.seq ?_
  refine CW.seq ?_
  refine CW.region ?_
  refine RW.v rfl (V.field rfl rfl rfl rfl (by decide) rfl) ?_
  refine RW.v rfl (V.loadPrim (d := S s.body) rfl rfl (.inl rfl) rfl rfl rfl) ?_
  refine RW.v rfl (V.strCmp rfl rfl rfl rfl) ?_
  refine RW.nil ?_
  refine CW.le [(0, .obj (bo 0) [I x.state, I x.iss, I x.una, I x.rcv, S x.wait, I x.sent, I x.fin, Bo x.peerFin, S x.in_, .w (sl 2 Late.c x.late) (g 0 9), Bo x.owe, I x.due, I x.times]), (3, .obj b1 ((Seg.c s).map .r)), (14, Bo (!(s.body.toList == (⟨#[]⟩ : ByteArray).toList)))] rfl (Le.of rfl) ?_
  refine CW.cond rfl (fun h12 => ?_) (fun h12 => ?_)
  ·skip
   exfalso; simp [emp] at hb; simp [hb] at h12
  ·skip
   refine CW.skip ?_
   refine CW.le [(0, .obj (bo 0) [I x.state, I x.iss, I x.una, I x.rcv, S x.wait, I x.sent, I x.fin, Bo x.peerFin, S x.in_, .w (sl 2 Late.c x.late) (g 0 9), Bo x.owe, I x.due, I x.times]), (3, .obj b1 ((Seg.c s).map .r))] rfl (Le.of rfl) ?_
   refine CW.seq ?_
   refine CW.seq ?_
   refine CW.region ?_
   refine RW.v rfl (V.field rfl rfl rfl rfl (by decide) rfl) ?_
   refine RW.v rfl (V.loadPrim (d := I s.flags) rfl rfl (.inl rfl) rfl rfl rfl) ?_
   refine RW.v rfl (V.bits rfl rfl rfl rfl) ?_
   refine RW.v rfl (V.cmpInt rfl rfl rfl rfl) ?_
   refine RW.nil ?_
   refine CW.le [(0, .obj (bo 0) [I x.state, I x.iss, I x.una, I x.rcv, S x.wait, I x.sent, I x.fin, Bo x.peerFin, S x.in_, .w (sl 2 Late.c x.late) (g 0 9), Bo x.owe, I x.due, I x.times]), (3, .obj b1 ((Seg.c s).map .r)), (24, Bo ((andI s.flags 4) == 0))] rfl (Le.of rfl) ?_
   refine CW.cond rfl (fun h13 => ?_) (fun h13 => ?_)
   ·skip
    refine CW.ret ?_
    exact Post.tup (by decide) RVs.e (AOs.obE (f := fun e => (Stream.c e).map .w) (e' := x) rfl (DT.v (DT.v (DT.v (DT.v (DT.v (DT.v (DT.v (DT.v (DT.v (DT.w (DT.v (DT.v (DT.v DT.e))))))))))))) (by unfold hearOpenN; rw [hb]; unfold finN; first | (simp_all; done) | grind) (AOs.a rfl AOs.e))
   ·skip
    refine CW.skip ?_
    refine CW.le [(0, .obj (bo 0) [I x.state, I x.iss, I x.una, I x.rcv, S x.wait, I x.sent, I x.fin, Bo x.peerFin, S x.in_, .w (sl 2 Late.c x.late) (g 0 9), Bo x.owe, I x.due, I x.times]), (3, .obj b1 ((Seg.c s).map .r))] rfl (Le.of rfl) ?_
    refine CW.seq ?_
    refine CW.region ?_
    refine RW.v rfl (V.mv (d := .pt 0 (bo 0) 0) rfl rfl) ?_
    refine RW.v rfl (V.nilP rfl rfl) ?_
    refine RW.v rfl (V.field rfl rfl rfl rfl (by decide) rfl) ?_
    refine RW.store (d := Bo true) rfl rfl rfl rfl rfl rfl rfl (Nat.le_of_ble_eq_true rfl) rfl rfl ?_
    refine RW.nil ?_
    refine CW.le [(0, .obj (bo 0) [I x.state, I x.iss, I x.una, I x.rcv, S x.wait, I x.sent, I x.fin, Bo x.peerFin, S x.in_, .w (sl 2 Late.c x.late) (g 0 9), Bo true, I x.due, I x.times]), (3, .obj b1 ((Seg.c s).map .r))] rfl (Le.of rfl) ?_
    refine CW.seqJ 57 (fun (v14 : Bool) => [(0, .obj (bo 0) [I x.state, I x.iss, I x.una, I x.rcv, S x.wait, I x.sent, I x.fin, Bo x.peerFin, S x.in_, .w (sl 2 Late.c x.late) (g 0 9), Bo true, I x.due, I x.times]), (45, Bo v14)]) (fun v14 => v14 = (((addNum s.num (s.body.size : Int)) == x.rcv) && (!x.peerFin))) ?_ ?_
    ·refine CW.drawn (by kernel_rfl) ?_
     refine RQ.v rfl (V.field rfl rfl rfl rfl (by decide) rfl) ?_
     refine RQ.v rfl (V.loadPrim (d := I s.num) rfl rfl (.inl rfl) rfl rfl rfl) ?_
     refine RQ.v rfl (V.field rfl rfl rfl rfl (by decide) rfl) ?_
     refine RQ.v rfl (V.loadPrim (d := S s.body) rfl rfl (.inl rfl) rfl rfl rfl) ?_
     refine RQ.v rfl (V.lenStr rfl (by kernel_rfl) rfl) ?_
     refine RQ.cons rfl (QOK.call (impl_AddNum_fn s.num (s.body.size : Int)) rfl (.cons (.one (.r .r)) (.cons (.one (.r .r)) (.nil))) ?_)
     refine RQ.v rfl (V.mv (d := .pt 0 (bo 0) 0) rfl rfl) ?_
     refine RQ.v rfl (V.nilP rfl rfl) ?_
     refine RQ.v rfl (V.field rfl rfl rfl rfl (by decide) rfl) ?_
     refine RQ.v rfl (V.loadPrim (d := I x.rcv) rfl rfl (.inl rfl) rfl rfl rfl) ?_
     refine RQ.v rfl (V.cmpInt rfl rfl rfl rfl) ?_
     refine RQ.v rfl (V.mv (d := Bo ((addNum s.num (s.body.size : Int)) == x.rcv)) rfl rfl) ?_
     refine RQ.gv rfl rfl rfl rfl (fun h15 => V.mv (d := .pt 0 (bo 0) 0) rfl rfl) (fun h15 => ?_) (fun h15 => ?_)
     ·skip
      refine RQ.gt rfl rfl rfl rfl (V.nilP rfl rfl) ?_
      refine RQ.gt rfl rfl rfl rfl (V.field rfl rfl rfl rfl (by decide) rfl) ?_
      refine RQ.gt rfl rfl rfl rfl (V.loadPrim (d := Bo x.peerFin) rfl rfl (.inl rfl) rfl rfl rfl) ?_
      refine RQ.gt rfl rfl rfl rfl (V.not rfl rfl) ?_
      refine RQ.v rfl (V.pickT (d := Bo (!x.peerFin)) rfl rfl rfl) ?_
      refine RQ.nil ?_
      exact ⟨_, by first | rfl | (simp_all; done) | (simp_all; omega) | grind, rfl, Le.c rfl <| Le.c rfl <| Le.e⟩
     ·skip
      refine RQ.guardF rfl rfl rfl rfl ?_
      refine RQ.guardF rfl rfl rfl rfl ?_
      refine RQ.guardF rfl rfl rfl rfl ?_
      refine RQ.guardF rfl rfl rfl rfl ?_
      refine RQ.v rfl (V.pickF (d := Bo false) rfl rfl rfl) ?_
      refine RQ.nil ?_
      exact ⟨_, by first | rfl | (simp_all; done) | (simp_all; omega) | grind, rfl, Le.c rfl <| Le.c rfl <| Le.e⟩
    ·intro v14 hv16
     refine CW.cond rfl (fun h17 => ?_) (fun h17 => ?_)
     ·skip
      refine CW.region ?_
      refine RW.v rfl (V.mv (d := .pt 0 (bo 0) 0) rfl rfl) ?_
      refine RW.v rfl (V.mv (d := .pt 0 (bo 0) 0) rfl rfl) ?_
      refine RW.v rfl (V.mv (d := .pt 0 (bo 0) 0) rfl rfl) ?_
      refine RW.v rfl (V.nilP rfl rfl) ?_
      refine RW.v rfl (V.field rfl rfl rfl rfl (by decide) rfl) ?_
      refine RW.v rfl (V.loadPrim (d := I x.rcv) rfl rfl (.inl rfl) rfl rfl rfl) ?_
      refine RW.call rfl (impl_AddNum_fn x.rcv 1) rfl (.cons (.one (.r .r)) (.cons (.one (.r .r)) (.nil))) fun g18 => ?_
      refine RW.v rfl (V.nilP rfl rfl) ?_
      refine RW.v rfl (V.field rfl rfl rfl rfl (by decide) rfl) ?_
      refine RW.store (d := Bo true) rfl rfl rfl rfl rfl rfl rfl (Nat.le_of_ble_eq_true rfl) rfl rfl ?_
      refine RW.v rfl (V.nilP rfl rfl) ?_
      refine RW.v rfl (V.field rfl rfl rfl rfl (by decide) rfl) ?_
      refine RW.store (d := I (addNum x.rcv 1)) rfl rfl rfl rfl rfl rfl rfl (Nat.le_of_ble_eq_true rfl) rfl rfl ?_
      refine RW.nil ?_
      exact Post.tup (by decide) RVs.e (AOs.obE (f := fun e => (Stream.c e).map .w) (e' := (⟨x.state, x.iss, x.una, (addNum x.rcv 1), x.wait, x.sent, x.fin, true, x.in_, x.late, true, x.due, x.times⟩ : Stream)) rfl (DT.v (DT.v (DT.v (DT.v (DT.v (DT.v (DT.v (DT.v (DT.v (DT.w (DT.v (DT.v (DT.v DT.e))))))))))))) (by unfold hearOpenN; rw [hb]; unfold finN; first | (simp_all; done) | grind) (AOs.a rfl AOs.e))
     ·skip
      refine CW.skip ?_
      exact Post.tup (by decide) RVs.e (AOs.obE (f := fun e => (Stream.c e).map .w) (e' := (⟨x.state, x.iss, x.una, x.rcv, x.wait, x.sent, x.fin, x.peerFin, x.in_, x.late, true, x.due, x.times⟩ : Stream)) rfl (DT.v (DT.v (DT.v (DT.v (DT.v (DT.v (DT.v (DT.v (DT.v (DT.w (DT.v (DT.v (DT.v DT.e))))))))))))) (by unfold hearOpenN; rw [hb]; unfold finN; first | (simp_all; done) | grind) (AOs.a rfl AOs.e))
set_option maxHeartbeats 4000000 in
theorem __impl_Stream__hear_fn (x : Stream) (s : Seg) (hx : sentOk x) (hs : segOk s = true) (hb : emp s.body = true) : Eng.Fn E.P 40 [.ob ((Stream.c x).map .w), .agg ((Seg.c s).map .r)] (.tup []) [.ob ((Stream.c (hearN x s)).map .w), .agg ((Seg.c s).map .r)] := by
 refine Eng.Fn.intro (E := E) (rvs := []) Try.func40 rfl rfl rfl (by simp [outSlots, moved, rvSlot, sl]) ?_
 intro B g bo
 refine CW.le [(0, .obj (bo 0) [I x.state, I x.iss, I x.una, I x.rcv, S x.wait, I x.sent, I x.fin, Bo x.peerFin, S x.in_, .w (sl 2 Late.c x.late) (g 0 9), Bo x.owe, I x.due, I x.times]), (1, .agg ((Seg.c s).map .r))] rfl (Le.of rfl) ?_
 have hbt := bits_in (segOk_flags hs)
 refine CW.seq ?_
 refine CW.region ?_
 refine RW.box (ds := ((Seg.c s).map .r)) rfl rfl rfl fun b1 => ?_
 refine RW.nil ?_
 refine CW.le [(0, .obj (bo 0) [I x.state, I x.iss, I x.una, I x.rcv, S x.wait, I x.sent, I x.fin, Bo x.peerFin, S x.in_, .w (sl 2 Late.c x.late) (g 0 9), Bo x.owe, I x.due, I x.times]), (3, .obj b1 ((Seg.c s).map .r))] rfl (Le.of rfl) ?_
 refine CW.seq ?_
 refine CW.drawn (by kernel_rfl) ?_
 refine RQ.v rfl (V.field rfl rfl rfl rfl (by decide) rfl) ?_
 refine RQ.v rfl (V.loadPrim (d := I s.flags) rfl rfl (.inl rfl) rfl rfl rfl) ?_
 refine RQ.v rfl (V.bits rfl rfl rfl rfl) ?_
 refine RQ.v rfl (V.cmpInt rfl rfl rfl rfl) ?_
 refine RQ.v rfl (V.field rfl rfl rfl rfl (by decide) rfl) ?_
 refine RQ.v rfl (V.loadPrim (d := I s.flags) rfl rfl (.inl rfl) rfl rfl rfl) ?_
 refine RQ.v rfl (V.bits rfl rfl rfl rfl) ?_
 refine RQ.v rfl (V.cmpInt rfl rfl rfl rfl) ?_
 refine RQ.v rfl (V.as (d := Bo ((andI s.flags 1) != 0)) rfl rfl) ?_
 refine RQ.v rfl (V.as (d := Bo ((andI s.flags 2) != 0)) rfl rfl) ?_
 refine RQ.nil ?_
 refine CW.le [(0, .obj (bo 0) [I x.state, I x.iss, I x.una, I x.rcv, S x.wait, I x.sent, I x.fin, Bo x.peerFin, S x.in_, .w (sl 2 Late.c x.late) (g 0 9), Bo x.owe, I x.due, I x.times]), (3, .obj b1 ((Seg.c s).map .r)), (4, Bo ((andI s.flags 1) != 0)), (5, Bo ((andI s.flags 2) != 0))] rfl (Le.of rfl) ?_
 refine CW.seq ?_
 refine CW.region ?_
 refine RW.v rfl (V.mv (d := .pt 0 (bo 0) 0) rfl rfl) ?_
 refine RW.v rfl (V.nilP rfl rfl) ?_
 refine RW.v rfl (V.field rfl rfl rfl rfl (by decide) rfl) ?_
 refine RW.v rfl (V.loadPrim (d := I x.iss) rfl rfl (.inl rfl) rfl rfl rfl) ?_
 refine RW.call rfl (impl_AddNum_fn x.iss 1) rfl (.cons (.one (.r .r)) (.cons (.one (.r .r)) (.nil))) fun g2 => ?_
 refine RW.v rfl (V.as (d := I (addNum x.iss 1)) rfl rfl) ?_
 refine RW.nil ?_
 refine CW.le [(0, .obj (bo 0) [I x.state, I x.iss, I x.una, I x.rcv, S x.wait, I x.sent, I x.fin, Bo x.peerFin, S x.in_, .w (sl 2 Late.c x.late) (g 0 9), Bo x.owe, I x.due, I x.times]), (3, .obj b1 ((Seg.c s).map .r)), (4, Bo ((andI s.flags 1) != 0)), (5, Bo ((andI s.flags 2) != 0)), (6, I (addNum x.iss 1))] rfl (Le.of rfl) ?_
 refine CW.seq ?_
 refine CW.region ?_
 refine RW.v rfl (V.mv (d := .pt 0 (bo 0) 0) rfl rfl) ?_
 refine RW.v rfl (V.nilP rfl rfl) ?_
 refine RW.v rfl (V.field rfl rfl rfl rfl (by decide) rfl) ?_
 refine RW.v rfl (V.loadPrim (d := I x.state) rfl rfl (.inl rfl) rfl rfl rfl) ?_
 refine RW.nil ?_
 refine CW.le [(0, .obj (bo 0) [I x.state, I x.iss, I x.una, I x.rcv, S x.wait, I x.sent, I x.fin, Bo x.peerFin, S x.in_, .w (sl 2 Late.c x.late) (g 0 9), Bo x.owe, I x.due, I x.times]), (3, .obj b1 ((Seg.c s).map .r)), (4, Bo ((andI s.flags 1) != 0)), (5, Bo ((andI s.flags 2) != 0)), (6, I (addNum x.iss 1)), (23, I x.state)] rfl (Le.of rfl) ?_
 refine CW.block ?_
 refine CW.seq ?_
 refine CW.region ?_
 refine RW.v rfl (V.cmpInt rfl rfl rfl rfl) ?_
 refine RW.v rfl (V.as (d := Bo (x.state == 1)) rfl rfl) ?_
 refine RW.nil ?_
 refine CW.le [(0, .obj (bo 0) [I x.state, I x.iss, I x.una, I x.rcv, S x.wait, I x.sent, I x.fin, Bo x.peerFin, S x.in_, .w (sl 2 Late.c x.late) (g 0 9), Bo x.owe, I x.due, I x.times]), (3, .obj b1 ((Seg.c s).map .r)), (4, Bo ((andI s.flags 1) != 0)), (5, Bo ((andI s.flags 2) != 0)), (6, I (addNum x.iss 1)), (23, I x.state), (24, Bo (x.state == 1))] rfl (Le.of rfl) ?_
 refine CW.cond rfl (fun h3 => ?_) (fun h3 => ?_)
 ·skip
  refine CW.seqJ 103 (fun (v4 : Bool) => [(0, .obj (bo 0) [I x.state, I x.iss, I x.una, I x.rcv, S x.wait, I x.sent, I x.fin, Bo x.peerFin, S x.in_, .w (sl 2 Late.c x.late) (g 0 9), Bo x.owe, I x.due, I x.times]), (3, .obj b1 ((Seg.c s).map .r)), (30, Bo v4)]) (fun v4 => v4 = (((andI s.flags 1) != 0) && (!((andI s.flags 2) != 0)))) ?_ ?_
  ·refine CW.region ?_
   refine RW.v rfl (V.mv (d := Bo ((andI s.flags 1) != 0)) rfl rfl) ?_
   refine RW.v rfl (V.mv (d := Bo ((andI s.flags 1) != 0)) rfl rfl) ?_
   refine RW.gv rfl rfl rfl rfl (fun h5 => V.mv (d := Bo ((andI s.flags 2) != 0)) rfl rfl) (fun h5 => ?_) (fun h5 => ?_)
   ·skip
    refine RW.gt rfl rfl rfl rfl (V.not rfl rfl) ?_
    refine RW.v rfl (V.pickT (d := Bo (!((andI s.flags 2) != 0))) rfl rfl rfl) ?_
    refine RW.nil ?_
    exact ⟨_, by first | rfl | (simp_all; done) | (simp_all; omega) | grind, rfl, Le.c rfl <| Le.c rfl <| Le.c rfl <| Le.e⟩
   ·skip
    refine RW.guardF rfl rfl rfl rfl ?_
    refine RW.v rfl (V.pickF (d := Bo false) rfl rfl rfl) ?_
    refine RW.nil ?_
    exact ⟨_, by first | rfl | (simp_all; done) | (simp_all; omega) | grind, rfl, Le.c rfl <| Le.c rfl <| Le.c rfl <| Le.e⟩
  ·intro v4 hv6
   refine CW.cond rfl (fun h7 => ?_) (fun h7 => ?_)
   ·skip
    refine CW.region ?_
    refine RW.v rfl (V.mv (d := .pt 0 (bo 0) 0) rfl rfl) ?_
    refine RW.v rfl (V.mv (d := .pt 0 (bo 0) 0) rfl rfl) ?_
    refine RW.v rfl (V.field rfl rfl rfl rfl (by decide) rfl) ?_
    refine RW.v rfl (V.loadPrim (d := I s.num) rfl rfl (.inl rfl) rfl rfl rfl) ?_
    refine RW.call rfl (impl_AddNum_fn s.num 1) rfl (.cons (.one (.r .r)) (.cons (.one (.r .r)) (.nil))) fun g8 => ?_
    refine RW.v rfl (V.nilP rfl rfl) ?_
    refine RW.v rfl (V.field rfl rfl rfl rfl (by decide) rfl) ?_
    refine RW.store (d := I (addNum s.num 1)) rfl rfl rfl rfl rfl rfl rfl (Nat.le_of_ble_eq_true rfl) rfl rfl ?_
    refine RW.v rfl (V.nilP rfl rfl) ?_
    refine RW.v rfl (V.field rfl rfl rfl rfl (by decide) rfl) ?_
    refine RW.store (d := I 3) rfl rfl rfl rfl rfl rfl rfl (Nat.le_of_ble_eq_true rfl) rfl rfl ?_
    refine RW.nil ?_
    exact Post.tup (by decide) RVs.e (AOs.obE (f := fun e => (Stream.c e).map .w) (e' := (⟨3, x.iss, x.una, (addNum s.num 1), x.wait, x.sent, x.fin, x.peerFin, x.in_, x.late, x.owe, x.due, x.times⟩ : Stream)) rfl (DT.v (DT.v (DT.v (DT.v (DT.v (DT.v (DT.v (DT.v (DT.v (DT.w (DT.v (DT.v (DT.v DT.e))))))))))))) (by unfold hearN; first | (simp_all [resetN]; done) | grind [resetN]) (AOs.a rfl AOs.e))
   ·skip
    refine CW.skip ?_
    exact Post.tup (by decide) RVs.e (AOs.obE (f := fun e => (Stream.c e).map .w) (e' := x) rfl (DT.v (DT.v (DT.v (DT.v (DT.v (DT.v (DT.v (DT.v (DT.v (DT.w (DT.v (DT.v (DT.v DT.e))))))))))))) (by unfold hearN; first | (simp_all [resetN]; done) | grind [resetN]) (AOs.a rfl AOs.e))
 ·skip
  refine CW.seq ?_
  refine CW.region ?_
  refine RW.v rfl (V.cmpInt rfl rfl rfl rfl) ?_
  refine RW.v rfl (V.as (d := Bo (x.state == 2)) rfl rfl) ?_
  refine RW.nil ?_
  refine CW.le [(0, .obj (bo 0) [I x.state, I x.iss, I x.una, I x.rcv, S x.wait, I x.sent, I x.fin, Bo x.peerFin, S x.in_, .w (sl 2 Late.c x.late) (g 0 9), Bo x.owe, I x.due, I x.times]), (3, .obj b1 ((Seg.c s).map .r)), (4, Bo ((andI s.flags 1) != 0)), (5, Bo ((andI s.flags 2) != 0)), (6, I (addNum x.iss 1)), (23, I x.state), (40, Bo (x.state == 2))] rfl (Le.of rfl) ?_
  refine CW.cond rfl (fun h9 => ?_) (fun h9 => ?_)
  ·skip
   refine CW.seqJ 103 (fun (v10 : Bool) => [(0, .obj (bo 0) [I x.state, I x.iss, I x.una, I x.rcv, S x.wait, I x.sent, I x.fin, Bo x.peerFin, S x.in_, .w (sl 2 Late.c x.late) (g 0 9), Bo x.owe, I x.due, I x.times]), (3, .obj b1 ((Seg.c s).map .r)), (6, I (addNum x.iss 1)), (51, Bo v10)]) (fun v10 => v10 = ((((andI s.flags 1) != 0) && ((andI s.flags 2) != 0)) && (s.ack == (addNum x.iss 1)))) ?_ ?_
   ·refine CW.region ?_
    refine RW.v rfl (V.mv (d := Bo ((andI s.flags 1) != 0)) rfl rfl) ?_
    refine RW.v rfl (V.mv (d := Bo ((andI s.flags 1) != 0)) rfl rfl) ?_
    refine RW.gv rfl rfl rfl rfl (fun h11 => V.mv (d := Bo ((andI s.flags 2) != 0)) rfl rfl) (fun h11 => ?_) (fun h11 => ?_)
    ·skip
     refine RW.v rfl (V.pickT (d := Bo ((andI s.flags 2) != 0)) rfl rfl rfl) ?_
     refine RW.v rfl (V.mv (d := Bo ((andI s.flags 2) != 0)) rfl rfl) ?_
     refine RW.gv rfl rfl rfl rfl (fun h12 => V.field rfl rfl rfl rfl (by decide) rfl) (fun h12 => ?_) (fun h12 => ?_)
     ·skip
      refine RW.gt rfl rfl rfl rfl (V.loadPrim (d := I s.ack) rfl rfl (.inl rfl) rfl rfl rfl) ?_
      refine RW.gt rfl rfl rfl rfl (V.mv (d := I (addNum x.iss 1)) rfl rfl) ?_
      refine RW.gt rfl rfl rfl rfl (V.cmpInt rfl rfl rfl rfl) ?_
      refine RW.v rfl (V.pickT (d := Bo (s.ack == (addNum x.iss 1))) rfl rfl rfl) ?_
      refine RW.nil ?_
      exact ⟨_, by first | rfl | (simp_all; done) | (simp_all; omega) | grind, rfl, Le.c rfl <| Le.c rfl <| Le.c rfl <| Le.c rfl <| Le.e⟩
     ·skip
      refine RW.guardF rfl rfl rfl rfl ?_
      refine RW.guardF rfl rfl rfl rfl ?_
      refine RW.guardF rfl rfl rfl rfl ?_
      refine RW.v rfl (V.pickF (d := Bo false) rfl rfl rfl) ?_
      refine RW.nil ?_
      exact ⟨_, by first | rfl | (simp_all; done) | (simp_all; omega) | grind, rfl, Le.c rfl <| Le.c rfl <| Le.c rfl <| Le.c rfl <| Le.e⟩
    ·skip
     refine RW.v rfl (V.pickF (d := Bo false) rfl rfl rfl) ?_
     refine RW.v rfl (V.mv (d := Bo false) rfl rfl) ?_
     refine RW.guardF rfl rfl rfl rfl ?_
     refine RW.guardF rfl rfl rfl rfl ?_
     refine RW.guardF rfl rfl rfl rfl ?_
     refine RW.guardF rfl rfl rfl rfl ?_
     refine RW.v rfl (V.pickF (d := Bo false) rfl rfl rfl) ?_
     refine RW.nil ?_
     exact ⟨_, by first | rfl | (simp_all; done) | (simp_all; omega) | grind, rfl, Le.c rfl <| Le.c rfl <| Le.c rfl <| Le.c rfl <| Le.e⟩
   ·intro v10 hv13
    refine CW.cond rfl (fun h14 => ?_) (fun h14 => ?_)
    ·skip
     refine CW.seq ?_
     refine CW.region ?_
     refine RW.v rfl (V.mv (d := .pt 0 (bo 0) 0) rfl rfl) ?_
     refine RW.v rfl (V.mv (d := .pt 0 (bo 0) 0) rfl rfl) ?_
     refine RW.v rfl (V.mv (d := .pt 0 (bo 0) 0) rfl rfl) ?_
     refine RW.v rfl (V.mv (d := .pt 0 (bo 0) 0) rfl rfl) ?_
     refine RW.v rfl (V.field rfl rfl rfl rfl (by decide) rfl) ?_
     refine RW.v rfl (V.loadPrim (d := I s.num) rfl rfl (.inl rfl) rfl rfl rfl) ?_
     refine RW.call rfl (impl_AddNum_fn s.num 1) rfl (.cons (.one (.r .r)) (.cons (.one (.r .r)) (.nil))) fun g15 => ?_
     refine RW.v rfl (V.mv (d := I (addNum x.iss 1)) rfl rfl) ?_
     refine RW.v rfl (V.nilP rfl rfl) ?_
     refine RW.v rfl (V.field rfl rfl rfl rfl (by decide) rfl) ?_
     refine RW.store (d := I (addNum s.num 1)) rfl rfl rfl rfl rfl rfl rfl (Nat.le_of_ble_eq_true rfl) rfl rfl ?_
     refine RW.v rfl (V.nilP rfl rfl) ?_
     refine RW.v rfl (V.field rfl rfl rfl rfl (by decide) rfl) ?_
     refine RW.store (d := I (addNum x.iss 1)) rfl rfl rfl rfl rfl rfl rfl (Nat.le_of_ble_eq_true rfl) rfl rfl ?_
     refine RW.v rfl (V.nilP rfl rfl) ?_
     refine RW.v rfl (V.field rfl rfl rfl rfl (by decide) rfl) ?_
     refine RW.store (d := I 4) rfl rfl rfl rfl rfl rfl rfl (Nat.le_of_ble_eq_true rfl) rfl rfl ?_
     refine RW.v rfl (V.nilP rfl rfl) ?_
     refine RW.v rfl (V.field rfl rfl rfl rfl (by decide) rfl) ?_
     refine RW.store (d := Bo true) rfl rfl rfl rfl rfl rfl rfl (Nat.le_of_ble_eq_true rfl) rfl rfl ?_
     refine RW.nil ?_
     refine CW.le [(0, .obj (bo 0) [I 4, I x.iss, I (addNum x.iss 1), I (addNum s.num 1), S x.wait, I x.sent, I x.fin, Bo x.peerFin, S x.in_, .w (sl 2 Late.c x.late) (g 0 9), Bo true, I x.due, I x.times])] rfl (Le.of rfl) ?_
     refine CW.region ?_
     refine RW.v rfl (V.mv (d := .pt 0 (bo 0) 0) rfl rfl) ?_
     refine RW.callW (k := 0) (__impl_Stream__reset_fn (⟨4, x.iss, (addNum x.iss 1), (addNum s.num 1), x.wait, x.sent, x.fin, x.peerFin, x.in_, x.late, true, x.due, x.times⟩ : Stream)) rfl rfl (Nat.le_of_ble_eq_true rfl) (by decide) (.here (AsW.ob (DT.v (DT.v (DT.v (DT.v (DT.v (DT.v (DT.v (DT.v (DT.v (DT.w (DT.v (DT.v (DT.v DT.e))))))))))))) rfl) (.nil)) rfl fun g16 q17 => ?_
     refine RW.nil ?_
     exact Post.tup (by decide) RVs.e (AOs.obE (f := fun e => (Stream.c e).map .w) (e' := (resetN (⟨4, x.iss, (addNum x.iss 1), (addNum s.num 1), x.wait, x.sent, x.fin, x.peerFin, x.in_, x.late, true, x.due, x.times⟩ : Stream))) rfl (DT.v (DT.v (DT.v (DT.v (DT.v (DT.v (DT.v (DT.v (DT.v (DT.w (DT.v (DT.v (DT.v DT.e))))))))))))) (by unfold hearN; first | (simp_all [resetN]; done) | grind [resetN]) (AOs.a rfl AOs.e))
    ·skip
     refine CW.skip ?_
     exact Post.tup (by decide) RVs.e (AOs.obE (f := fun e => (Stream.c e).map .w) (e' := x) rfl (DT.v (DT.v (DT.v (DT.v (DT.v (DT.v (DT.v (DT.v (DT.v (DT.w (DT.v (DT.v (DT.v DT.e))))))))))))) (by unfold hearN; first | (simp_all [resetN]; done) | grind [resetN]) (AOs.a rfl AOs.e))
  ·skip
   refine CW.seq ?_
   refine CW.region ?_
   refine RW.v rfl (V.cmpInt rfl rfl rfl rfl) ?_
   refine RW.v rfl (V.as (d := Bo (x.state == 3)) rfl rfl) ?_
   refine RW.nil ?_
   refine CW.le [(0, .obj (bo 0) [I x.state, I x.iss, I x.una, I x.rcv, S x.wait, I x.sent, I x.fin, Bo x.peerFin, S x.in_, .w (sl 2 Late.c x.late) (g 0 9), Bo x.owe, I x.due, I x.times]), (3, .obj b1 ((Seg.c s).map .r)), (4, Bo ((andI s.flags 1) != 0)), (5, Bo ((andI s.flags 2) != 0)), (6, I (addNum x.iss 1)), (23, I x.state), (70, Bo (x.state == 3))] rfl (Le.of rfl) ?_
   refine CW.cond rfl (fun h18 => ?_) (fun h18 => ?_)
   ·skip
    refine CW.seq ?_
    refine CW.region ?_
    refine RW.v rfl (V.mv (d := Bo ((andI s.flags 1) != 0)) rfl rfl) ?_
    refine RW.nil ?_
    refine CW.le [(0, .obj (bo 0) [I x.state, I x.iss, I x.una, I x.rcv, S x.wait, I x.sent, I x.fin, Bo x.peerFin, S x.in_, .w (sl 2 Late.c x.late) (g 0 9), Bo x.owe, I x.due, I x.times]), (3, .obj b1 ((Seg.c s).map .r)), (5, Bo ((andI s.flags 2) != 0)), (6, I (addNum x.iss 1)), (72, Bo ((andI s.flags 1) != 0))] rfl (Le.of rfl) ?_
    refine CW.cond rfl (fun h19 => ?_) (fun h19 => ?_)
    ·skip
     refine CW.region ?_
     refine RW.v rfl (V.mv (d := .pt 0 (bo 0) 0) rfl rfl) ?_
     refine RW.callW (k := 0) (__impl_Stream__reset_fn x) rfl rfl (Nat.le_of_ble_eq_true rfl) (by decide) (.here (AsW.ob (DT.v (DT.v (DT.v (DT.v (DT.v (DT.v (DT.v (DT.v (DT.v (DT.w (DT.v (DT.v (DT.v DT.e))))))))))))) rfl) (.nil)) rfl fun g20 q21 => ?_
     refine RW.nil ?_
     exact Post.tup (by decide) RVs.e (AOs.obE (f := fun e => (Stream.c e).map .w) (e' := (resetN x)) rfl (DT.v (DT.v (DT.v (DT.v (DT.v (DT.v (DT.v (DT.v (DT.v (DT.w (DT.v (DT.v (DT.v DT.e))))))))))))) (by unfold hearN; first | (simp_all [resetN]; done) | grind [resetN]) (AOs.a rfl AOs.e))
    ·skip
     refine CW.seqJ 103 (fun (v22 : Bool) => [(0, .obj (bo 0) [I x.state, I x.iss, I x.una, I x.rcv, S x.wait, I x.sent, I x.fin, Bo x.peerFin, S x.in_, .w (sl 2 Late.c x.late) (g 0 9), Bo x.owe, I x.due, I x.times]), (3, .obj b1 ((Seg.c s).map .r)), (6, I (addNum x.iss 1)), (81, Bo v22)]) (fun v22 => v22 = (((andI s.flags 2) != 0) && (s.ack == (addNum x.iss 1)))) ?_ ?_
     ·refine CW.region ?_
      refine RW.v rfl (V.mv (d := Bo ((andI s.flags 2) != 0)) rfl rfl) ?_
      refine RW.v rfl (V.mv (d := Bo ((andI s.flags 2) != 0)) rfl rfl) ?_
      refine RW.gv rfl rfl rfl rfl (fun h23 => V.field rfl rfl rfl rfl (by decide) rfl) (fun h23 => ?_) (fun h23 => ?_)
      ·skip
       refine RW.gt rfl rfl rfl rfl (V.loadPrim (d := I s.ack) rfl rfl (.inl rfl) rfl rfl rfl) ?_
       refine RW.gt rfl rfl rfl rfl (V.mv (d := I (addNum x.iss 1)) rfl rfl) ?_
       refine RW.gt rfl rfl rfl rfl (V.cmpInt rfl rfl rfl rfl) ?_
       refine RW.v rfl (V.pickT (d := Bo (s.ack == (addNum x.iss 1))) rfl rfl rfl) ?_
       refine RW.nil ?_
       exact ⟨_, by first | rfl | (simp_all; done) | (simp_all; omega) | grind, rfl, Le.c rfl <| Le.c rfl <| Le.c rfl <| Le.c rfl <| Le.e⟩
      ·skip
       refine RW.guardF rfl rfl rfl rfl ?_
       refine RW.guardF rfl rfl rfl rfl ?_
       refine RW.guardF rfl rfl rfl rfl ?_
       refine RW.v rfl (V.pickF (d := Bo false) rfl rfl rfl) ?_
       refine RW.nil ?_
       exact ⟨_, by first | rfl | (simp_all; done) | (simp_all; omega) | grind, rfl, Le.c rfl <| Le.c rfl <| Le.c rfl <| Le.c rfl <| Le.e⟩
     ·intro v22 hv24
      refine CW.cond rfl (fun h25 => ?_) (fun h25 => ?_)
      ·skip
       refine CW.seq ?_
       refine CW.region ?_
       refine RW.v rfl (V.mv (d := .pt 0 (bo 0) 0) rfl rfl) ?_
       refine RW.v rfl (V.mv (d := .pt 0 (bo 0) 0) rfl rfl) ?_
       refine RW.v rfl (V.mv (d := I (addNum x.iss 1)) rfl rfl) ?_
       refine RW.v rfl (V.nilP rfl rfl) ?_
       refine RW.v rfl (V.field rfl rfl rfl rfl (by decide) rfl) ?_
       refine RW.store (d := I (addNum x.iss 1)) rfl rfl rfl rfl rfl rfl rfl (Nat.le_of_ble_eq_true rfl) rfl rfl ?_
       refine RW.v rfl (V.nilP rfl rfl) ?_
       refine RW.v rfl (V.field rfl rfl rfl rfl (by decide) rfl) ?_
       refine RW.store (d := I 4) rfl rfl rfl rfl rfl rfl rfl (Nat.le_of_ble_eq_true rfl) rfl rfl ?_
       refine RW.nil ?_
       refine CW.le [(0, .obj (bo 0) [I 4, I x.iss, I (addNum x.iss 1), I x.rcv, S x.wait, I x.sent, I x.fin, Bo x.peerFin, S x.in_, .w (sl 2 Late.c x.late) (g 0 9), Bo x.owe, I x.due, I x.times]), (3, .obj b1 ((Seg.c s).map .r))] rfl (Le.of rfl) ?_
       refine CW.seq ?_
       refine CW.region ?_
       refine RW.v rfl (V.mv (d := .pt 0 (bo 0) 0) rfl rfl) ?_
       refine RW.callW (k := 0) (__impl_Stream__reset_fn (⟨4, x.iss, (addNum x.iss 1), x.rcv, x.wait, x.sent, x.fin, x.peerFin, x.in_, x.late, x.owe, x.due, x.times⟩ : Stream)) rfl rfl (Nat.le_of_ble_eq_true rfl) (by decide) (.here (AsW.ob (DT.v (DT.v (DT.v (DT.v (DT.v (DT.v (DT.v (DT.v (DT.v (DT.w (DT.v (DT.v (DT.v DT.e))))))))))))) rfl) (.nil)) rfl fun g26 q27 => ?_
       refine RW.nil ?_
       refine CW.le [(0, .obj (bo 0) [I ((resetN (⟨4, x.iss, (addNum x.iss 1), x.rcv, x.wait, x.sent, x.fin, x.peerFin, x.in_, x.late, x.owe, x.due, x.times⟩ : Stream)).state), I ((resetN (⟨4, x.iss, (addNum x.iss 1), x.rcv, x.wait, x.sent, x.fin, x.peerFin, x.in_, x.late, x.owe, x.due, x.times⟩ : Stream)).iss), I ((resetN (⟨4, x.iss, (addNum x.iss 1), x.rcv, x.wait, x.sent, x.fin, x.peerFin, x.in_, x.late, x.owe, x.due, x.times⟩ : Stream)).una), I ((resetN (⟨4, x.iss, (addNum x.iss 1), x.rcv, x.wait, x.sent, x.fin, x.peerFin, x.in_, x.late, x.owe, x.due, x.times⟩ : Stream)).rcv), S ((resetN (⟨4, x.iss, (addNum x.iss 1), x.rcv, x.wait, x.sent, x.fin, x.peerFin, x.in_, x.late, x.owe, x.due, x.times⟩ : Stream)).wait), I ((resetN (⟨4, x.iss, (addNum x.iss 1), x.rcv, x.wait, x.sent, x.fin, x.peerFin, x.in_, x.late, x.owe, x.due, x.times⟩ : Stream)).sent), I ((resetN (⟨4, x.iss, (addNum x.iss 1), x.rcv, x.wait, x.sent, x.fin, x.peerFin, x.in_, x.late, x.owe, x.due, x.times⟩ : Stream)).fin), Bo ((resetN (⟨4, x.iss, (addNum x.iss 1), x.rcv, x.wait, x.sent, x.fin, x.peerFin, x.in_, x.late, x.owe, x.due, x.times⟩ : Stream)).peerFin), S ((resetN (⟨4, x.iss, (addNum x.iss 1), x.rcv, x.wait, x.sent, x.fin, x.peerFin, x.in_, x.late, x.owe, x.due, x.times⟩ : Stream)).in_), .w (sl 2 Late.c ((resetN (⟨4, x.iss, (addNum x.iss 1), x.rcv, x.wait, x.sent, x.fin, x.peerFin, x.in_, x.late, x.owe, x.due, x.times⟩ : Stream)).late)) (q27 9), Bo ((resetN (⟨4, x.iss, (addNum x.iss 1), x.rcv, x.wait, x.sent, x.fin, x.peerFin, x.in_, x.late, x.owe, x.due, x.times⟩ : Stream)).owe), I ((resetN (⟨4, x.iss, (addNum x.iss 1), x.rcv, x.wait, x.sent, x.fin, x.peerFin, x.in_, x.late, x.owe, x.due, x.times⟩ : Stream)).due), I ((resetN (⟨4, x.iss, (addNum x.iss 1), x.rcv, x.wait, x.sent, x.fin, x.peerFin, x.in_, x.late, x.owe, x.due, x.times⟩ : Stream)).times)]), (3, .obj b1 ((Seg.c s).map .r))] rfl (Le.of rfl) ?_
       refine CW.region ?_
       refine RW.v rfl (V.mv (d := .pt 0 (bo 0) 0) rfl rfl) ?_
       refine RW.v rfl (V.loadAgg rfl rfl rfl rfl rfl (Nat.le_of_ble_eq_true rfl)) ?_
       refine RW.callW (k := 0) (__impl_Stream__hearOpen_fn (resetN (⟨4, x.iss, (addNum x.iss 1), x.rcv, x.wait, x.sent, x.fin, x.peerFin, x.in_, x.late, x.owe, x.due, x.times⟩ : Stream)) s hx hs hb) rfl rfl (Nat.le_of_ble_eq_true rfl) (by decide) (.here (AsW.ob (DT.v (DT.v (DT.v (DT.v (DT.v (DT.v (DT.v (DT.v (DT.v (DT.w (DT.v (DT.v (DT.v DT.e))))))))))))) rfl) (.cons (.agg (.cons (.r .r) (.cons (.r .r) (.cons (.r .r) (.cons (.r .r) (.nil)))))) (.nil))) rfl fun g28 q29 => ?_
       refine RW.nil ?_
       exact Post.tup (by decide) RVs.e (AOs.obE (f := fun e => (Stream.c e).map .w) (e' := (hearOpenN (resetN (⟨4, x.iss, (addNum x.iss 1), x.rcv, x.wait, x.sent, x.fin, x.peerFin, x.in_, x.late, x.owe, x.due, x.times⟩ : Stream)) s)) rfl (DT.v (DT.v (DT.v (DT.v (DT.v (DT.v (DT.v (DT.v (DT.v (DT.w (DT.v (DT.v (DT.v DT.e))))))))))))) (by unfold hearN; first | (simp_all [resetN]; done) | grind [resetN]) (AOs.a rfl AOs.e))
      ·skip
       refine CW.skip ?_
       exact Post.tup (by decide) RVs.e (AOs.obE (f := fun e => (Stream.c e).map .w) (e' := x) rfl (DT.v (DT.v (DT.v (DT.v (DT.v (DT.v (DT.v (DT.v (DT.v (DT.w (DT.v (DT.v (DT.v DT.e))))))))))))) (by unfold hearN; first | (simp_all [resetN]; done) | grind [resetN]) (AOs.a rfl AOs.e))
   ·skip
    refine CW.seq ?_
    refine CW.region ?_
    refine RW.v rfl (V.cmpInt rfl rfl rfl rfl) ?_
    refine RW.v rfl (V.as (d := Bo (x.state == 4)) rfl rfl) ?_
    refine RW.nil ?_
    refine CW.le [(0, .obj (bo 0) [I x.state, I x.iss, I x.una, I x.rcv, S x.wait, I x.sent, I x.fin, Bo x.peerFin, S x.in_, .w (sl 2 Late.c x.late) (g 0 9), Bo x.owe, I x.due, I x.times]), (3, .obj b1 ((Seg.c s).map .r)), (4, Bo ((andI s.flags 1) != 0)), (94, Bo (x.state == 4))] rfl (Le.of rfl) ?_
    refine CW.cond rfl (fun h30 => ?_) (fun h30 => ?_)
    ·skip
     refine CW.seq ?_
     refine CW.region ?_
     refine RW.v rfl (V.mv (d := Bo ((andI s.flags 1) != 0)) rfl rfl) ?_
     refine RW.nil ?_
     refine CW.le [(0, .obj (bo 0) [I x.state, I x.iss, I x.una, I x.rcv, S x.wait, I x.sent, I x.fin, Bo x.peerFin, S x.in_, .w (sl 2 Late.c x.late) (g 0 9), Bo x.owe, I x.due, I x.times]), (3, .obj b1 ((Seg.c s).map .r)), (96, Bo ((andI s.flags 1) != 0))] rfl (Le.of rfl) ?_
     refine CW.cond rfl (fun h31 => ?_) (fun h31 => ?_)
     ·skip
      refine CW.region ?_
      refine RW.v rfl (V.mv (d := .pt 0 (bo 0) 0) rfl rfl) ?_
      refine RW.v rfl (V.nilP rfl rfl) ?_
      refine RW.v rfl (V.field rfl rfl rfl rfl (by decide) rfl) ?_
      refine RW.store (d := Bo true) rfl rfl rfl rfl rfl rfl rfl (Nat.le_of_ble_eq_true rfl) rfl rfl ?_
      refine RW.nil ?_
      exact Post.tup (by decide) RVs.e (AOs.obE (f := fun e => (Stream.c e).map .w) (e' := (⟨x.state, x.iss, x.una, x.rcv, x.wait, x.sent, x.fin, x.peerFin, x.in_, x.late, true, x.due, x.times⟩ : Stream)) rfl (DT.v (DT.v (DT.v (DT.v (DT.v (DT.v (DT.v (DT.v (DT.v (DT.w (DT.v (DT.v (DT.v DT.e))))))))))))) (by unfold hearN; first | (simp_all [resetN]; done) | grind [resetN]) (AOs.a rfl AOs.e))
     ·skip
      refine CW.region ?_
      refine RW.v rfl (V.mv (d := .pt 0 (bo 0) 0) rfl rfl) ?_
      refine RW.v rfl (V.loadAgg rfl rfl rfl rfl rfl (Nat.le_of_ble_eq_true rfl)) ?_
      refine RW.callW (k := 0) (__impl_Stream__hearOpen_fn x s hx hs hb) rfl rfl (Nat.le_of_ble_eq_true rfl) (by decide) (.here (AsW.ob (DT.v (DT.v (DT.v (DT.v (DT.v (DT.v (DT.v (DT.v (DT.v (DT.w (DT.v (DT.v (DT.v DT.e))))))))))))) rfl) (.cons (.agg (.cons (.r .r) (.cons (.r .r) (.cons (.r .r) (.cons (.r .r) (.nil)))))) (.nil))) rfl fun g32 q33 => ?_
      refine RW.nil ?_
      exact Post.tup (by decide) RVs.e (AOs.obE (f := fun e => (Stream.c e).map .w) (e' := (hearOpenN x s)) rfl (DT.v (DT.v (DT.v (DT.v (DT.v (DT.v (DT.v (DT.v (DT.v (DT.w (DT.v (DT.v (DT.v DT.e))))))))))))) (by unfold hearN; first | (simp_all [resetN]; done) | grind [resetN]) (AOs.a rfl AOs.e))
    ·skip
     refine CW.skip ?_
     exact Post.tup (by decide) RVs.e (AOs.obE (f := fun e => (Stream.c e).map .w) (e' := x) rfl (DT.v (DT.v (DT.v (DT.v (DT.v (DT.v (DT.v (DT.v (DT.v (DT.w (DT.v (DT.v (DT.v DT.e))))))))))))) (by unfold hearN; first | (simp_all [resetN]; done) | grind [resetN]) (AOs.a rfl AOs.e))
set_option maxHeartbeats 4000000 in
theorem impl_Hear_fn (x : Stream) (s : Seg) (hm : x.late.length ≤ 1048576) (hb : emp s.body = true) : Eng.Fn E.P 11 [.agg ((Stream.c x).map .r), .agg ((Seg.c s).map .r)] (.one (.agg ((Stream.c (hear x s)).map .w))) [.agg ((Stream.c x).map .r), .agg ((Seg.c s).map .r)] := by
 refine Eng.Fn.intro (E := E) (rvs := [.cell 4 28]) Try.func11 rfl rfl rfl (by simp [outSlots, moved, rvSlot, sl]) ?_
 intro B g bo
 refine CW.le [(0, .agg ((Stream.c x).map .r)), (1, .agg ((Seg.c s).map .r))] rfl (Le.of rfl) ?_
 refine CW.seq ?_
 refine CW.region ?_
 refine RW.box (ds := ((Stream.c x).map .r)) rfl rfl rfl fun b1 => ?_
 refine RW.box (ds := ((Seg.c s).map .r)) rfl rfl rfl fun b2 => ?_
 refine RW.alloc (ds := [I 0, I 0, I 0, I 0, S (⟨#[]⟩), I 0, I 0, Bo false, S (⟨#[]⟩), .r (.v (.slice none 0 0)), Bo false, I 0, I 0]) rfl rfl rfl rfl fun b3 => ?_
 refine RW.nil ?_
 refine CW.le [(2, .obj b1 ((Stream.c x).map .r)), (3, .obj b2 ((Seg.c s).map .r)), (4, .obj b3 [I 0, I 0, I 0, I 0, S (⟨#[]⟩), I 0, I 0, Bo false, S (⟨#[]⟩), .r (.v (.slice none 0 0)), Bo false, I 0, I 0])] rfl (Le.of rfl) ?_
 refine CW.seq ?_
 refine CW.seqJ 27 (fun (v4 : Bool) => [(2, .obj b1 ((Stream.c x).map .r)), (3, .obj b2 ((Seg.c s).map .r)), (4, .obj b3 [I 0, I 0, I 0, I 0, S (⟨#[]⟩), I 0, I 0, Bo false, S (⟨#[]⟩), .r (.v (.slice none 0 0)), Bo false, I 0, I 0]), (13, Bo v4)]) (fun v4 => v4 = ((!(streamOk x)) || (!(segOk s)))) ?_ ?_
 ·refine CW.region ?_
  refine RW.v rfl (V.loadAgg rfl rfl rfl rfl rfl (Nat.le_of_ble_eq_true rfl)) ?_
  refine RW.call rfl (impl_StreamOk_fn x) rfl (.cons (.agg (.cons (.r .r) (.cons (.r .r) (.cons (.r .r) (.cons (.r .r) (.cons (.r .r) (.cons (.r .r) (.cons (.r .r) (.cons (.r .r) (.cons (.r .r) (.cons (.r .r) (.cons (.r .r) (.cons (.r .r) (.cons (.r .r) (.nil))))))))))))))) (.nil)) fun g5 => ?_
  refine RW.v rfl (V.not rfl rfl) ?_
  refine RW.v rfl (V.mv (d := Bo (!(streamOk x))) rfl rfl) ?_
  refine RW.gv rfl rfl rfl rfl (fun h6 => V.loadAgg rfl rfl rfl rfl rfl (Nat.le_of_ble_eq_true rfl)) (fun h6 => ?_) (fun h6 => ?_)
  ·skip
   refine RW.gcall rfl rfl rfl rfl (impl_SegOk_fn s) rfl (.cons (.agg (.cons (.r .r) (.cons (.r .r) (.cons (.r .r) (.cons (.r .r) (.nil)))))) (.nil)) fun g7 => ?_
   refine RW.gt rfl rfl rfl rfl (V.not rfl rfl) ?_
   refine RW.v rfl (V.pickF (d := Bo (!(segOk s))) rfl rfl rfl) ?_
   refine RW.nil ?_
   exact ⟨_, by first | rfl | (simp_all; done) | (simp_all; omega) | grind, rfl, Le.c rfl <| Le.c rfl <| Le.c rfl <| Le.c rfl <| Le.e⟩
  ·skip
   refine RW.guardF rfl rfl rfl rfl ?_
   refine RW.guardF rfl rfl rfl rfl ?_
   refine RW.v rfl (V.pickT (d := Bo true) rfl rfl rfl) ?_
   refine RW.nil ?_
   exact ⟨_, by first | rfl | (simp_all; done) | (simp_all; omega) | grind, rfl, Le.c rfl <| Le.c rfl <| Le.c rfl <| Le.c rfl <| Le.e⟩
 ·intro v4 hv8
  refine CW.cond rfl (fun h9 => ?_) (fun h9 => ?_)
  ·skip
   refine CW.seq ?_
   refine CW.region ?_
   refine RW.v rfl (V.loadAgg rfl rfl rfl rfl rfl (Nat.le_of_ble_eq_true rfl)) ?_
   refine RW.call rfl (impl_copyStream_fn x hm) rfl (.cons (.agg (.cons (.r .r) (.cons (.r .r) (.cons (.r .r) (.cons (.r .r) (.cons (.r .r) (.cons (.r .r) (.cons (.r .r) (.cons (.r .r) (.cons (.r .r) (.cons (.r .r) (.cons (.r .r) (.cons (.r .r) (.cons (.r .r) (.nil))))))))))))))) (.nil)) fun g10 => ?_
   refine RW.storeAgg (es := [I x.state, I x.iss, I x.una, I x.rcv, S x.wait, I x.sent, I x.fin, Bo x.peerFin, S x.in_, .al 15 (some 9) 2 x.late.length (g10 0 9) 0, Bo x.owe, I x.due, I x.times]) rfl rfl rfl rfl rfl rfl rfl rfl (Nat.le_of_ble_eq_true rfl) rfl ?_
   refine RW.le [(4, .obj b3 [I x.state, I x.iss, I x.una, I x.rcv, S x.wait, I x.sent, I x.fin, Bo x.peerFin, S x.in_, .al 15 (some 9) 2 x.late.length (g10 0 9) 0, Bo x.owe, I x.due, I x.times]), (15, .agg [I x.state, I x.iss, I x.una, I x.rcv, S x.wait, I x.sent, I x.fin, Bo x.peerFin, S x.in_, .w (sl 2 Late.c x.late) (g10 0 9), Bo x.owe, I x.due, I x.times])] rfl (Le.of rfl) ?_
   refine RW.pullA (k := 4) (l := 15) (j := 9) 4 15 9 rfl rfl rfl (by decide) rfl rfl rfl rfl ?_
   refine RW.le [(4, .obj b3 [I x.state, I x.iss, I x.una, I x.rcv, S x.wait, I x.sent, I x.fin, Bo x.peerFin, S x.in_, .w (sl 2 Late.c x.late) (g10 0 9), Bo x.owe, I x.due, I x.times])] rfl (Le.of rfl) ?_
   refine RW.nil ?_
   refine CW.le [(4, .obj b3 [I x.state, I x.iss, I x.una, I x.rcv, S x.wait, I x.sent, I x.fin, Bo x.peerFin, S x.in_, .w (sl 2 Late.c x.late) (g10 0 9), Bo x.owe, I x.due, I x.times])] rfl (Le.of rfl) ?_
   refine CW.ret ?_
   exact Post.one (RV.c (f := fun e => (Stream.c e).map .w) (e' := x) rfl rfl rfl rfl (DT.v (DT.v (DT.v (DT.v (DT.v (DT.v (DT.v (DT.v (DT.v (DT.w (DT.v (DT.v (DT.v DT.e))))))))))))) (by simp_all [hear] <;> (intro hh; omega))) (AOs.a rfl (AOs.a rfl AOs.e))
  ·skip
   have hxo : streamOk x = true := by simp_all
   have hso : segOk s = true := by simp_all
   refine CW.skip ?_
   refine CW.le [(2, .obj b1 ((Stream.c x).map .r)), (3, .obj b2 ((Seg.c s).map .r)), (4, .obj b3 [I 0, I 0, I 0, I 0, S (⟨#[]⟩), I 0, I 0, Bo false, S (⟨#[]⟩), .r (.v (.slice none 0 0)), Bo false, I 0, I 0])] rfl (Le.of rfl) ?_
   refine CW.seq ?_
   refine CW.region ?_
   refine RW.v rfl (V.loadAgg rfl rfl rfl rfl rfl (Nat.le_of_ble_eq_true rfl)) ?_
   refine RW.call rfl (impl_copyStream_fn x hm) rfl (.cons (.agg (.cons (.r .r) (.cons (.r .r) (.cons (.r .r) (.cons (.r .r) (.cons (.r .r) (.cons (.r .r) (.cons (.r .r) (.cons (.r .r) (.cons (.r .r) (.cons (.r .r) (.cons (.r .r) (.cons (.r .r) (.cons (.r .r) (.nil))))))))))))))) (.nil)) fun g11 => ?_
   refine RW.alloc (ds := [I 0, I 0, I 0, I 0, S (⟨#[]⟩), I 0, I 0, Bo false, S (⟨#[]⟩), .r (.v (.slice none 0 0)), Bo false, I 0, I 0]) rfl rfl rfl rfl fun b12 => ?_
   refine RW.storeAgg (es := [I x.state, I x.iss, I x.una, I x.rcv, S x.wait, I x.sent, I x.fin, Bo x.peerFin, S x.in_, .al 17 (some 9) 2 x.late.length (g11 0 9) 0, Bo x.owe, I x.due, I x.times]) rfl rfl rfl rfl rfl rfl rfl rfl (Nat.le_of_ble_eq_true rfl) rfl ?_
   refine RW.le [(2, .obj b1 ((Stream.c x).map .r)), (3, .obj b2 ((Seg.c s).map .r)), (4, .obj b3 [I 0, I 0, I 0, I 0, S (⟨#[]⟩), I 0, I 0, Bo false, S (⟨#[]⟩), .r (.v (.slice none 0 0)), Bo false, I 0, I 0]), (5, .obj b12 [I x.state, I x.iss, I x.una, I x.rcv, S x.wait, I x.sent, I x.fin, Bo x.peerFin, S x.in_, .al 17 (some 9) 2 x.late.length (g11 0 9) 0, Bo x.owe, I x.due, I x.times]), (17, .agg [I x.state, I x.iss, I x.una, I x.rcv, S x.wait, I x.sent, I x.fin, Bo x.peerFin, S x.in_, .w (sl 2 Late.c x.late) (g11 0 9), Bo x.owe, I x.due, I x.times])] rfl (Le.of rfl) ?_
   refine RW.pullA (k := 5) (l := 17) (j := 9) 5 17 9 rfl rfl rfl (by decide) rfl rfl rfl rfl ?_
   refine RW.le [(2, .obj b1 ((Stream.c x).map .r)), (3, .obj b2 ((Seg.c s).map .r)), (4, .obj b3 [I 0, I 0, I 0, I 0, S (⟨#[]⟩), I 0, I 0, Bo false, S (⟨#[]⟩), .r (.v (.slice none 0 0)), Bo false, I 0, I 0]), (5, .obj b12 [I x.state, I x.iss, I x.una, I x.rcv, S x.wait, I x.sent, I x.fin, Bo x.peerFin, S x.in_, .w (sl 2 Late.c x.late) (g11 0 9), Bo x.owe, I x.due, I x.times])] rfl (Le.of rfl) ?_
   refine RW.nil ?_
   refine CW.le [(2, .obj b1 ((Stream.c x).map .r)), (3, .obj b2 ((Seg.c s).map .r)), (4, .obj b3 [I 0, I 0, I 0, I 0, S (⟨#[]⟩), I 0, I 0, Bo false, S (⟨#[]⟩), .r (.v (.slice none 0 0)), Bo false, I 0, I 0]), (5, .obj b12 [I x.state, I x.iss, I x.una, I x.rcv, S x.wait, I x.sent, I x.fin, Bo x.peerFin, S x.in_, .w (sl 2 Late.c x.late) (g11 0 9), Bo x.owe, I x.due, I x.times])] rfl (Le.of rfl) ?_
   refine CW.seq ?_
   refine CW.region ?_
   refine RW.v rfl (V.loadAgg rfl rfl rfl rfl rfl (Nat.le_of_ble_eq_true rfl)) ?_
   refine RW.callW (k := 5) (__impl_Stream__hear_fn x s (streamOk_sent hxo) hso hb) rfl rfl (Nat.le_of_ble_eq_true rfl) (by decide) (.here (AsW.ob (DT.v (DT.v (DT.v (DT.v (DT.v (DT.v (DT.v (DT.v (DT.v (DT.w (DT.v (DT.v (DT.v DT.e))))))))))))) rfl) (.cons (.agg (.cons (.r .r) (.cons (.r .r) (.cons (.r .r) (.cons (.r .r) (.nil)))))) (.nil))) rfl fun g13 q14 => ?_
   refine RW.nil ?_
   refine CW.le [(2, .obj b1 ((Stream.c x).map .r)), (4, .obj b3 [I 0, I 0, I 0, I 0, S (⟨#[]⟩), I 0, I 0, Bo false, S (⟨#[]⟩), .r (.v (.slice none 0 0)), Bo false, I 0, I 0]), (5, .obj b12 [I ((hearN x s).state), I ((hearN x s).iss), I ((hearN x s).una), I ((hearN x s).rcv), S ((hearN x s).wait), I ((hearN x s).sent), I ((hearN x s).fin), Bo ((hearN x s).peerFin), S ((hearN x s).in_), .w (sl 2 Late.c ((hearN x s).late)) (q14 9), Bo ((hearN x s).owe), I ((hearN x s).due), I ((hearN x s).times)])] rfl (Le.of rfl) ?_
   refine CW.seq ?_
   refine CW.seq ?_
   refine CW.region ?_
   refine RW.v rfl (V.field rfl rfl rfl rfl (by decide) rfl) ?_
   refine RW.v rfl (V.loadPrim (d := S ((hearN x s).in_)) rfl rfl (.inl rfl) rfl rfl rfl) ?_
   refine RW.v rfl (V.lenStr rfl (by kernel_rfl) rfl) ?_
   refine RW.v rfl (V.cmpInt rfl rfl rfl rfl) ?_
   refine RW.nil ?_
   refine CW.le [(2, .obj b1 ((Stream.c x).map .r)), (4, .obj b3 [I 0, I 0, I 0, I 0, S (⟨#[]⟩), I 0, I 0, Bo false, S (⟨#[]⟩), .r (.v (.slice none 0 0)), Bo false, I 0, I 0]), (5, .obj b12 [I ((hearN x s).state), I ((hearN x s).iss), I ((hearN x s).una), I ((hearN x s).rcv), S ((hearN x s).wait), I ((hearN x s).sent), I ((hearN x s).fin), Bo ((hearN x s).peerFin), S ((hearN x s).in_), .w (sl 2 Late.c ((hearN x s).late)) (q14 9), Bo ((hearN x s).owe), I ((hearN x s).due), I ((hearN x s).times)]), (23, Bo (decide ((((hearN x s).in_).size : Int) > 1000)))] rfl (Le.of rfl) ?_
   refine CW.cond rfl (fun h15 => ?_) (fun h15 => ?_)
   ·skip
    refine CW.seq ?_
    refine CW.region ?_
    refine RW.v rfl (V.loadAgg rfl rfl rfl rfl rfl (Nat.le_of_ble_eq_true rfl)) ?_
    refine RW.call rfl (impl_copyStream_fn x hm) rfl (.cons (.agg (.cons (.r .r) (.cons (.r .r) (.cons (.r .r) (.cons (.r .r) (.cons (.r .r) (.cons (.r .r) (.cons (.r .r) (.cons (.r .r) (.cons (.r .r) (.cons (.r .r) (.cons (.r .r) (.cons (.r .r) (.cons (.r .r) (.nil))))))))))))))) (.nil)) fun g16 => ?_
    refine RW.storeAgg (es := [I x.state, I x.iss, I x.una, I x.rcv, S x.wait, I x.sent, I x.fin, Bo x.peerFin, S x.in_, .al 25 (some 9) 2 x.late.length (g16 0 9) 0, Bo x.owe, I x.due, I x.times]) rfl rfl rfl rfl rfl rfl rfl rfl (Nat.le_of_ble_eq_true rfl) rfl ?_
    refine RW.le [(4, .obj b3 [I x.state, I x.iss, I x.una, I x.rcv, S x.wait, I x.sent, I x.fin, Bo x.peerFin, S x.in_, .al 25 (some 9) 2 x.late.length (g16 0 9) 0, Bo x.owe, I x.due, I x.times]), (25, .agg [I x.state, I x.iss, I x.una, I x.rcv, S x.wait, I x.sent, I x.fin, Bo x.peerFin, S x.in_, .w (sl 2 Late.c x.late) (g16 0 9), Bo x.owe, I x.due, I x.times])] rfl (Le.of rfl) ?_
    refine RW.pullA (k := 4) (l := 25) (j := 9) 4 25 9 rfl rfl rfl (by decide) rfl rfl rfl rfl ?_
    refine RW.le [(4, .obj b3 [I x.state, I x.iss, I x.una, I x.rcv, S x.wait, I x.sent, I x.fin, Bo x.peerFin, S x.in_, .w (sl 2 Late.c x.late) (g16 0 9), Bo x.owe, I x.due, I x.times])] rfl (Le.of rfl) ?_
    refine RW.nil ?_
    refine CW.le [(4, .obj b3 [I x.state, I x.iss, I x.una, I x.rcv, S x.wait, I x.sent, I x.fin, Bo x.peerFin, S x.in_, .w (sl 2 Late.c x.late) (g16 0 9), Bo x.owe, I x.due, I x.times])] rfl (Le.of rfl) ?_
    refine CW.ret ?_
    exact Post.one (RV.c (f := fun e => (Stream.c e).map .w) (e' := x) rfl rfl rfl rfl (DT.v (DT.v (DT.v (DT.v (DT.v (DT.v (DT.v (DT.v (DT.v (DT.w (DT.v (DT.v (DT.v DT.e))))))))))))) (by simp_all [hear] <;> (intro hh; omega))) (AOs.a rfl (AOs.a rfl AOs.e))
   ·skip
    refine CW.skip ?_
    refine CW.le [(4, .obj b3 [I 0, I 0, I 0, I 0, S (⟨#[]⟩), I 0, I 0, Bo false, S (⟨#[]⟩), .r (.v (.slice none 0 0)), Bo false, I 0, I 0]), (5, .obj b12 [I ((hearN x s).state), I ((hearN x s).iss), I ((hearN x s).una), I ((hearN x s).rcv), S ((hearN x s).wait), I ((hearN x s).sent), I ((hearN x s).fin), Bo ((hearN x s).peerFin), S ((hearN x s).in_), .w (sl 2 Late.c ((hearN x s).late)) (q14 9), Bo ((hearN x s).owe), I ((hearN x s).due), I ((hearN x s).times)])] rfl (Le.of rfl) ?_
    refine CW.seq ?_
    refine CW.region ?_
    refine RW.v rfl (V.loadAgg rfl rfl rfl rfl rfl (Nat.le_of_ble_eq_true rfl)) ?_
    refine RW.storeAgg (es := [I ((hearN x s).state), I ((hearN x s).iss), I ((hearN x s).una), I ((hearN x s).rcv), S ((hearN x s).wait), I ((hearN x s).sent), I ((hearN x s).fin), Bo ((hearN x s).peerFin), S ((hearN x s).in_), .al 5 (some 9) 2 (((hearN x s).late).length) (q14 9) 0, Bo ((hearN x s).owe), I ((hearN x s).due), I ((hearN x s).times)]) rfl rfl rfl rfl rfl rfl rfl rfl (Nat.le_of_ble_eq_true rfl) rfl ?_
    refine RW.le [(4, .obj b3 [I ((hearN x s).state), I ((hearN x s).iss), I ((hearN x s).una), I ((hearN x s).rcv), S ((hearN x s).wait), I ((hearN x s).sent), I ((hearN x s).fin), Bo ((hearN x s).peerFin), S ((hearN x s).in_), .al 5 (some 9) 2 (((hearN x s).late).length) (q14 9) 0, Bo ((hearN x s).owe), I ((hearN x s).due), I ((hearN x s).times)]), (5, .obj b12 [I ((hearN x s).state), I ((hearN x s).iss), I ((hearN x s).una), I ((hearN x s).rcv), S ((hearN x s).wait), I ((hearN x s).sent), I ((hearN x s).fin), Bo ((hearN x s).peerFin), S ((hearN x s).in_), .w (sl 2 Late.c ((hearN x s).late)) (q14 9), Bo ((hearN x s).owe), I ((hearN x s).due), I ((hearN x s).times)])] rfl (Le.of rfl) ?_
    refine RW.pullO (k := 4) (l := 5) (j := 9) 4 5 9 rfl rfl rfl (by decide) rfl rfl rfl rfl ?_
    refine RW.le [(4, .obj b3 [I ((hearN x s).state), I ((hearN x s).iss), I ((hearN x s).una), I ((hearN x s).rcv), S ((hearN x s).wait), I ((hearN x s).sent), I ((hearN x s).fin), Bo ((hearN x s).peerFin), S ((hearN x s).in_), .w (sl 2 Late.c ((hearN x s).late)) (q14 9), Bo ((hearN x s).owe), I ((hearN x s).due), I ((hearN x s).times)])] rfl (Le.of rfl) ?_
    refine RW.nil ?_
    refine CW.le [(4, .obj b3 [I ((hearN x s).state), I ((hearN x s).iss), I ((hearN x s).una), I ((hearN x s).rcv), S ((hearN x s).wait), I ((hearN x s).sent), I ((hearN x s).fin), Bo ((hearN x s).peerFin), S ((hearN x s).in_), .w (sl 2 Late.c ((hearN x s).late)) (q14 9), Bo ((hearN x s).owe), I ((hearN x s).due), I ((hearN x s).times)])] rfl (Le.of rfl) ?_
    refine CW.ret ?_
    exact Post.one (RV.c (f := fun e => (Stream.c e).map .w) (e' := (hearN x s)) rfl rfl rfl rfl (DT.v (DT.v (DT.v (DT.v (DT.v (DT.v (DT.v (DT.v (DT.v (DT.w (DT.v (DT.v (DT.v DT.e))))))))))))) (by simp_all [hear] <;> (intro hh; omega))) (AOs.a rfl (AOs.a rfl AOs.e))
set_option maxHeartbeats 4000000 in
theorem __impl_Stream__pushOpen_fn (x : Stream) (now : Int) (due : Bool) (hx : pushOk x) : Eng.Fn E.P 38 [.ob ((Stream.c x).map .w), .one (.r (.v (.int .i64 now))), .one (.r (.v (.bool due)))] (.one (.one (.w (sl 4 Seg.c ((pushOpenN x now due).2))))) [.ob ((Stream.c ((pushOpenN x now due).1)).map .w), .one (.r (.v (.int .i64 now))), .one (.r (.v (.bool due)))] := by
 refine Eng.Fn.intro (E := E) (rvs := [.tmp 6]) Try.func38 rfl rfl rfl (by simp [outSlots, moved, rvSlot, sl]) ?_
 intro B g bo
 refine CW.le [(0, .obj (bo 0) [I x.state, I x.iss, I x.una, I x.rcv, S x.wait, I x.sent, I x.fin, Bo x.peerFin, S x.in_, .w (sl 2 Late.c x.late) (g 0 9), Bo x.owe, I x.due, I x.times]), (1, I now), (2, Bo due)] rfl (Le.of rfl) ?_
 refine CW.seq ?_
 refine CW.region ?_
 refine RW.v rfl (V.as (d := .r (.v (.slice none 0 0))) rfl rfl) ?_
 refine RW.nil ?_
 refine CW.le [(0, .obj (bo 0) [I x.state, I x.iss, I x.una, I x.rcv, S x.wait, I x.sent, I x.fin, Bo x.peerFin, S x.in_, .w (sl 2 Late.c x.late) (g 0 9), Bo x.owe, I x.due, I x.times]), (1, I now), (2, Bo due)] rfl (Le.of rfl) ?_
 refine CW.seq ?_
 refine CW.region ?_
 refine RW.build0 Seg.c rfl rfl rfl rfl rfl fun X1 => ?_
 refine RW.assignMove rfl rfl rfl (by decide) (Nat.le_of_ble_eq_true rfl) (Nat.le_of_ble_eq_true rfl) ?_
 refine RW.nil ?_
 refine CW.le [(0, .obj (bo 0) [I x.state, I x.iss, I x.una, I x.rcv, S x.wait, I x.sent, I x.fin, Bo x.peerFin, S x.in_, .w (sl 2 Late.c x.late) (g 0 9), Bo x.owe, I x.due, I x.times]), (1, I now), (2, Bo due), (7, .w (sl 4 Seg.c ([] : List Seg)) X1)] rfl (Le.of rfl) ?_
 refine CW.seq ?_
 refine CW.seqJ 187 (fun (v2 : Bool) => [(0, .obj (bo 0) [I x.state, I x.iss, I x.una, I x.rcv, S x.wait, I x.sent, I x.fin, Bo x.peerFin, S x.in_, .w (sl 2 Late.c x.late) (g 0 9), Bo x.owe, I x.due, I x.times]), (1, I now), (7, .w (sl 4 Seg.c ([] : List Seg)) X1), (24, Bo v2)]) (fun v2 => v2 = (due && (decide (x.sent > 0) || (x.fin == 2)))) ?_ ?_
 ·refine CW.region ?_
  refine RW.v rfl (V.mv (d := Bo due) rfl rfl) ?_
  refine RW.v rfl (V.mv (d := Bo due) rfl rfl) ?_
  refine RW.gv rfl rfl rfl rfl (fun h3 => V.mv (d := .pt 0 (bo 0) 0) rfl rfl) (fun h3 => ?_) (fun h3 => ?_)
  ·skip
   refine RW.gt rfl rfl rfl rfl (V.nilP rfl rfl) ?_
   refine RW.gt rfl rfl rfl rfl (V.field rfl rfl rfl rfl (by decide) rfl) ?_
   refine RW.gt rfl rfl rfl rfl (V.loadPrim (d := I x.sent) rfl rfl (.inl rfl) rfl rfl rfl) ?_
   refine RW.gt rfl rfl rfl rfl (V.cmpInt rfl rfl rfl rfl) ?_
   refine RW.gt rfl rfl rfl rfl (V.mv (d := Bo (decide (x.sent > 0))) rfl rfl) ?_
   refine RW.gv rfl rfl rfl rfl (fun h4 => V.mv (d := .pt 0 (bo 0) 0) rfl rfl) (fun h4 => ?_) (fun h4 => ?_)
   ·skip
    refine RW.gt rfl rfl rfl rfl (V.nilP rfl rfl) ?_
    refine RW.gt rfl rfl rfl rfl (V.field rfl rfl rfl rfl (by decide) rfl) ?_
    refine RW.gt rfl rfl rfl rfl (V.loadPrim (d := I x.fin) rfl rfl (.inl rfl) rfl rfl rfl) ?_
    refine RW.gt rfl rfl rfl rfl (V.cmpInt rfl rfl rfl rfl) ?_
    refine RW.gt rfl rfl rfl rfl (V.pickF (d := Bo (x.fin == 2)) rfl rfl rfl) ?_
    refine RW.v rfl (V.pickT (d := Bo (x.fin == 2)) rfl rfl rfl) ?_
    refine RW.nil ?_
    exact ⟨_, by first | rfl | (simp_all; done) | (simp_all; omega) | grind, rfl, Le.c rfl <| Le.c rfl <| Le.c rfl <| Le.c rfl <| Le.e⟩
   ·skip
    refine RW.guardF rfl rfl rfl rfl ?_
    refine RW.guardF rfl rfl rfl rfl ?_
    refine RW.guardF rfl rfl rfl rfl ?_
    refine RW.guardF rfl rfl rfl rfl ?_
    refine RW.gt rfl rfl rfl rfl (V.pickT (d := Bo true) rfl rfl rfl) ?_
    refine RW.v rfl (V.pickT (d := Bo true) rfl rfl rfl) ?_
    refine RW.nil ?_
    exact ⟨_, by first | rfl | (simp_all; done) | (simp_all; omega) | grind, rfl, Le.c rfl <| Le.c rfl <| Le.c rfl <| Le.c rfl <| Le.e⟩
  ·skip
   refine RW.guardF rfl rfl rfl rfl ?_
   refine RW.guardF rfl rfl rfl rfl ?_
   refine RW.guardF rfl rfl rfl rfl ?_
   refine RW.guardF rfl rfl rfl rfl ?_
   refine RW.guardF rfl rfl rfl rfl ?_
   refine RW.guardU rfl rfl rfl rfl ?_
   refine RW.guardU rfl rfl rfl rfl ?_
   refine RW.guardU rfl rfl rfl rfl ?_
   refine RW.guardU rfl rfl rfl rfl ?_
   refine RW.guardU rfl rfl rfl rfl ?_
   refine RW.guardF rfl rfl rfl rfl ?_
   refine RW.v rfl (V.pickF (d := Bo false) rfl rfl rfl) ?_
   refine RW.nil ?_
   exact ⟨_, by first | rfl | (simp_all; done) | (simp_all; omega) | grind, rfl, Le.c rfl <| Le.c rfl <| Le.c rfl <| Le.c rfl <| Le.e⟩
 ·intro v2 hv5
  refine CW.joinS 187 (fun (y : Stream) => [(0, .obj (bo 0) [I y.state, I y.iss, I y.una, I y.rcv, S y.wait, I y.sent, I y.fin, Bo y.peerFin, S y.in_, .w (sl 2 Late.c y.late) (g 0 9), Bo y.owe, I y.due, I y.times]), (1, I now), (7, .w (sl 4 Seg.c ([] : List Seg)) X1)]) (fun (y : Stream) => y = backN x due) ?_ ?_
  ·skip
   refine CW.cond rfl (fun h6 => ?_) (fun h6 => ?_)
   ·skip
    refine CW.seq ?_
    refine CW.region ?_
    refine RW.v rfl (V.mv (d := .pt 0 (bo 0) 0) rfl rfl) ?_
    refine RW.v rfl (V.nilP rfl rfl) ?_
    refine RW.v rfl (V.field rfl rfl rfl rfl (by decide) rfl) ?_
    refine RW.store (d := I 0) rfl rfl rfl rfl rfl rfl rfl (Nat.le_of_ble_eq_true rfl) rfl rfl ?_
    refine RW.nil ?_
    refine CW.le [(0, .obj (bo 0) [I x.state, I x.iss, I x.una, I x.rcv, S x.wait, I 0, I x.fin, Bo x.peerFin, S x.in_, .w (sl 2 Late.c x.late) (g 0 9), Bo x.owe, I x.due, I x.times]), (1, I now), (7, .w (sl 4 Seg.c ([] : List Seg)) X1)] rfl (Le.of rfl) ?_
    refine CW.seq ?_
    refine CW.region ?_
    refine RW.v rfl (V.mv (d := .pt 0 (bo 0) 0) rfl rfl) ?_
    refine RW.v rfl (V.nilP rfl rfl) ?_
    refine RW.v rfl (V.field rfl rfl rfl rfl (by decide) rfl) ?_
    refine RW.v rfl (V.loadPrim (d := I x.fin) rfl rfl (.inl rfl) rfl rfl rfl) ?_
    refine RW.v rfl (V.cmpInt rfl rfl rfl rfl) ?_
    refine RW.nil ?_
    refine CW.le [(0, .obj (bo 0) [I x.state, I x.iss, I x.una, I x.rcv, S x.wait, I 0, I x.fin, Bo x.peerFin, S x.in_, .w (sl 2 Late.c x.late) (g 0 9), Bo x.owe, I x.due, I x.times]), (1, I now), (7, .w (sl 4 Seg.c ([] : List Seg)) X1), (32, Bo (x.fin == 2))] rfl (Le.of rfl) ?_
    refine CW.cond rfl (fun h7 => ?_) (fun h7 => ?_)
    ·skip
     refine CW.region ?_
     refine RW.v rfl (V.mv (d := .pt 0 (bo 0) 0) rfl rfl) ?_
     refine RW.v rfl (V.nilP rfl rfl) ?_
     refine RW.v rfl (V.field rfl rfl rfl rfl (by decide) rfl) ?_
     refine RW.store (d := I 1) rfl rfl rfl rfl rfl rfl rfl (Nat.le_of_ble_eq_true rfl) rfl rfl ?_
     refine RW.nil ?_
     exact ⟨(⟨x.state, x.iss, x.una, x.rcv, x.wait, 0, 1, x.peerFin, x.in_, x.late, x.owe, x.due, x.times⟩ : Stream), by unfold backN; first | (simp_all; done) | grind, rfl, Le.c rfl <| Le.c rfl <| Le.c rfl <| Le.e⟩
    ·skip
     refine CW.skip ?_
     exact ⟨(⟨x.state, x.iss, x.una, x.rcv, x.wait, 0, x.fin, x.peerFin, x.in_, x.late, x.owe, x.due, x.times⟩ : Stream), by unfold backN; first | (simp_all; done) | grind, rfl, Le.c rfl <| Le.c rfl <| Le.c rfl <| Le.e⟩
   ·skip
    refine CW.skip ?_
    exact ⟨x, by unfold backN; first | (simp_all; done) | grind, rfl, Le.c rfl <| Le.c rfl <| Le.c rfl <| Le.e⟩
  ·rintro y hy
   have hyo : pushOk y := by rw [hy]; exact backN_ok hx due
   refine CW.le [(0, .obj (bo 0) [I y.state, I y.iss, I y.una, I y.rcv, S y.wait, I y.sent, I y.fin, Bo y.peerFin, S y.in_, .w (sl 2 Late.c y.late) (g 0 9), Bo y.owe, I y.due, I y.times]), (1, I now), (7, .w (sl 4 Seg.c ([] : List Seg)) X1)] rfl (Le.of rfl) ?_
   refine CW.seq ?_
   refine CW.block ?_
   refine CW.loopI 187 (fun (x : Nat × Stream × List Seg × Value) => match x with | (n, z, l, X) => [(0, .obj (bo 0) [I z.state, I z.iss, I z.una, I z.rcv, S z.wait, I z.sent, I z.fin, Bo z.peerFin, S z.in_, .w (sl 2 Late.c z.late) (g 0 9), Bo z.owe, I z.due, I z.times]), (1, I now), (7, .w (sl 4 Seg.c l) X)]) (fun (x : Nat × Stream × List Seg × Value) => match x with | (n, z, l, X) => LoopP y n z l) (fun (x : Nat × Stream × List Seg × Value) => match x with | (n, z, l, X) => n) (4, y, [], _) rfl (Le.c rfl <| Le.c rfl <| Le.c rfl <| Le.e) (LoopP.init hyo) ?_
   rintro ⟨n, z, l, X⟩ hP
   refine CW.seq ?_
   refine CW.seqJ 187 (fun (v8 : Bool) => [(0, .obj (bo 0) [I z.state, I z.iss, I z.una, I z.rcv, S z.wait, I z.sent, I z.fin, Bo z.peerFin, S z.in_, .w (sl 2 Late.c z.late) (g 0 9), Bo z.owe, I z.due, I z.times]), (1, I now), (7, .w (sl 4 Seg.c l) X), (52, Bo v8)]) (fun v8 => v8 = (decide (z.sent < (z.wait.size : Int)) && decide (z.sent < 24))) ?_ ?_
   ·refine CW.drawn (by kernel_rfl) ?_
    refine RQ.v rfl (V.mv (d := .pt 0 (bo 0) 0) rfl rfl) ?_
    refine RQ.v rfl (V.nilP rfl rfl) ?_
    refine RQ.v rfl (V.field rfl rfl rfl rfl (by decide) rfl) ?_
    refine RQ.v rfl (V.loadPrim (d := I z.sent) rfl rfl (.inl rfl) rfl rfl rfl) ?_
    refine RQ.v rfl (V.mv (d := .pt 0 (bo 0) 0) rfl rfl) ?_
    refine RQ.v rfl (V.nilP rfl rfl) ?_
    refine RQ.v rfl (V.field rfl rfl rfl rfl (by decide) rfl) ?_
    refine RQ.v rfl (V.loadPrim (d := S z.wait) rfl rfl (.inl rfl) rfl rfl rfl) ?_
    refine RQ.v rfl (V.lenStr rfl (by kernel_rfl) rfl) ?_
    refine RQ.v rfl (V.cmpInt rfl rfl rfl rfl) ?_
    refine RQ.v rfl (V.mv (d := Bo (decide (z.sent < (z.wait.size : Int)))) rfl rfl) ?_
    refine RQ.gv rfl rfl rfl rfl (fun h9 => V.mv (d := .pt 0 (bo 0) 0) rfl rfl) (fun h9 => ?_) (fun h9 => ?_)
    ·skip
     refine RQ.gt rfl rfl rfl rfl (V.nilP rfl rfl) ?_
     refine RQ.gt rfl rfl rfl rfl (V.field rfl rfl rfl rfl (by decide) rfl) ?_
     refine RQ.gt rfl rfl rfl rfl (V.loadPrim (d := I z.sent) rfl rfl (.inl rfl) rfl rfl rfl) ?_
     refine RQ.gt rfl rfl rfl rfl (V.cmpInt rfl rfl rfl rfl) ?_
     refine RQ.v rfl (V.pickT (d := Bo (decide (z.sent < 24))) rfl rfl rfl) ?_
     refine RQ.nil ?_
     exact ⟨_, by first | rfl | (simp_all; done) | (simp_all; omega) | grind, rfl, Le.c rfl <| Le.c rfl <| Le.c rfl <| Le.c rfl <| Le.e⟩
    ·skip
     refine RQ.guardF rfl rfl rfl rfl ?_
     refine RQ.guardF rfl rfl rfl rfl ?_
     refine RQ.guardF rfl rfl rfl rfl ?_
     refine RQ.guardF rfl rfl rfl rfl ?_
     refine RQ.v rfl (V.pickF (d := Bo false) rfl rfl rfl) ?_
     refine RQ.nil ?_
     exact ⟨_, by first | rfl | (simp_all; done) | (simp_all; omega) | grind, rfl, Le.c rfl <| Le.c rfl <| Le.c rfl <| Le.c rfl <| Le.e⟩
   ·intro v8 hv10
    refine CW.cond rfl (fun h11 => ?_) (fun h11 => ?_)
    ·skip
     have hg : segGo z = true := by unfold segGo; first | (simp_all; done) | grind
     refine CW.skip ?_
     refine CW.le [(0, .obj (bo 0) [I z.state, I z.iss, I z.una, I z.rcv, S z.wait, I z.sent, I z.fin, Bo z.peerFin, S z.in_, .w (sl 2 Late.c z.late) (g 0 9), Bo z.owe, I z.due, I z.times]), (1, I now), (7, .w (sl 4 Seg.c l) X)] rfl (Le.of rfl) ?_
     refine CW.block ?_
     refine CW.seq ?_
     refine CW.drawn (by kernel_rfl) ?_
     refine RQ.v rfl (V.mv (d := .pt 0 (bo 0) 0) rfl rfl) ?_
     refine RQ.v rfl (V.nilP rfl rfl) ?_
     refine RQ.v rfl (V.field rfl rfl rfl rfl (by decide) rfl) ?_
     refine RQ.v rfl (V.loadPrim (d := S z.wait) rfl rfl (.inl rfl) rfl rfl rfl) ?_
     refine RQ.v rfl (V.lenStr rfl (by kernel_rfl) rfl) ?_
     refine RQ.v rfl (V.mv (d := .pt 0 (bo 0) 0) rfl rfl) ?_
     refine RQ.v rfl (V.nilP rfl rfl) ?_
     refine RQ.v rfl (V.field rfl rfl rfl rfl (by decide) rfl) ?_
     refine RQ.v rfl (V.loadPrim (d := I z.sent) rfl rfl (.inl rfl) rfl rfl rfl) ?_
     refine RQ.v rfl (V.arInt rfl rfl rfl rfl) ?_
     refine RQ.v rfl (V.mv (d := .pt 0 (bo 0) 0) rfl rfl) ?_
     refine RQ.v rfl (V.nilP rfl rfl) ?_
     refine RQ.v rfl (V.field rfl rfl rfl rfl (by decide) rfl) ?_
     refine RQ.v rfl (V.loadPrim (d := I z.sent) rfl rfl (.inl rfl) rfl rfl rfl) ?_
     refine RQ.v rfl (V.arInt rfl rfl rfl rfl) ?_
     refine RQ.v rfl (V.min3I rfl rfl rfl rfl) ?_
     refine RQ.v rfl (V.as (d := I (mnI (mnI 8 (IntKind.i64.wrap ((z.wait.size : Int) - z.sent))) (IntKind.i64.wrap (24 - z.sent)))) rfl rfl) ?_
     refine RQ.nil ?_
     refine CW.le [(0, .obj (bo 0) [I z.state, I z.iss, I z.una, I z.rcv, S z.wait, I z.sent, I z.fin, Bo z.peerFin, S z.in_, .w (sl 2 Late.c z.late) (g 0 9), Bo z.owe, I z.due, I z.times]), (1, I now), (7, .w (sl 4 Seg.c l) X), (8, I (mnI (mnI 8 (IntKind.i64.wrap ((z.wait.size : Int) - z.sent))) (IntKind.i64.wrap (24 - z.sent))))] rfl (Le.of rfl) ?_
     refine CW.anyJ (fc := [(0, (bo 0), [.int .i64 z.state, .int .i64 z.iss, .int .i64 z.una, .int .i64 z.rcv, .string z.wait, .int .i64 z.sent, .int .i64 z.fin, .bool z.peerFin, .string z.in_, (g 0 9), .bool z.owe, .int .i64 z.due, .int .i64 z.times])]) 187 (fun (x : Value × Value × (Nat → Nat → Value)) => match x with | (Xo12_30_1, Xo12_31_1, go12_9_1) => [(0, .obj (bo 0) [I z.state, I z.iss, I z.una, I z.rcv, S z.wait, I z.sent, I z.fin, Bo z.peerFin, S z.in_, .w (sl 2 Late.c z.late) (g 0 9), Bo z.owe, I z.due, I z.times]), (1, I now), (7, .w (sl 4 Seg.c (l ++ ([(⟨(addNum z.una z.sent), z.rcv, 2, (z.wait.extract z.sent.toNat (IntKind.i64.wrap (z.sent + (mnI (mnI 8 (IntKind.i64.wrap ((z.wait.size : Int) - z.sent))) (IntKind.i64.wrap (24 - z.sent))))).toNat)⟩ : Seg)]))) Xo12_31_1), (8, I (mnI (mnI 8 (IntKind.i64.wrap ((z.wait.size : Int) - z.sent))) (IntKind.i64.wrap (24 - z.sent))))]) (fun all hall K hK => ?_) ?_
     ·skip
      have ro12_111111111111111111111111111111111 : ∀ (Xo12_30_1 : Value), ∀ (Xo12_31_1 : Value), ∀ (go12_9_1 : Nat → Nat → Value), RA [(0, (bo 0), [.int .i64 z.state, .int .i64 z.iss, .int .i64 z.una, .int .i64 z.rcv, .string z.wait, .int .i64 z.sent, .int .i64 z.fin, .bool z.peerFin, .string z.in_, (g 0 9), .bool z.owe, .int .i64 z.due, .int .i64 z.times])] E B all 0 #[true, true, true, true, true, true, true, true, true, true, true, true, true, true, true, true, true, true, true, true, true, true, true, true, true, true, true, true, true, true, true, true, true] ⟨187, [(0, .obj (bo 0) [I z.state, I z.iss, I z.una, I z.rcv, S z.wait, I z.sent, I z.fin, Bo z.peerFin, S z.in_, .w (sl 2 Late.c z.late) (g 0 9), Bo z.owe, I z.due, I z.times]), (1, I now), (7, .w (sl 4 Seg.c (l ++ ([(⟨(addNum z.una z.sent), z.rcv, 2, (z.wait.extract z.sent.toNat (IntKind.i64.wrap (z.sent + (mnI (mnI 8 (IntKind.i64.wrap ((z.wait.size : Int) - z.sent))) (IntKind.i64.wrap (24 - z.sent))))).toNat)⟩ : Seg)]))) Xo12_31_1), (8, I (mnI (mnI 8 (IntKind.i64.wrap ((z.wait.size : Int) - z.sent))) (IntKind.i64.wrap (24 - z.sent))))]⟩ K := by
       intro Xo12_30_1 Xo12_31_1 go12_9_1
       exact RA.of hall (RA.finH (Tell.c rfl rfl Tell.e) (by kernel_rfl) (hK (Xo12_30_1, Xo12_31_1, go12_9_1) _ rfl (Le.of rfl)))
      have ro12_111111111111111111111111111111110 : ∀ (Xo12_30_1 : Value), ∀ (Xo12_31_1 : Value), ∀ (go12_9_1 : Nat → Nat → Value), RA [(0, (bo 0), [.int .i64 z.state, .int .i64 z.iss, .int .i64 z.una, .int .i64 z.rcv, .string z.wait, .int .i64 z.sent, .int .i64 z.fin, .bool z.peerFin, .string z.in_, (g 0 9), .bool z.owe, .int .i64 z.due, .int .i64 z.times])] E B all 1 #[true, true, true, true, true, true, true, true, true, true, true, true, true, true, true, true, true, true, true, true, true, true, true, true, true, true, true, true, true, true, true, true, false] ⟨187, [(0, .obj (bo 0) [I z.state, I z.iss, I z.una, I z.rcv, S z.wait, I z.sent, I z.fin, Bo z.peerFin, S z.in_, .w (sl 2 Late.c z.late) (g 0 9), Bo z.owe, I z.due, I z.times]), (1, I now), (8, I (mnI (mnI 8 (IntKind.i64.wrap ((z.wait.size : Int) - z.sent))) (IntKind.i64.wrap (24 - z.sent)))), (100, .w (sl 4 Seg.c (l ++ ([(⟨(addNum z.una z.sent), z.rcv, 2, (z.wait.extract z.sent.toNat (IntKind.i64.wrap (z.sent + (mnI (mnI 8 (IntKind.i64.wrap ((z.wait.size : Int) - z.sent))) (IntKind.i64.wrap (24 - z.sent))))).toNat)⟩ : Seg)]))) Xo12_31_1)]⟩ K := by
       intro Xo12_30_1 Xo12_31_1 go12_9_1
       refine RA.of hall (RA.stepH (L := [32]) (Tell.c rfl rfl Tell.e) (by kernel_rfl) (by simp) (RA.each ?_ (RA.each0)))
       ·skip
        refine RO.assignMove rfl rfl rfl rfl rfl (by decide) (Nat.le_of_ble_eq_true rfl) (Nat.le_of_ble_eq_true rfl) ?_
        exact RA.to hall (RA.lr (ro12_111111111111111111111111111111111 Xo12_30_1 Xo12_31_1 go12_9_1) rfl rfl)
      have ro12_111111111111111111111111111111100 : ∀ (Xo12_30_1 : Value), ∀ (go12_9_1 : Nat → Nat → Value), RA [(0, (bo 0), [.int .i64 z.state, .int .i64 z.iss, .int .i64 z.una, .int .i64 z.rcv, .string z.wait, .int .i64 z.sent, .int .i64 z.fin, .bool z.peerFin, .string z.in_, (g 0 9), .bool z.owe, .int .i64 z.due, .int .i64 z.times])] E B all 2 #[true, true, true, true, true, true, true, true, true, true, true, true, true, true, true, true, true, true, true, true, true, true, true, true, true, true, true, true, true, true, true, false, false] ⟨187, [(0, .obj (bo 0) [I z.state, I z.iss, I z.una, I z.rcv, S z.wait, I z.sent, I z.fin, Bo z.peerFin, S z.in_, .w (sl 2 Late.c z.late) (g 0 9), Bo z.owe, I z.due, I z.times]), (1, I now), (7, .w (sl 4 Seg.c l) X), (8, I (mnI (mnI 8 (IntKind.i64.wrap ((z.wait.size : Int) - z.sent))) (IntKind.i64.wrap (24 - z.sent)))), (69, .al 7 none 4 l.length X 0), (99, .w (sl 4 Seg.c ([(⟨(addNum z.una z.sent), z.rcv, 2, (z.wait.extract z.sent.toNat (IntKind.i64.wrap (z.sent + (mnI (mnI 8 (IntKind.i64.wrap ((z.wait.size : Int) - z.sent))) (IntKind.i64.wrap (24 - z.sent))))).toNat)⟩ : Seg)])) Xo12_30_1)]⟩ K := by
       intro Xo12_30_1 go12_9_1
       refine RA.of hall (RA.stepH (L := [31]) (Tell.c rfl rfl Tell.e) (by kernel_rfl) (by simp) (RA.each ?_ (RA.each0)))
       ·skip
        refine RO.appendSR (c := Seg.c) (l1 := l) (l2 := [(⟨(addNum z.una z.sent), z.rcv, 2, (z.wait.extract z.sent.toNat (IntKind.i64.wrap (z.sent + (mnI (mnI 8 (IntKind.i64.wrap ((z.wait.size : Int) - z.sent))) (IntKind.i64.wrap (24 - z.sent))))).toNat)⟩ : Seg)]) rfl rfl rfl rfl rfl rfl rfl rfl rfl rfl (.al (k := none) (i := 99) (sz := 4) (V := Xo12_30_1) rfl rfl nofun) (by decide) (Nat.le_of_ble_eq_true rfl) Seg.len (fun _ => rfl) rfl (by have h7 := hP.len; simp only [maxLen, List.length_append, List.length_singleton]; omega) (by have h7 := hP.len; simp only [maxLen, List.length_append, List.length_singleton]; omega) fun Xo12_31_1 => ?_
        exact RA.to hall (RA.lr (ro12_111111111111111111111111111111110 Xo12_30_1 Xo12_31_1 go12_9_1) rfl rfl)
      have ro12_111111111111111111111111111111000 : ∀ (go12_9_1 : Nat → Nat → Value), RA [(0, (bo 0), [.int .i64 z.state, .int .i64 z.iss, .int .i64 z.una, .int .i64 z.rcv, .string z.wait, .int .i64 z.sent, .int .i64 z.fin, .bool z.peerFin, .string z.in_, (g 0 9), .bool z.owe, .int .i64 z.due, .int .i64 z.times])] E B all 3 #[true, true, true, true, true, true, true, true, true, true, true, true, true, true, true, true, true, true, true, true, true, true, true, true, true, true, true, true, true, true, false, false, false] ⟨187, [(0, .obj (bo 0) [I z.state, I z.iss, I z.una, I z.rcv, S z.wait, I z.sent, I z.fin, Bo z.peerFin, S z.in_, .w (sl 2 Late.c z.late) (g 0 9), Bo z.owe, I z.due, I z.times]), (1, I now), (7, .w (sl 4 Seg.c l) X), (8, I (mnI (mnI 8 (IntKind.i64.wrap ((z.wait.size : Int) - z.sent))) (IntKind.i64.wrap (24 - z.sent)))), (69, .al 7 none 4 l.length X 0), (98, .agg [I (addNum z.una z.sent), I z.rcv, I 2, S (z.wait.extract z.sent.toNat (IntKind.i64.wrap (z.sent + (mnI (mnI 8 (IntKind.i64.wrap ((z.wait.size : Int) - z.sent))) (IntKind.i64.wrap (24 - z.sent))))).toNat)])]⟩ K := by
       intro go12_9_1
       refine RA.of hall (RA.stepH (L := [30]) (Tell.c rfl rfl Tell.e) (by kernel_rfl) (by simp) (RA.each ?_ (RA.each0)))
       ·skip
        refine RO.build1 (c := Seg.c) (v := (⟨(addNum z.una z.sent), z.rcv, 2, (z.wait.extract z.sent.toNat (IntKind.i64.wrap (z.sent + (mnI (mnI 8 (IntKind.i64.wrap ((z.wait.size : Int) - z.sent))) (IntKind.i64.wrap (24 - z.sent))))).toNat)⟩ : Seg)) rfl rfl rfl rfl rfl rfl rfl rfl (DW.v (DW.v (DW.v (DW.v DW.e)))) Seg.len (by decide) (by decide) fun Xo12_30_1 => ?_
        exact RA.to hall (RA.lr (ro12_111111111111111111111111111111100 Xo12_30_1 go12_9_1) rfl rfl)
      have ro12_111111111011111111111111111110000 : RA [(0, (bo 0), [.int .i64 z.state, .int .i64 z.iss, .int .i64 z.una, .int .i64 z.rcv, .string z.wait, .int .i64 z.sent, .int .i64 z.fin, .bool z.peerFin, .string z.in_, (g 0 9), .bool z.owe, .int .i64 z.due, .int .i64 z.times])] E B all 5 #[true, true, true, true, true, true, true, true, true, false, true, true, true, true, true, true, true, true, true, true, true, true, true, true, true, true, true, true, true, false, false, false, false] ⟨187, [(0, .obj (bo 0) [I z.state, I z.iss, I z.una, I z.rcv, S z.wait, I z.sent, I z.fin, Bo z.peerFin, S z.in_, .w (sl 2 Late.c z.late) (g 0 9), Bo z.owe, I z.due, I z.times]), (1, I now), (7, .w (sl 4 Seg.c l) X), (8, I (mnI (mnI 8 (IntKind.i64.wrap ((z.wait.size : Int) - z.sent))) (IntKind.i64.wrap (24 - z.sent)))), (69, .al 7 none 4 l.length X 0), (73, I z.una), (77, I z.sent), (82, I z.rcv), (97, S (z.wait.extract z.sent.toNat (IntKind.i64.wrap (z.sent + (mnI (mnI 8 (IntKind.i64.wrap ((z.wait.size : Int) - z.sent))) (IntKind.i64.wrap (24 - z.sent))))).toNat))]⟩ K := by
       refine RA.of hall (RA.stepH (L := [9]) (Tell.c rfl rfl Tell.e) (by kernel_rfl) (by simp) (RA.each ?_ (RA.each0)))
       ·skip
        refine RO.call rfl rfl (impl_AddNum_fn z.una z.sent) rfl (.cons (.one (.r .r)) (.cons (.one (.r .r)) (.nil))) rfl fun go12_9_1 => ?_
        refine RA.first (i := 29) (ls' := #[true, true, true, true, true, true, true, true, true, true, true, true, true, true, true, true, true, true, true, true, true, true, true, true, true, true, true, true, true, true, false, false, false]) (Tell.c rfl rfl Tell.e) (by kernel_rfl) rfl rfl rfl (VF.p (V.build (ds := [I (addNum z.una z.sent), I z.rcv, I 2, S (z.wait.extract z.sent.toNat (IntKind.i64.wrap (z.sent + (mnI (mnI 8 (IntKind.i64.wrap ((z.wait.size : Int) - z.sent))) (IntKind.i64.wrap (24 - z.sent))))).toNat)]) rfl rfl rfl rfl (.one rfl rfl rfl (Nat.le_of_ble_eq_true rfl) (.one rfl rfl rfl (Nat.le_of_ble_eq_true rfl) (.one rfl rfl rfl (Nat.le_of_ble_eq_true rfl) (.one rfl rfl rfl (Nat.le_of_ble_eq_true rfl) (.nil))))))) ?_
        exact RA.to hall (RA.lr (ro12_111111111111111111111111111111000 go12_9_1) rfl rfl)
      have ro12_S : RA [(0, (bo 0), [.int .i64 z.state, .int .i64 z.iss, .int .i64 z.una, .int .i64 z.rcv, .string z.wait, .int .i64 z.sent, .int .i64 z.fin, .bool z.peerFin, .string z.in_, (g 0 9), .bool z.owe, .int .i64 z.due, .int .i64 z.times])] E B all 33 #[false, false, false, false, false, false, false, false, false, false, false, false, false, false, false, false, false, false, false, false, false, false, false, false, false, false, false, false, false, false, false, false, false] ⟨187, [(0, .obj (bo 0) [I z.state, I z.iss, I z.una, I z.rcv, S z.wait, I z.sent, I z.fin, Bo z.peerFin, S z.in_, .w (sl 2 Late.c z.late) (g 0 9), Bo z.owe, I z.due, I z.times]), (1, I now), (7, .w (sl 4 Seg.c l) X), (8, I (mnI (mnI 8 (IntKind.i64.wrap ((z.wait.size : Int) - z.sent))) (IntKind.i64.wrap (24 - z.sent))))]⟩ K := by
       refine RA.of hall ?_
       refine RA.first (i := 0) (ls' := #[true, false, false, false, false, false, false, false, false, false, false, false, false, false, false, false, false, false, false, false, false, false, false, false, false, false, false, false, false, false, false, false, false]) (Tell.c rfl rfl Tell.e) (by kernel_rfl) rfl rfl rfl (VF.p (V.mv (d := .al 7 none 4 l.length X 0) rfl rfl)) ?_
       refine RA.first (i := 1) (ls' := #[true, true, false, false, false, false, false, false, false, false, false, false, false, false, false, false, false, false, false, false, false, false, false, false, false, false, false, false, false, false, false, false, false]) (Tell.c rfl rfl Tell.e) (by kernel_rfl) rfl rfl rfl (VF.p (V.mv (d := .pt 0 (bo 0) 0) rfl rfl)) ?_
       refine RA.first (i := 2) (ls' := #[true, true, true, false, false, false, false, false, false, false, false, false, false, false, false, false, false, false, false, false, false, false, false, false, false, false, false, false, false, false, false, false, false]) (Tell.c rfl rfl Tell.e) (by kernel_rfl) rfl rfl rfl (VF.p (V.nilP rfl rfl)) ?_
       refine RA.first (i := 3) (ls' := #[true, true, true, true, false, false, false, false, false, false, false, false, false, false, false, false, false, false, false, false, false, false, false, false, false, false, false, false, false, false, false, false, false]) (Tell.c rfl rfl Tell.e) (by kernel_rfl) rfl rfl rfl (VF.p (V.field rfl rfl rfl rfl (by decide) rfl)) ?_
       refine RA.le [(0, .obj (bo 0) [I z.state, I z.iss, I z.una, I z.rcv, S z.wait, I z.sent, I z.fin, Bo z.peerFin, S z.in_, .w (sl 2 Late.c z.late) (g 0 9), Bo z.owe, I z.due, I z.times]), (1, I now), (7, .w (sl 4 Seg.c l) X), (8, I (mnI (mnI 8 (IntKind.i64.wrap ((z.wait.size : Int) - z.sent))) (IntKind.i64.wrap (24 - z.sent)))), (69, .al 7 none 4 l.length X 0), (72, .pt 0 (bo 0) 2)] rfl (Le.of rfl) ?_
       refine RA.first (i := 4) (ls' := #[true, true, true, true, true, false, false, false, false, false, false, false, false, false, false, false, false, false, false, false, false, false, false, false, false, false, false, false, false, false, false, false, false]) (Tell.c rfl rfl Tell.e) (by kernel_rfl) rfl rfl rfl (VF.loadPrim (m := 0) (d := I z.una) rfl rfl rfl (.inl rfl) rfl rfl rfl rfl) ?_
       refine RA.first (i := 5) (ls' := #[true, true, true, true, true, true, false, false, false, false, false, false, false, false, false, false, false, false, false, false, false, false, false, false, false, false, false, false, false, false, false, false, false]) (Tell.c rfl rfl Tell.e) (by kernel_rfl) rfl rfl rfl (VF.p (V.mv (d := .pt 0 (bo 0) 0) rfl rfl)) ?_
       refine RA.first (i := 6) (ls' := #[true, true, true, true, true, true, true, false, false, false, false, false, false, false, false, false, false, false, false, false, false, false, false, false, false, false, false, false, false, false, false, false, false]) (Tell.c rfl rfl Tell.e) (by kernel_rfl) rfl rfl rfl (VF.p (V.nilP rfl rfl)) ?_
       refine RA.first (i := 7) (ls' := #[true, true, true, true, true, true, true, true, false, false, false, false, false, false, false, false, false, false, false, false, false, false, false, false, false, false, false, false, false, false, false, false, false]) (Tell.c rfl rfl Tell.e) (by kernel_rfl) rfl rfl rfl (VF.p (V.field rfl rfl rfl rfl (by decide) rfl)) ?_
       refine RA.le [(0, .obj (bo 0) [I z.state, I z.iss, I z.una, I z.rcv, S z.wait, I z.sent, I z.fin, Bo z.peerFin, S z.in_, .w (sl 2 Late.c z.late) (g 0 9), Bo z.owe, I z.due, I z.times]), (1, I now), (7, .w (sl 4 Seg.c l) X), (8, I (mnI (mnI 8 (IntKind.i64.wrap ((z.wait.size : Int) - z.sent))) (IntKind.i64.wrap (24 - z.sent)))), (69, .al 7 none 4 l.length X 0), (73, I z.una), (76, .pt 0 (bo 0) 5)] rfl (Le.of rfl) ?_
       refine RA.first (i := 8) (ls' := #[true, true, true, true, true, true, true, true, true, false, false, false, false, false, false, false, false, false, false, false, false, false, false, false, false, false, false, false, false, false, false, false, false]) (Tell.c rfl rfl Tell.e) (by kernel_rfl) rfl rfl rfl (VF.loadPrim (m := 0) (d := I z.sent) rfl rfl rfl (.inl rfl) rfl rfl rfl rfl) ?_
       refine RA.first (i := 10) (ls' := #[true, true, true, true, true, true, true, true, true, false, true, false, false, false, false, false, false, false, false, false, false, false, false, false, false, false, false, false, false, false, false, false, false]) (Tell.c rfl rfl Tell.e) (by kernel_rfl) rfl rfl rfl (VF.p (V.mv (d := .pt 0 (bo 0) 0) rfl rfl)) ?_
       refine RA.first (i := 11) (ls' := #[true, true, true, true, true, true, true, true, true, false, true, true, false, false, false, false, false, false, false, false, false, false, false, false, false, false, false, false, false, false, false, false, false]) (Tell.c rfl rfl Tell.e) (by kernel_rfl) rfl rfl rfl (VF.p (V.nilP rfl rfl)) ?_
       refine RA.first (i := 12) (ls' := #[true, true, true, true, true, true, true, true, true, false, true, true, true, false, false, false, false, false, false, false, false, false, false, false, false, false, false, false, false, false, false, false, false]) (Tell.c rfl rfl Tell.e) (by kernel_rfl) rfl rfl rfl (VF.p (V.field rfl rfl rfl rfl (by decide) rfl)) ?_
       refine RA.le [(0, .obj (bo 0) [I z.state, I z.iss, I z.una, I z.rcv, S z.wait, I z.sent, I z.fin, Bo z.peerFin, S z.in_, .w (sl 2 Late.c z.late) (g 0 9), Bo z.owe, I z.due, I z.times]), (1, I now), (7, .w (sl 4 Seg.c l) X), (8, I (mnI (mnI 8 (IntKind.i64.wrap ((z.wait.size : Int) - z.sent))) (IntKind.i64.wrap (24 - z.sent)))), (69, .al 7 none 4 l.length X 0), (73, I z.una), (77, I z.sent), (81, .pt 0 (bo 0) 3)] rfl (Le.of rfl) ?_
       refine RA.first (i := 13) (ls' := #[true, true, true, true, true, true, true, true, true, false, true, true, true, true, false, false, false, false, false, false, false, false, false, false, false, false, false, false, false, false, false, false, false]) (Tell.c rfl rfl Tell.e) (by kernel_rfl) rfl rfl rfl (VF.loadPrim (m := 0) (d := I z.rcv) rfl rfl rfl (.inl rfl) rfl rfl rfl rfl) ?_
       refine RA.first (i := 14) (ls' := #[true, true, true, true, true, true, true, true, true, false, true, true, true, true, true, false, false, false, false, false, false, false, false, false, false, false, false, false, false, false, false, false, false]) (Tell.c rfl rfl Tell.e) (by kernel_rfl) rfl rfl rfl (VF.p (V.mv (d := .pt 0 (bo 0) 0) rfl rfl)) ?_
       refine RA.first (i := 15) (ls' := #[true, true, true, true, true, true, true, true, true, false, true, true, true, true, true, true, false, false, false, false, false, false, false, false, false, false, false, false, false, false, false, false, false]) (Tell.c rfl rfl Tell.e) (by kernel_rfl) rfl rfl rfl (VF.p (V.nilP rfl rfl)) ?_
       refine RA.first (i := 16) (ls' := #[true, true, true, true, true, true, true, true, true, false, true, true, true, true, true, true, true, false, false, false, false, false, false, false, false, false, false, false, false, false, false, false, false]) (Tell.c rfl rfl Tell.e) (by kernel_rfl) rfl rfl rfl (VF.p (V.field rfl rfl rfl rfl (by decide) rfl)) ?_
       refine RA.le [(0, .obj (bo 0) [I z.state, I z.iss, I z.una, I z.rcv, S z.wait, I z.sent, I z.fin, Bo z.peerFin, S z.in_, .w (sl 2 Late.c z.late) (g 0 9), Bo z.owe, I z.due, I z.times]), (1, I now), (7, .w (sl 4 Seg.c l) X), (8, I (mnI (mnI 8 (IntKind.i64.wrap ((z.wait.size : Int) - z.sent))) (IntKind.i64.wrap (24 - z.sent)))), (69, .al 7 none 4 l.length X 0), (73, I z.una), (77, I z.sent), (82, I z.rcv), (85, .pt 0 (bo 0) 4)] rfl (Le.of rfl) ?_
       refine RA.first (i := 17) (ls' := #[true, true, true, true, true, true, true, true, true, false, true, true, true, true, true, true, true, true, false, false, false, false, false, false, false, false, false, false, false, false, false, false, false]) (Tell.c rfl rfl Tell.e) (by kernel_rfl) rfl rfl rfl (VF.loadPrim (m := 0) (d := S z.wait) rfl rfl rfl (.inl rfl) rfl rfl rfl rfl) ?_
       refine RA.first (i := 18) (ls' := #[true, true, true, true, true, true, true, true, true, false, true, true, true, true, true, true, true, true, true, false, false, false, false, false, false, false, false, false, false, false, false, false, false]) (Tell.c rfl rfl Tell.e) (by kernel_rfl) rfl rfl rfl (VF.p (V.mv (d := .pt 0 (bo 0) 0) rfl rfl)) ?_
       refine RA.first (i := 19) (ls' := #[true, true, true, true, true, true, true, true, true, false, true, true, true, true, true, true, true, true, true, true, false, false, false, false, false, false, false, false, false, false, false, false, false]) (Tell.c rfl rfl Tell.e) (by kernel_rfl) rfl rfl rfl (VF.p (V.nilP rfl rfl)) ?_
       refine RA.first (i := 20) (ls' := #[true, true, true, true, true, true, true, true, true, false, true, true, true, true, true, true, true, true, true, true, true, false, false, false, false, false, false, false, false, false, false, false, false]) (Tell.c rfl rfl Tell.e) (by kernel_rfl) rfl rfl rfl (VF.p (V.field rfl rfl rfl rfl (by decide) rfl)) ?_
       refine RA.le [(0, .obj (bo 0) [I z.state, I z.iss, I z.una, I z.rcv, S z.wait, I z.sent, I z.fin, Bo z.peerFin, S z.in_, .w (sl 2 Late.c z.late) (g 0 9), Bo z.owe, I z.due, I z.times]), (1, I now), (7, .w (sl 4 Seg.c l) X), (8, I (mnI (mnI 8 (IntKind.i64.wrap ((z.wait.size : Int) - z.sent))) (IntKind.i64.wrap (24 - z.sent)))), (69, .al 7 none 4 l.length X 0), (73, I z.una), (77, I z.sent), (82, I z.rcv), (86, S z.wait), (89, .pt 0 (bo 0) 5)] rfl (Le.of rfl) ?_
       refine RA.first (i := 21) (ls' := #[true, true, true, true, true, true, true, true, true, false, true, true, true, true, true, true, true, true, true, true, true, true, false, false, false, false, false, false, false, false, false, false, false]) (Tell.c rfl rfl Tell.e) (by kernel_rfl) rfl rfl rfl (VF.loadPrim (m := 0) (d := I z.sent) rfl rfl rfl (.inl rfl) rfl rfl rfl rfl) ?_
       refine RA.first (i := 22) (ls' := #[true, true, true, true, true, true, true, true, true, false, true, true, true, true, true, true, true, true, true, true, true, true, true, false, false, false, false, false, false, false, false, false, false]) (Tell.c rfl rfl Tell.e) (by kernel_rfl) rfl rfl rfl (VF.p (V.mv (d := .pt 0 (bo 0) 0) rfl rfl)) ?_
       refine RA.first (i := 23) (ls' := #[true, true, true, true, true, true, true, true, true, false, true, true, true, true, true, true, true, true, true, true, true, true, true, true, false, false, false, false, false, false, false, false, false]) (Tell.c rfl rfl Tell.e) (by kernel_rfl) rfl rfl rfl (VF.p (V.nilP rfl rfl)) ?_
       refine RA.first (i := 24) (ls' := #[true, true, true, true, true, true, true, true, true, false, true, true, true, true, true, true, true, true, true, true, true, true, true, true, true, false, false, false, false, false, false, false, false]) (Tell.c rfl rfl Tell.e) (by kernel_rfl) rfl rfl rfl (VF.p (V.field rfl rfl rfl rfl (by decide) rfl)) ?_
       refine RA.le [(0, .obj (bo 0) [I z.state, I z.iss, I z.una, I z.rcv, S z.wait, I z.sent, I z.fin, Bo z.peerFin, S z.in_, .w (sl 2 Late.c z.late) (g 0 9), Bo z.owe, I z.due, I z.times]), (1, I now), (7, .w (sl 4 Seg.c l) X), (8, I (mnI (mnI 8 (IntKind.i64.wrap ((z.wait.size : Int) - z.sent))) (IntKind.i64.wrap (24 - z.sent)))), (69, .al 7 none 4 l.length X 0), (73, I z.una), (77, I z.sent), (82, I z.rcv), (86, S z.wait), (90, I z.sent), (93, .pt 0 (bo 0) 5)] rfl (Le.of rfl) ?_
       refine RA.first (i := 25) (ls' := #[true, true, true, true, true, true, true, true, true, false, true, true, true, true, true, true, true, true, true, true, true, true, true, true, true, true, false, false, false, false, false, false, false]) (Tell.c rfl rfl Tell.e) (by kernel_rfl) rfl rfl rfl (VF.loadPrim (m := 0) (d := I z.sent) rfl rfl rfl (.inl rfl) rfl rfl rfl rfl) ?_
       refine RA.first (i := 26) (ls' := #[true, true, true, true, true, true, true, true, true, false, true, true, true, true, true, true, true, true, true, true, true, true, true, true, true, true, true, false, false, false, false, false, false]) (Tell.c rfl rfl Tell.e) (by kernel_rfl) rfl rfl rfl (VF.p (V.mv (d := I (mnI (mnI 8 (IntKind.i64.wrap ((z.wait.size : Int) - z.sent))) (IntKind.i64.wrap (24 - z.sent)))) rfl rfl)) ?_
       refine RA.first (i := 27) (ls' := #[true, true, true, true, true, true, true, true, true, false, true, true, true, true, true, true, true, true, true, true, true, true, true, true, true, true, true, true, false, false, false, false, false]) (Tell.c rfl rfl Tell.e) (by kernel_rfl) rfl rfl rfl (VF.p (V.arInt rfl rfl rfl rfl)) ?_
       refine RA.first (i := 28) (ls' := #[true, true, true, true, true, true, true, true, true, false, true, true, true, true, true, true, true, true, true, true, true, true, true, true, true, true, true, true, true, false, false, false, false]) (Tell.c rfl rfl Tell.e) (by kernel_rfl) rfl rfl rfl (VF.p (V.strSlice (l := z.sent) (h := (IntKind.i64.wrap (z.sent + (mnI (mnI 8 (IntKind.i64.wrap ((z.wait.size : Int) - z.sent))) (IntKind.i64.wrap (24 - z.sent)))))) rfl (by kernel_rfl) rfl (.inr ⟨_, _, rfl, rfl⟩) (.inr ⟨_, _, rfl, rfl⟩) (hP.slice hg))) ?_
       exact RA.to hall (RA.lr ro12_111111111011111111111111111110000 rfl rfl)
      exact RA.start (by kernel_rfl) (by kernel_rfl) (RA.lr ro12_S rfl rfl)
     ·rintro ⟨Xo12_30_1, Xo12_31_1, go12_9_1⟩
      refine CW.region ?_
      refine RW.v rfl (V.mv (d := .pt 0 (bo 0) 0) rfl rfl) ?_
      refine RW.v rfl (V.nilP rfl rfl) ?_
      refine RW.v rfl (V.field rfl rfl rfl rfl (by decide) rfl) ?_
      refine RW.v rfl (V.loadPrim (d := I z.sent) rfl rfl (.inl rfl) rfl rfl rfl) ?_
      refine RW.v rfl (V.mv (d := I (mnI (mnI 8 (IntKind.i64.wrap ((z.wait.size : Int) - z.sent))) (IntKind.i64.wrap (24 - z.sent)))) rfl rfl) ?_
      refine RW.v rfl (V.arInt rfl rfl rfl rfl) ?_
      refine RW.v rfl (V.nilP rfl rfl) ?_
      refine RW.v rfl (V.field rfl rfl rfl rfl (by decide) rfl) ?_
      refine RW.store (d := I (IntKind.i64.wrap (z.sent + (mnI (mnI 8 (IntKind.i64.wrap ((z.wait.size : Int) - z.sent))) (IntKind.i64.wrap (24 - z.sent)))))) rfl rfl rfl rfl rfl rfl rfl (Nat.le_of_ble_eq_true rfl) rfl rfl ?_
      refine RW.nil ?_
      exact ⟨(n - 1, _, _, _), by have := hP.pos hg; simp only []; omega, (hP.step hg), rfl, Le.c rfl <| Le.c rfl <| Le.c rfl <| Le.e⟩
    ·skip
     have hfin := hP.fin (by unfold segGo; first | (simp_all; done) | grind)
     refine CW.exit ?_
     refine CW.le [(0, .obj (bo 0) [I z.state, I z.iss, I z.una, I z.rcv, S z.wait, I z.sent, I z.fin, Bo z.peerFin, S z.in_, .w (sl 2 Late.c z.late) (g 0 9), Bo z.owe, I z.due, I z.times]), (1, I now), (7, .w (sl 4 Seg.c l) X)] rfl (Le.of rfl) ?_
     refine CW.seq ?_
     refine CW.seqJ 187 (fun (v13 : Bool) => [(0, .obj (bo 0) [I z.state, I z.iss, I z.una, I z.rcv, S z.wait, I z.sent, I z.fin, Bo z.peerFin, S z.in_, .w (sl 2 Late.c z.late) (g 0 9), Bo z.owe, I z.due, I z.times]), (1, I now), (7, .w (sl 4 Seg.c l) X), (125, Bo v13)]) (fun v13 => v13 = ((z.fin == 1) && (z.sent == (z.wait.size : Int)))) ?_ ?_
     ·refine CW.drawn (by kernel_rfl) ?_
      refine RQ.v rfl (V.mv (d := .pt 0 (bo 0) 0) rfl rfl) ?_
      refine RQ.v rfl (V.nilP rfl rfl) ?_
      refine RQ.v rfl (V.field rfl rfl rfl rfl (by decide) rfl) ?_
      refine RQ.v rfl (V.loadPrim (d := I z.fin) rfl rfl (.inl rfl) rfl rfl rfl) ?_
      refine RQ.v rfl (V.cmpInt rfl rfl rfl rfl) ?_
      refine RQ.v rfl (V.mv (d := Bo (z.fin == 1)) rfl rfl) ?_
      refine RQ.gv rfl rfl rfl rfl (fun h14 => V.mv (d := .pt 0 (bo 0) 0) rfl rfl) (fun h14 => ?_) (fun h14 => ?_)
      ·skip
       refine RQ.gt rfl rfl rfl rfl (V.nilP rfl rfl) ?_
       refine RQ.gt rfl rfl rfl rfl (V.field rfl rfl rfl rfl (by decide) rfl) ?_
       refine RQ.gt rfl rfl rfl rfl (V.loadPrim (d := I z.sent) rfl rfl (.inl rfl) rfl rfl rfl) ?_
       refine RQ.gt rfl rfl rfl rfl (V.mv (d := .pt 0 (bo 0) 0) rfl rfl) ?_
       refine RQ.gt rfl rfl rfl rfl (V.nilP rfl rfl) ?_
       refine RQ.gt rfl rfl rfl rfl (V.field rfl rfl rfl rfl (by decide) rfl) ?_
       refine RQ.gt rfl rfl rfl rfl (V.loadPrim (d := S z.wait) rfl rfl (.inl rfl) rfl rfl rfl) ?_
       refine RQ.gt rfl rfl rfl rfl (V.lenStr rfl (by kernel_rfl) rfl) ?_
       refine RQ.gt rfl rfl rfl rfl (V.cmpInt rfl rfl rfl rfl) ?_
       refine RQ.v rfl (V.pickT (d := Bo (z.sent == (z.wait.size : Int))) rfl rfl rfl) ?_
       refine RQ.nil ?_
       exact ⟨_, by first | rfl | (simp_all; done) | (simp_all; omega) | grind, rfl, Le.c rfl <| Le.c rfl <| Le.c rfl <| Le.c rfl <| Le.e⟩
      ·skip
       refine RQ.guardF rfl rfl rfl rfl ?_
       refine RQ.guardF rfl rfl rfl rfl ?_
       refine RQ.guardF rfl rfl rfl rfl ?_
       refine RQ.guardF rfl rfl rfl rfl ?_
       refine RQ.guardF rfl rfl rfl rfl ?_
       refine RQ.guardF rfl rfl rfl rfl ?_
       refine RQ.guardF rfl rfl rfl rfl ?_
       refine RQ.guardF rfl rfl rfl rfl ?_
       refine RQ.guardF rfl rfl rfl rfl ?_
       refine RQ.v rfl (V.pickF (d := Bo false) rfl rfl rfl) ?_
       refine RQ.nil ?_
       exact ⟨_, by first | rfl | (simp_all; done) | (simp_all; omega) | grind, rfl, Le.c rfl <| Le.c rfl <| Le.c rfl <| Le.c rfl <| Le.e⟩
     ·intro v13 hv15
      refine CW.cond rfl (fun h16 => ?_) (fun h16 => ?_)
      ·skip
       refine CW.anyJ (fc := [(0, (bo 0), [.int .i64 z.state, .int .i64 z.iss, .int .i64 z.una, .int .i64 z.rcv, .string z.wait, .int .i64 z.sent, .int .i64 z.fin, .bool z.peerFin, .string z.in_, (g 0 9), .bool z.owe, .int .i64 z.due, .int .i64 z.times])]) 187 (fun (x : Value × Value × (Nat → Nat → Value)) => match x with | (Xo17_15_1, Xo17_16_1, go17_9_1) => [(0, .obj (bo 0) [I z.state, I z.iss, I z.una, I z.rcv, S z.wait, I z.sent, I z.fin, Bo z.peerFin, S z.in_, .w (sl 2 Late.c z.late) (g 0 9), Bo z.owe, I z.due, I z.times]), (1, I now), (7, .w (sl 4 Seg.c (l ++ ([(⟨(addNum z.una z.sent), z.rcv, 6, ⟨#[]⟩⟩ : Seg)]))) Xo17_16_1)]) (fun all hall K hK => ?_) ?_
       ·skip
        have ro17_111111111111111111 : ∀ (Xo17_15_1 : Value), ∀ (Xo17_16_1 : Value), ∀ (go17_9_1 : Nat → Nat → Value), RA [(0, (bo 0), [.int .i64 z.state, .int .i64 z.iss, .int .i64 z.una, .int .i64 z.rcv, .string z.wait, .int .i64 z.sent, .int .i64 z.fin, .bool z.peerFin, .string z.in_, (g 0 9), .bool z.owe, .int .i64 z.due, .int .i64 z.times])] E B all 0 #[true, true, true, true, true, true, true, true, true, true, true, true, true, true, true, true, true, true] ⟨187, [(0, .obj (bo 0) [I z.state, I z.iss, I z.una, I z.rcv, S z.wait, I z.sent, I z.fin, Bo z.peerFin, S z.in_, .w (sl 2 Late.c z.late) (g 0 9), Bo z.owe, I z.due, I z.times]), (1, I now), (7, .w (sl 4 Seg.c (l ++ ([(⟨(addNum z.una z.sent), z.rcv, 6, ⟨#[]⟩⟩ : Seg)]))) Xo17_16_1)]⟩ K := by
         intro Xo17_15_1 Xo17_16_1 go17_9_1
         exact RA.of hall (RA.finH (Tell.c rfl rfl Tell.e) (by kernel_rfl) (hK (Xo17_15_1, Xo17_16_1, go17_9_1) _ rfl (Le.of rfl)))
        have ro17_111111111111111110 : ∀ (Xo17_15_1 : Value), ∀ (Xo17_16_1 : Value), ∀ (go17_9_1 : Nat → Nat → Value), RA [(0, (bo 0), [.int .i64 z.state, .int .i64 z.iss, .int .i64 z.una, .int .i64 z.rcv, .string z.wait, .int .i64 z.sent, .int .i64 z.fin, .bool z.peerFin, .string z.in_, (g 0 9), .bool z.owe, .int .i64 z.due, .int .i64 z.times])] E B all 1 #[true, true, true, true, true, true, true, true, true, true, true, true, true, true, true, true, true, false] ⟨187, [(0, .obj (bo 0) [I z.state, I z.iss, I z.una, I z.rcv, S z.wait, I z.sent, I z.fin, Bo z.peerFin, S z.in_, .w (sl 2 Late.c z.late) (g 0 9), Bo z.owe, I z.due, I z.times]), (1, I now), (142, .w (sl 4 Seg.c (l ++ ([(⟨(addNum z.una z.sent), z.rcv, 6, ⟨#[]⟩⟩ : Seg)]))) Xo17_16_1)]⟩ K := by
         intro Xo17_15_1 Xo17_16_1 go17_9_1
         refine RA.of hall (RA.stepH (L := [17]) (Tell.c rfl rfl Tell.e) (by kernel_rfl) (by simp) (RA.each ?_ (RA.each0)))
         ·skip
          refine RO.assignMove rfl rfl rfl rfl rfl (by decide) (Nat.le_of_ble_eq_true rfl) (Nat.le_of_ble_eq_true rfl) ?_
          exact RA.to hall (RA.lr (ro17_111111111111111111 Xo17_15_1 Xo17_16_1 go17_9_1) rfl rfl)
        have ro17_111111111111111100 : ∀ (Xo17_15_1 : Value), ∀ (go17_9_1 : Nat → Nat → Value), RA [(0, (bo 0), [.int .i64 z.state, .int .i64 z.iss, .int .i64 z.una, .int .i64 z.rcv, .string z.wait, .int .i64 z.sent, .int .i64 z.fin, .bool z.peerFin, .string z.in_, (g 0 9), .bool z.owe, .int .i64 z.due, .int .i64 z.times])] E B all 2 #[true, true, true, true, true, true, true, true, true, true, true, true, true, true, true, true, false, false] ⟨187, [(0, .obj (bo 0) [I z.state, I z.iss, I z.una, I z.rcv, S z.wait, I z.sent, I z.fin, Bo z.peerFin, S z.in_, .w (sl 2 Late.c z.late) (g 0 9), Bo z.owe, I z.due, I z.times]), (1, I now), (7, .w (sl 4 Seg.c l) X), (126, .al 7 none 4 l.length X 0), (141, .w (sl 4 Seg.c ([(⟨(addNum z.una z.sent), z.rcv, 6, ⟨#[]⟩⟩ : Seg)])) Xo17_15_1)]⟩ K := by
         intro Xo17_15_1 go17_9_1
         refine RA.of hall (RA.stepH (L := [16]) (Tell.c rfl rfl Tell.e) (by kernel_rfl) (by simp) (RA.each ?_ (RA.each0)))
         ·skip
          refine RO.appendSR (c := Seg.c) (l1 := l) (l2 := [(⟨(addNum z.una z.sent), z.rcv, 6, ⟨#[]⟩⟩ : Seg)]) rfl rfl rfl rfl rfl rfl rfl rfl rfl rfl (.al (k := none) (i := 141) (sz := 4) (V := Xo17_15_1) rfl rfl nofun) (by decide) (Nat.le_of_ble_eq_true rfl) Seg.len (fun _ => rfl) rfl (by have h7 := hP.len; simp only [maxLen, List.length_append, List.length_singleton]; omega) (by have h7 := hP.len; simp only [maxLen, List.length_append, List.length_singleton]; omega) fun Xo17_16_1 => ?_
          exact RA.to hall (RA.lr (ro17_111111111111111110 Xo17_15_1 Xo17_16_1 go17_9_1) rfl rfl)
        have ro17_111111111111111000 : ∀ (go17_9_1 : Nat → Nat → Value), RA [(0, (bo 0), [.int .i64 z.state, .int .i64 z.iss, .int .i64 z.una, .int .i64 z.rcv, .string z.wait, .int .i64 z.sent, .int .i64 z.fin, .bool z.peerFin, .string z.in_, (g 0 9), .bool z.owe, .int .i64 z.due, .int .i64 z.times])] E B all 3 #[true, true, true, true, true, true, true, true, true, true, true, true, true, true, true, false, false, false] ⟨187, [(0, .obj (bo 0) [I z.state, I z.iss, I z.una, I z.rcv, S z.wait, I z.sent, I z.fin, Bo z.peerFin, S z.in_, .w (sl 2 Late.c z.late) (g 0 9), Bo z.owe, I z.due, I z.times]), (1, I now), (7, .w (sl 4 Seg.c l) X), (126, .al 7 none 4 l.length X 0), (140, .agg [I (addNum z.una z.sent), I z.rcv, I 6, S (⟨#[]⟩)])]⟩ K := by
         intro go17_9_1
         refine RA.of hall (RA.stepH (L := [15]) (Tell.c rfl rfl Tell.e) (by kernel_rfl) (by simp) (RA.each ?_ (RA.each0)))
         ·skip
          refine RO.build1 (c := Seg.c) (v := (⟨(addNum z.una z.sent), z.rcv, 6, ⟨#[]⟩⟩ : Seg)) rfl rfl rfl rfl rfl rfl rfl rfl (DW.v (DW.v (DW.v (DW.v DW.e)))) Seg.len (by decide) (by decide) fun Xo17_15_1 => ?_
          exact RA.to hall (RA.lr (ro17_111111111111111100 Xo17_15_1 go17_9_1) rfl rfl)
        have ro17_111111111011110000 : RA [(0, (bo 0), [.int .i64 z.state, .int .i64 z.iss, .int .i64 z.una, .int .i64 z.rcv, .string z.wait, .int .i64 z.sent, .int .i64 z.fin, .bool z.peerFin, .string z.in_, (g 0 9), .bool z.owe, .int .i64 z.due, .int .i64 z.times])] E B all 5 #[true, true, true, true, true, true, true, true, true, false, true, true, true, true, false, false, false, false] ⟨187, [(0, .obj (bo 0) [I z.state, I z.iss, I z.una, I z.rcv, S z.wait, I z.sent, I z.fin, Bo z.peerFin, S z.in_, .w (sl 2 Late.c z.late) (g 0 9), Bo z.owe, I z.due, I z.times]), (1, I now), (7, .w (sl 4 Seg.c l) X), (126, .al 7 none 4 l.length X 0), (130, I z.una), (134, I z.sent), (139, I z.rcv)]⟩ K := by
         refine RA.of hall (RA.stepH (L := [9]) (Tell.c rfl rfl Tell.e) (by kernel_rfl) (by simp) (RA.each ?_ (RA.each0)))
         ·skip
          refine RO.call rfl rfl (impl_AddNum_fn z.una z.sent) rfl (.cons (.one (.r .r)) (.cons (.one (.r .r)) (.nil))) rfl fun go17_9_1 => ?_
          refine RA.first (i := 14) (ls' := #[true, true, true, true, true, true, true, true, true, true, true, true, true, true, true, false, false, false]) (Tell.c rfl rfl Tell.e) (by kernel_rfl) rfl rfl rfl (VF.p (V.build (ds := [I (addNum z.una z.sent), I z.rcv, I 6, S (⟨#[]⟩)]) rfl rfl rfl rfl (.one rfl rfl rfl (Nat.le_of_ble_eq_true rfl) (.one rfl rfl rfl (Nat.le_of_ble_eq_true rfl) (.one rfl rfl rfl (Nat.le_of_ble_eq_true rfl) (.nil)))))) ?_
          exact RA.to hall (RA.lr (ro17_111111111111111000 go17_9_1) rfl rfl)
        have ro17_S : RA [(0, (bo 0), [.int .i64 z.state, .int .i64 z.iss, .int .i64 z.una, .int .i64 z.rcv, .string z.wait, .int .i64 z.sent, .int .i64 z.fin, .bool z.peerFin, .string z.in_, (g 0 9), .bool z.owe, .int .i64 z.due, .int .i64 z.times])] E B all 18 #[false, false, false, false, false, false, false, false, false, false, false, false, false, false, false, false, false, false] ⟨187, [(0, .obj (bo 0) [I z.state, I z.iss, I z.una, I z.rcv, S z.wait, I z.sent, I z.fin, Bo z.peerFin, S z.in_, .w (sl 2 Late.c z.late) (g 0 9), Bo z.owe, I z.due, I z.times]), (1, I now), (7, .w (sl 4 Seg.c l) X)]⟩ K := by
         refine RA.of hall ?_
         refine RA.first (i := 0) (ls' := #[true, false, false, false, false, false, false, false, false, false, false, false, false, false, false, false, false, false]) (Tell.c rfl rfl Tell.e) (by kernel_rfl) rfl rfl rfl (VF.p (V.mv (d := .al 7 none 4 l.length X 0) rfl rfl)) ?_
         refine RA.first (i := 1) (ls' := #[true, true, false, false, false, false, false, false, false, false, false, false, false, false, false, false, false, false]) (Tell.c rfl rfl Tell.e) (by kernel_rfl) rfl rfl rfl (VF.p (V.mv (d := .pt 0 (bo 0) 0) rfl rfl)) ?_
         refine RA.first (i := 2) (ls' := #[true, true, true, false, false, false, false, false, false, false, false, false, false, false, false, false, false, false]) (Tell.c rfl rfl Tell.e) (by kernel_rfl) rfl rfl rfl (VF.p (V.nilP rfl rfl)) ?_
         refine RA.first (i := 3) (ls' := #[true, true, true, true, false, false, false, false, false, false, false, false, false, false, false, false, false, false]) (Tell.c rfl rfl Tell.e) (by kernel_rfl) rfl rfl rfl (VF.p (V.field rfl rfl rfl rfl (by decide) rfl)) ?_
         refine RA.le [(0, .obj (bo 0) [I z.state, I z.iss, I z.una, I z.rcv, S z.wait, I z.sent, I z.fin, Bo z.peerFin, S z.in_, .w (sl 2 Late.c z.late) (g 0 9), Bo z.owe, I z.due, I z.times]), (1, I now), (7, .w (sl 4 Seg.c l) X), (126, .al 7 none 4 l.length X 0), (129, .pt 0 (bo 0) 2)] rfl (Le.of rfl) ?_
         refine RA.first (i := 4) (ls' := #[true, true, true, true, true, false, false, false, false, false, false, false, false, false, false, false, false, false]) (Tell.c rfl rfl Tell.e) (by kernel_rfl) rfl rfl rfl (VF.loadPrim (m := 0) (d := I z.una) rfl rfl rfl (.inl rfl) rfl rfl rfl rfl) ?_
         refine RA.first (i := 5) (ls' := #[true, true, true, true, true, true, false, false, false, false, false, false, false, false, false, false, false, false]) (Tell.c rfl rfl Tell.e) (by kernel_rfl) rfl rfl rfl (VF.p (V.mv (d := .pt 0 (bo 0) 0) rfl rfl)) ?_
         refine RA.first (i := 6) (ls' := #[true, true, true, true, true, true, true, false, false, false, false, false, false, false, false, false, false, false]) (Tell.c rfl rfl Tell.e) (by kernel_rfl) rfl rfl rfl (VF.p (V.nilP rfl rfl)) ?_
         refine RA.first (i := 7) (ls' := #[true, true, true, true, true, true, true, true, false, false, false, false, false, false, false, false, false, false]) (Tell.c rfl rfl Tell.e) (by kernel_rfl) rfl rfl rfl (VF.p (V.field rfl rfl rfl rfl (by decide) rfl)) ?_
         refine RA.le [(0, .obj (bo 0) [I z.state, I z.iss, I z.una, I z.rcv, S z.wait, I z.sent, I z.fin, Bo z.peerFin, S z.in_, .w (sl 2 Late.c z.late) (g 0 9), Bo z.owe, I z.due, I z.times]), (1, I now), (7, .w (sl 4 Seg.c l) X), (126, .al 7 none 4 l.length X 0), (130, I z.una), (133, .pt 0 (bo 0) 5)] rfl (Le.of rfl) ?_
         refine RA.first (i := 8) (ls' := #[true, true, true, true, true, true, true, true, true, false, false, false, false, false, false, false, false, false]) (Tell.c rfl rfl Tell.e) (by kernel_rfl) rfl rfl rfl (VF.loadPrim (m := 0) (d := I z.sent) rfl rfl rfl (.inl rfl) rfl rfl rfl rfl) ?_
         refine RA.first (i := 10) (ls' := #[true, true, true, true, true, true, true, true, true, false, true, false, false, false, false, false, false, false]) (Tell.c rfl rfl Tell.e) (by kernel_rfl) rfl rfl rfl (VF.p (V.mv (d := .pt 0 (bo 0) 0) rfl rfl)) ?_
         refine RA.first (i := 11) (ls' := #[true, true, true, true, true, true, true, true, true, false, true, true, false, false, false, false, false, false]) (Tell.c rfl rfl Tell.e) (by kernel_rfl) rfl rfl rfl (VF.p (V.nilP rfl rfl)) ?_
         refine RA.first (i := 12) (ls' := #[true, true, true, true, true, true, true, true, true, false, true, true, true, false, false, false, false, false]) (Tell.c rfl rfl Tell.e) (by kernel_rfl) rfl rfl rfl (VF.p (V.field rfl rfl rfl rfl (by decide) rfl)) ?_
         refine RA.le [(0, .obj (bo 0) [I z.state, I z.iss, I z.una, I z.rcv, S z.wait, I z.sent, I z.fin, Bo z.peerFin, S z.in_, .w (sl 2 Late.c z.late) (g 0 9), Bo z.owe, I z.due, I z.times]), (1, I now), (7, .w (sl 4 Seg.c l) X), (126, .al 7 none 4 l.length X 0), (130, I z.una), (134, I z.sent), (138, .pt 0 (bo 0) 3)] rfl (Le.of rfl) ?_
         refine RA.first (i := 13) (ls' := #[true, true, true, true, true, true, true, true, true, false, true, true, true, true, false, false, false, false]) (Tell.c rfl rfl Tell.e) (by kernel_rfl) rfl rfl rfl (VF.loadPrim (m := 0) (d := I z.rcv) rfl rfl rfl (.inl rfl) rfl rfl rfl rfl) ?_
         exact RA.to hall (RA.lr ro17_111111111011110000 rfl rfl)
        exact RA.start (by kernel_rfl) (by kernel_rfl) (RA.lr ro17_S rfl rfl)
       ·rintro ⟨Xo17_15_1, Xo17_16_1, go17_9_1⟩
        refine CW.region ?_
        refine RW.v rfl (V.mv (d := .pt 0 (bo 0) 0) rfl rfl) ?_
        refine RW.v rfl (V.nilP rfl rfl) ?_
        refine RW.v rfl (V.field rfl rfl rfl rfl (by decide) rfl) ?_
        refine RW.store (d := I 2) rfl rfl rfl rfl rfl rfl rfl (Nat.le_of_ble_eq_true rfl) rfl rfl ?_
        refine RW.nil ?_
        refine CW.le [(0, .obj (bo 0) [I z.state, I z.iss, I z.una, I z.rcv, S z.wait, I z.sent, I 2, Bo z.peerFin, S z.in_, .w (sl 2 Late.c z.late) (g 0 9), Bo z.owe, I z.due, I z.times]), (1, I now), (7, .w (sl 4 Seg.c (l ++ ([(⟨(addNum z.una z.sent), z.rcv, 6, ⟨#[]⟩⟩ : Seg)]))) Xo17_16_1)] rfl (Le.of rfl) ?_
        refine CW.seq ?_
        refine CW.seq ?_
        refine CW.region ?_
        refine RW.v rfl (V.mv (d := .al 7 none 4 ((l ++ ([(⟨(addNum z.una z.sent), z.rcv, 6, ⟨#[]⟩⟩ : Seg)])).length) Xo17_16_1 0) rfl rfl) ?_
        refine RW.v rfl (V.lenT (n := (l ++ ([(⟨(addNum z.una z.sent), z.rcv, 6, ⟨#[]⟩⟩ : Seg)])).length) rfl rfl rfl (.al rfl rfl nofun)) ?_
        refine RW.v rfl (V.cmpInt rfl rfl rfl rfl) ?_
        refine RW.nil ?_
        refine CW.le [(0, .obj (bo 0) [I z.state, I z.iss, I z.una, I z.rcv, S z.wait, I z.sent, I 2, Bo z.peerFin, S z.in_, .w (sl 2 Late.c z.late) (g 0 9), Bo z.owe, I z.due, I z.times]), (1, I now), (7, .w (sl 4 Seg.c (l ++ ([(⟨(addNum z.una z.sent), z.rcv, 6, ⟨#[]⟩⟩ : Seg)]))) Xo17_16_1), (148, Bo (decide (((l ++ ([(⟨(addNum z.una z.sent), z.rcv, 6, ⟨#[]⟩⟩ : Seg)])).length : Int) > 0)))] rfl (Le.of rfl) ?_
        refine CW.cond rfl (fun h18 => ?_) (fun h18 => ?_)
        ·skip
         refine CW.seq ?_
         refine CW.region ?_
         refine RW.v rfl (V.mv (d := .pt 0 (bo 0) 0) rfl rfl) ?_
         refine RW.v rfl (V.mv (d := I now) rfl rfl) ?_
         refine RW.callW (k := 0) (__impl_Stream__again_fn (⟨z.state, z.iss, z.una, z.rcv, z.wait, z.sent, 2, z.peerFin, z.in_, z.late, z.owe, z.due, z.times⟩ : Stream) now ⟨hP.ok.2.2.2.2.1, hP.ok.2.2.2.2.2⟩) rfl rfl (Nat.le_of_ble_eq_true rfl) (by decide) (.here (AsW.ob (DT.v (DT.v (DT.v (DT.v (DT.v (DT.v (DT.v (DT.v (DT.v (DT.w (DT.v (DT.v (DT.v DT.e))))))))))))) rfl) (.cons (.one (.r .r)) (.nil))) rfl fun g19 q20 => ?_
         refine RW.nil ?_
         refine CW.le [(0, .obj (bo 0) [I ((againN (⟨z.state, z.iss, z.una, z.rcv, z.wait, z.sent, 2, z.peerFin, z.in_, z.late, z.owe, z.due, z.times⟩ : Stream) now).state), I ((againN (⟨z.state, z.iss, z.una, z.rcv, z.wait, z.sent, 2, z.peerFin, z.in_, z.late, z.owe, z.due, z.times⟩ : Stream) now).iss), I ((againN (⟨z.state, z.iss, z.una, z.rcv, z.wait, z.sent, 2, z.peerFin, z.in_, z.late, z.owe, z.due, z.times⟩ : Stream) now).una), I ((againN (⟨z.state, z.iss, z.una, z.rcv, z.wait, z.sent, 2, z.peerFin, z.in_, z.late, z.owe, z.due, z.times⟩ : Stream) now).rcv), S ((againN (⟨z.state, z.iss, z.una, z.rcv, z.wait, z.sent, 2, z.peerFin, z.in_, z.late, z.owe, z.due, z.times⟩ : Stream) now).wait), I ((againN (⟨z.state, z.iss, z.una, z.rcv, z.wait, z.sent, 2, z.peerFin, z.in_, z.late, z.owe, z.due, z.times⟩ : Stream) now).sent), I ((againN (⟨z.state, z.iss, z.una, z.rcv, z.wait, z.sent, 2, z.peerFin, z.in_, z.late, z.owe, z.due, z.times⟩ : Stream) now).fin), Bo ((againN (⟨z.state, z.iss, z.una, z.rcv, z.wait, z.sent, 2, z.peerFin, z.in_, z.late, z.owe, z.due, z.times⟩ : Stream) now).peerFin), S ((againN (⟨z.state, z.iss, z.una, z.rcv, z.wait, z.sent, 2, z.peerFin, z.in_, z.late, z.owe, z.due, z.times⟩ : Stream) now).in_), .w (sl 2 Late.c ((againN (⟨z.state, z.iss, z.una, z.rcv, z.wait, z.sent, 2, z.peerFin, z.in_, z.late, z.owe, z.due, z.times⟩ : Stream) now).late)) (q20 9), Bo ((againN (⟨z.state, z.iss, z.una, z.rcv, z.wait, z.sent, 2, z.peerFin, z.in_, z.late, z.owe, z.due, z.times⟩ : Stream) now).owe), I ((againN (⟨z.state, z.iss, z.una, z.rcv, z.wait, z.sent, 2, z.peerFin, z.in_, z.late, z.owe, z.due, z.times⟩ : Stream) now).due), I ((againN (⟨z.state, z.iss, z.una, z.rcv, z.wait, z.sent, 2, z.peerFin, z.in_, z.late, z.owe, z.due, z.times⟩ : Stream) now).times)]), (7, .w (sl 4 Seg.c (l ++ ([(⟨(addNum z.una z.sent), z.rcv, 6, ⟨#[]⟩⟩ : Seg)]))) Xo17_16_1)] rfl (Le.of rfl) ?_
         refine CW.region ?_
         refine RW.v rfl (V.mv (d := .pt 0 (bo 0) 0) rfl rfl) ?_
         refine RW.v rfl (V.nilP rfl rfl) ?_
         refine RW.v rfl (V.field rfl rfl rfl rfl (by decide) rfl) ?_
         refine RW.store (d := Bo false) rfl rfl rfl rfl rfl rfl rfl (Nat.le_of_ble_eq_true rfl) rfl rfl ?_
         refine RW.nil ?_
         refine CW.le [(0, .obj (bo 0) [I ((againN (⟨z.state, z.iss, z.una, z.rcv, z.wait, z.sent, 2, z.peerFin, z.in_, z.late, z.owe, z.due, z.times⟩ : Stream) now).state), I ((againN (⟨z.state, z.iss, z.una, z.rcv, z.wait, z.sent, 2, z.peerFin, z.in_, z.late, z.owe, z.due, z.times⟩ : Stream) now).iss), I ((againN (⟨z.state, z.iss, z.una, z.rcv, z.wait, z.sent, 2, z.peerFin, z.in_, z.late, z.owe, z.due, z.times⟩ : Stream) now).una), I ((againN (⟨z.state, z.iss, z.una, z.rcv, z.wait, z.sent, 2, z.peerFin, z.in_, z.late, z.owe, z.due, z.times⟩ : Stream) now).rcv), S ((againN (⟨z.state, z.iss, z.una, z.rcv, z.wait, z.sent, 2, z.peerFin, z.in_, z.late, z.owe, z.due, z.times⟩ : Stream) now).wait), I ((againN (⟨z.state, z.iss, z.una, z.rcv, z.wait, z.sent, 2, z.peerFin, z.in_, z.late, z.owe, z.due, z.times⟩ : Stream) now).sent), I ((againN (⟨z.state, z.iss, z.una, z.rcv, z.wait, z.sent, 2, z.peerFin, z.in_, z.late, z.owe, z.due, z.times⟩ : Stream) now).fin), Bo ((againN (⟨z.state, z.iss, z.una, z.rcv, z.wait, z.sent, 2, z.peerFin, z.in_, z.late, z.owe, z.due, z.times⟩ : Stream) now).peerFin), S ((againN (⟨z.state, z.iss, z.una, z.rcv, z.wait, z.sent, 2, z.peerFin, z.in_, z.late, z.owe, z.due, z.times⟩ : Stream) now).in_), .w (sl 2 Late.c ((againN (⟨z.state, z.iss, z.una, z.rcv, z.wait, z.sent, 2, z.peerFin, z.in_, z.late, z.owe, z.due, z.times⟩ : Stream) now).late)) (q20 9), Bo false, I ((againN (⟨z.state, z.iss, z.una, z.rcv, z.wait, z.sent, 2, z.peerFin, z.in_, z.late, z.owe, z.due, z.times⟩ : Stream) now).due), I ((againN (⟨z.state, z.iss, z.una, z.rcv, z.wait, z.sent, 2, z.peerFin, z.in_, z.late, z.owe, z.due, z.times⟩ : Stream) now).times)]), (7, .w (sl 4 Seg.c (l ++ ([(⟨(addNum z.una z.sent), z.rcv, 6, ⟨#[]⟩⟩ : Seg)]))) Xo17_16_1)] rfl (Le.of rfl) ?_
         refine CW.seq ?_
         refine CW.region ?_
         refine RW.v rfl (V.mv (d := .al 7 none 4 ((l ++ ([(⟨(addNum z.una z.sent), z.rcv, 6, ⟨#[]⟩⟩ : Seg)])).length) Xo17_16_1 0) rfl rfl) ?_
         refine RW.v rfl (V.as (d := .al 7 none 4 ((l ++ ([(⟨(addNum z.una z.sent), z.rcv, 6, ⟨#[]⟩⟩ : Seg)])).length) Xo17_16_1 0) rfl rfl) ?_
         refine RW.pullS 6 7 (by decide) rfl rfl ?_
         refine RW.nil ?_
         refine CW.le [(0, .obj (bo 0) [I ((againN (⟨z.state, z.iss, z.una, z.rcv, z.wait, z.sent, 2, z.peerFin, z.in_, z.late, z.owe, z.due, z.times⟩ : Stream) now).state), I ((againN (⟨z.state, z.iss, z.una, z.rcv, z.wait, z.sent, 2, z.peerFin, z.in_, z.late, z.owe, z.due, z.times⟩ : Stream) now).iss), I ((againN (⟨z.state, z.iss, z.una, z.rcv, z.wait, z.sent, 2, z.peerFin, z.in_, z.late, z.owe, z.due, z.times⟩ : Stream) now).una), I ((againN (⟨z.state, z.iss, z.una, z.rcv, z.wait, z.sent, 2, z.peerFin, z.in_, z.late, z.owe, z.due, z.times⟩ : Stream) now).rcv), S ((againN (⟨z.state, z.iss, z.una, z.rcv, z.wait, z.sent, 2, z.peerFin, z.in_, z.late, z.owe, z.due, z.times⟩ : Stream) now).wait), I ((againN (⟨z.state, z.iss, z.una, z.rcv, z.wait, z.sent, 2, z.peerFin, z.in_, z.late, z.owe, z.due, z.times⟩ : Stream) now).sent), I ((againN (⟨z.state, z.iss, z.una, z.rcv, z.wait, z.sent, 2, z.peerFin, z.in_, z.late, z.owe, z.due, z.times⟩ : Stream) now).fin), Bo ((againN (⟨z.state, z.iss, z.una, z.rcv, z.wait, z.sent, 2, z.peerFin, z.in_, z.late, z.owe, z.due, z.times⟩ : Stream) now).peerFin), S ((againN (⟨z.state, z.iss, z.una, z.rcv, z.wait, z.sent, 2, z.peerFin, z.in_, z.late, z.owe, z.due, z.times⟩ : Stream) now).in_), .w (sl 2 Late.c ((againN (⟨z.state, z.iss, z.una, z.rcv, z.wait, z.sent, 2, z.peerFin, z.in_, z.late, z.owe, z.due, z.times⟩ : Stream) now).late)) (q20 9), Bo false, I ((againN (⟨z.state, z.iss, z.una, z.rcv, z.wait, z.sent, 2, z.peerFin, z.in_, z.late, z.owe, z.due, z.times⟩ : Stream) now).due), I ((againN (⟨z.state, z.iss, z.una, z.rcv, z.wait, z.sent, 2, z.peerFin, z.in_, z.late, z.owe, z.due, z.times⟩ : Stream) now).times)]), (6, .w (sl 4 Seg.c (l ++ ([(⟨(addNum z.una z.sent), z.rcv, 6, ⟨#[]⟩⟩ : Seg)]))) Xo17_16_1)] rfl (Le.of rfl) ?_
         refine CW.ret ?_
         exact Post.one (RV.w rfl (by unfold pushOpenN; rw [← hy, hfin]; unfold oweSeg finSeg; first | (simp_all; done) | grind)) (AOs.obE (f := fun e => (Stream.c e).map .w) (e' := (⟨(againN (⟨z.state, z.iss, z.una, z.rcv, z.wait, z.sent, 2, z.peerFin, z.in_, z.late, z.owe, z.due, z.times⟩ : Stream) now).state, (againN (⟨z.state, z.iss, z.una, z.rcv, z.wait, z.sent, 2, z.peerFin, z.in_, z.late, z.owe, z.due, z.times⟩ : Stream) now).iss, (againN (⟨z.state, z.iss, z.una, z.rcv, z.wait, z.sent, 2, z.peerFin, z.in_, z.late, z.owe, z.due, z.times⟩ : Stream) now).una, (againN (⟨z.state, z.iss, z.una, z.rcv, z.wait, z.sent, 2, z.peerFin, z.in_, z.late, z.owe, z.due, z.times⟩ : Stream) now).rcv, (againN (⟨z.state, z.iss, z.una, z.rcv, z.wait, z.sent, 2, z.peerFin, z.in_, z.late, z.owe, z.due, z.times⟩ : Stream) now).wait, (againN (⟨z.state, z.iss, z.una, z.rcv, z.wait, z.sent, 2, z.peerFin, z.in_, z.late, z.owe, z.due, z.times⟩ : Stream) now).sent, (againN (⟨z.state, z.iss, z.una, z.rcv, z.wait, z.sent, 2, z.peerFin, z.in_, z.late, z.owe, z.due, z.times⟩ : Stream) now).fin, (againN (⟨z.state, z.iss, z.una, z.rcv, z.wait, z.sent, 2, z.peerFin, z.in_, z.late, z.owe, z.due, z.times⟩ : Stream) now).peerFin, (againN (⟨z.state, z.iss, z.una, z.rcv, z.wait, z.sent, 2, z.peerFin, z.in_, z.late, z.owe, z.due, z.times⟩ : Stream) now).in_, (againN (⟨z.state, z.iss, z.una, z.rcv, z.wait, z.sent, 2, z.peerFin, z.in_, z.late, z.owe, z.due, z.times⟩ : Stream) now).late, false, (againN (⟨z.state, z.iss, z.una, z.rcv, z.wait, z.sent, 2, z.peerFin, z.in_, z.late, z.owe, z.due, z.times⟩ : Stream) now).due, (againN (⟨z.state, z.iss, z.una, z.rcv, z.wait, z.sent, 2, z.peerFin, z.in_, z.late, z.owe, z.due, z.times⟩ : Stream) now).times⟩ : Stream)) rfl (DT.v (DT.v (DT.v (DT.v (DT.v (DT.v (DT.v (DT.v (DT.v (DT.w (DT.v (DT.v (DT.v DT.e))))))))))))) (by unfold pushOpenN; rw [← hy, hfin]; unfold oweSeg finSeg; first | (simp_all; done) | grind) (AOs.r (AOs.r AOs.e)))
        ·skip
         refine CW.seq ?_
         refine CW.region ?_
         refine RW.v rfl (V.mv (d := .pt 0 (bo 0) 0) rfl rfl) ?_
         refine RW.v rfl (V.nilP rfl rfl) ?_
         refine RW.v rfl (V.field rfl rfl rfl rfl (by decide) rfl) ?_
         refine RW.v rfl (V.loadPrim (d := Bo z.owe) rfl rfl (.inl rfl) rfl rfl rfl) ?_
         refine RW.nil ?_
         refine CW.le [(0, .obj (bo 0) [I z.state, I z.iss, I z.una, I z.rcv, S z.wait, I z.sent, I 2, Bo z.peerFin, S z.in_, .w (sl 2 Late.c z.late) (g 0 9), Bo z.owe, I z.due, I z.times]), (7, .w (sl 4 Seg.c (l ++ ([(⟨(addNum z.una z.sent), z.rcv, 6, ⟨#[]⟩⟩ : Seg)]))) Xo17_16_1), (158, Bo z.owe)] rfl (Le.of rfl) ?_
         refine CW.cond rfl (fun h21 => ?_) (fun h21 => ?_)
         ·skip
          refine CW.anyJ (fc := [(0, (bo 0), [.int .i64 z.state, .int .i64 z.iss, .int .i64 z.una, .int .i64 z.rcv, .string z.wait, .int .i64 z.sent, .int .i64 2, .bool z.peerFin, .string z.in_, (g 0 9), .bool z.owe, .int .i64 z.due, .int .i64 z.times])]) 187 (fun (x : Value × Value × (Nat → Nat → Value) × (Nat → Nat → Value)) => match x with | (Xo22_22_1, Xo22_23_1, go22_14_1, go22_16_1) => [(0, .obj (bo 0) [I z.state, I z.iss, I z.una, I z.rcv, S z.wait, I z.sent, I 2, Bo z.peerFin, S z.in_, .w (sl 2 Late.c z.late) (g 0 9), Bo z.owe, I z.due, I z.times]), (7, .w (sl 4 Seg.c ((l ++ ([(⟨(addNum z.una z.sent), z.rcv, 6, ⟨#[]⟩⟩ : Seg)])) ++ ([(⟨(addNum z.una (IntKind.i64.wrap (z.sent + (flagN (2 == 2))))), z.rcv, 2, ⟨#[]⟩⟩ : Seg)]))) Xo22_23_1)]) (fun all hall K hK => ?_) ?_
          ·skip
           have ro22_1111111111111111111111111 : ∀ (Xo22_22_1 : Value), ∀ (Xo22_23_1 : Value), ∀ (go22_14_1 : Nat → Nat → Value), ∀ (go22_16_1 : Nat → Nat → Value), RA [(0, (bo 0), [.int .i64 z.state, .int .i64 z.iss, .int .i64 z.una, .int .i64 z.rcv, .string z.wait, .int .i64 z.sent, .int .i64 2, .bool z.peerFin, .string z.in_, (g 0 9), .bool z.owe, .int .i64 z.due, .int .i64 z.times])] E B all 0 #[true, true, true, true, true, true, true, true, true, true, true, true, true, true, true, true, true, true, true, true, true, true, true, true, true] ⟨187, [(0, .obj (bo 0) [I z.state, I z.iss, I z.una, I z.rcv, S z.wait, I z.sent, I 2, Bo z.peerFin, S z.in_, .w (sl 2 Late.c z.late) (g 0 9), Bo z.owe, I z.due, I z.times]), (7, .w (sl 4 Seg.c ((l ++ ([(⟨(addNum z.una z.sent), z.rcv, 6, ⟨#[]⟩⟩ : Seg)])) ++ ([(⟨(addNum z.una (IntKind.i64.wrap (z.sent + (flagN (2 == 2))))), z.rcv, 2, ⟨#[]⟩⟩ : Seg)]))) Xo22_23_1)]⟩ K := by
            intro Xo22_22_1 Xo22_23_1 go22_14_1 go22_16_1
            exact RA.of hall (RA.finH (Tell.c rfl rfl Tell.e) (by kernel_rfl) (hK (Xo22_22_1, Xo22_23_1, go22_14_1, go22_16_1) _ rfl (Le.of rfl)))
           have ro22_1111111111111111111111110 : ∀ (Xo22_22_1 : Value), ∀ (Xo22_23_1 : Value), ∀ (go22_14_1 : Nat → Nat → Value), ∀ (go22_16_1 : Nat → Nat → Value), RA [(0, (bo 0), [.int .i64 z.state, .int .i64 z.iss, .int .i64 z.una, .int .i64 z.rcv, .string z.wait, .int .i64 z.sent, .int .i64 2, .bool z.peerFin, .string z.in_, (g 0 9), .bool z.owe, .int .i64 z.due, .int .i64 z.times])] E B all 1 #[true, true, true, true, true, true, true, true, true, true, true, true, true, true, true, true, true, true, true, true, true, true, true, true, false] ⟨187, [(0, .obj (bo 0) [I z.state, I z.iss, I z.una, I z.rcv, S z.wait, I z.sent, I 2, Bo z.peerFin, S z.in_, .w (sl 2 Late.c z.late) (g 0 9), Bo z.owe, I z.due, I z.times]), (182, .w (sl 4 Seg.c ((l ++ ([(⟨(addNum z.una z.sent), z.rcv, 6, ⟨#[]⟩⟩ : Seg)])) ++ ([(⟨(addNum z.una (IntKind.i64.wrap (z.sent + (flagN (2 == 2))))), z.rcv, 2, ⟨#[]⟩⟩ : Seg)]))) Xo22_23_1)]⟩ K := by
            intro Xo22_22_1 Xo22_23_1 go22_14_1 go22_16_1
            refine RA.of hall (RA.stepH (L := [24]) (Tell.c rfl rfl Tell.e) (by kernel_rfl) (by simp) (RA.each ?_ (RA.each0)))
            ·skip
             refine RO.assignMove rfl rfl rfl rfl rfl (by decide) (Nat.le_of_ble_eq_true rfl) (Nat.le_of_ble_eq_true rfl) ?_
             exact RA.to hall (RA.lr (ro22_1111111111111111111111111 Xo22_22_1 Xo22_23_1 go22_14_1 go22_16_1) rfl rfl)
           have ro22_1111111111111111111111100 : ∀ (Xo22_22_1 : Value), ∀ (go22_14_1 : Nat → Nat → Value), ∀ (go22_16_1 : Nat → Nat → Value), RA [(0, (bo 0), [.int .i64 z.state, .int .i64 z.iss, .int .i64 z.una, .int .i64 z.rcv, .string z.wait, .int .i64 z.sent, .int .i64 2, .bool z.peerFin, .string z.in_, (g 0 9), .bool z.owe, .int .i64 z.due, .int .i64 z.times])] E B all 2 #[true, true, true, true, true, true, true, true, true, true, true, true, true, true, true, true, true, true, true, true, true, true, true, false, false] ⟨187, [(0, .obj (bo 0) [I z.state, I z.iss, I z.una, I z.rcv, S z.wait, I z.sent, I 2, Bo z.peerFin, S z.in_, .w (sl 2 Late.c z.late) (g 0 9), Bo z.owe, I z.due, I z.times]), (7, .w (sl 4 Seg.c (l ++ ([(⟨(addNum z.una z.sent), z.rcv, 6, ⟨#[]⟩⟩ : Seg)]))) Xo17_16_1), (159, .al 7 none 4 ((l ++ ([(⟨(addNum z.una z.sent), z.rcv, 6, ⟨#[]⟩⟩ : Seg)])).length) Xo17_16_1 0), (181, .w (sl 4 Seg.c ([(⟨(addNum z.una (IntKind.i64.wrap (z.sent + (flagN (2 == 2))))), z.rcv, 2, ⟨#[]⟩⟩ : Seg)])) Xo22_22_1)]⟩ K := by
            intro Xo22_22_1 go22_14_1 go22_16_1
            refine RA.of hall (RA.stepH (L := [23]) (Tell.c rfl rfl Tell.e) (by kernel_rfl) (by simp) (RA.each ?_ (RA.each0)))
            ·skip
             refine RO.appendSR (c := Seg.c) (l1 := (l ++ ([(⟨(addNum z.una z.sent), z.rcv, 6, ⟨#[]⟩⟩ : Seg)]))) (l2 := [(⟨(addNum z.una (IntKind.i64.wrap (z.sent + (flagN (2 == 2))))), z.rcv, 2, ⟨#[]⟩⟩ : Seg)]) rfl rfl rfl rfl rfl rfl rfl rfl rfl rfl (.al (k := none) (i := 181) (sz := 4) (V := Xo22_22_1) rfl rfl nofun) (by decide) (Nat.le_of_ble_eq_true rfl) Seg.len (fun _ => rfl) rfl (by have h7 := hP.len; simp only [maxLen, List.length_append, List.length_singleton]; omega) (by have h7 := hP.len; simp only [maxLen, List.length_append, List.length_singleton]; omega) fun Xo22_23_1 => ?_
             exact RA.to hall (RA.lr (ro22_1111111111111111111111110 Xo22_22_1 Xo22_23_1 go22_14_1 go22_16_1) rfl rfl)
           have ro22_1111111111111111111111000 : ∀ (go22_14_1 : Nat → Nat → Value), ∀ (go22_16_1 : Nat → Nat → Value), RA [(0, (bo 0), [.int .i64 z.state, .int .i64 z.iss, .int .i64 z.una, .int .i64 z.rcv, .string z.wait, .int .i64 z.sent, .int .i64 2, .bool z.peerFin, .string z.in_, (g 0 9), .bool z.owe, .int .i64 z.due, .int .i64 z.times])] E B all 3 #[true, true, true, true, true, true, true, true, true, true, true, true, true, true, true, true, true, true, true, true, true, true, false, false, false] ⟨187, [(0, .obj (bo 0) [I z.state, I z.iss, I z.una, I z.rcv, S z.wait, I z.sent, I 2, Bo z.peerFin, S z.in_, .w (sl 2 Late.c z.late) (g 0 9), Bo z.owe, I z.due, I z.times]), (7, .w (sl 4 Seg.c (l ++ ([(⟨(addNum z.una z.sent), z.rcv, 6, ⟨#[]⟩⟩ : Seg)]))) Xo17_16_1), (159, .al 7 none 4 ((l ++ ([(⟨(addNum z.una z.sent), z.rcv, 6, ⟨#[]⟩⟩ : Seg)])).length) Xo17_16_1 0), (180, .agg [I (addNum z.una (IntKind.i64.wrap (z.sent + (flagN (2 == 2))))), I z.rcv, I 2, S (⟨#[]⟩)])]⟩ K := by
            intro go22_14_1 go22_16_1
            refine RA.of hall (RA.stepH (L := [22]) (Tell.c rfl rfl Tell.e) (by kernel_rfl) (by simp) (RA.each ?_ (RA.each0)))
            ·skip
             refine RO.build1 (c := Seg.c) (v := (⟨(addNum z.una (IntKind.i64.wrap (z.sent + (flagN (2 == 2))))), z.rcv, 2, ⟨#[]⟩⟩ : Seg)) rfl rfl rfl rfl rfl rfl rfl rfl (DW.v (DW.v (DW.v (DW.v DW.e)))) Seg.len (by decide) (by decide) fun Xo22_22_1 => ?_
             exact RA.to hall (RA.lr (ro22_1111111111111111111111100 Xo22_22_1 go22_14_1 go22_16_1) rfl rfl)
           have ro22_1111111111111111011110000 : ∀ (go22_14_1 : Nat → Nat → Value), RA [(0, (bo 0), [.int .i64 z.state, .int .i64 z.iss, .int .i64 z.una, .int .i64 z.rcv, .string z.wait, .int .i64 z.sent, .int .i64 2, .bool z.peerFin, .string z.in_, (g 0 9), .bool z.owe, .int .i64 z.due, .int .i64 z.times])] E B all 5 #[true, true, true, true, true, true, true, true, true, true, true, true, true, true, true, true, false, true, true, true, true, false, false, false, false] ⟨187, [(0, .obj (bo 0) [I z.state, I z.iss, I z.una, I z.rcv, S z.wait, I z.sent, I 2, Bo z.peerFin, S z.in_, .w (sl 2 Late.c z.late) (g 0 9), Bo z.owe, I z.due, I z.times]), (7, .w (sl 4 Seg.c (l ++ ([(⟨(addNum z.una z.sent), z.rcv, 6, ⟨#[]⟩⟩ : Seg)]))) Xo17_16_1), (159, .al 7 none 4 ((l ++ ([(⟨(addNum z.una z.sent), z.rcv, 6, ⟨#[]⟩⟩ : Seg)])).length) Xo17_16_1 0), (163, I z.una), (174, I (IntKind.i64.wrap (z.sent + (flagN (2 == 2))))), (179, I z.rcv)]⟩ K := by
            intro go22_14_1
            refine RA.of hall (RA.stepH (L := [16]) (Tell.c rfl rfl Tell.e) (by kernel_rfl) (by simp) (RA.each ?_ (RA.each0)))
            ·skip
             refine RO.call rfl rfl (impl_AddNum_fn z.una (IntKind.i64.wrap (z.sent + (flagN (2 == 2))))) rfl (.cons (.one (.r .r)) (.cons (.one (.r .r)) (.nil))) rfl fun go22_16_1 => ?_
             refine RA.first (i := 21) (ls' := #[true, true, true, true, true, true, true, true, true, true, true, true, true, true, true, true, true, true, true, true, true, true, false, false, false]) (Tell.c rfl rfl Tell.e) (by kernel_rfl) rfl rfl rfl (VF.p (V.build (ds := [I (addNum z.una (IntKind.i64.wrap (z.sent + (flagN (2 == 2))))), I z.rcv, I 2, S (⟨#[]⟩)]) rfl rfl rfl rfl (.one rfl rfl rfl (Nat.le_of_ble_eq_true rfl) (.one rfl rfl rfl (Nat.le_of_ble_eq_true rfl) (.one rfl rfl rfl (Nat.le_of_ble_eq_true rfl) (.nil)))))) ?_
             exact RA.to hall (RA.lr (ro22_1111111111111111111111000 go22_14_1 go22_16_1) rfl rfl)
           have ro22_1111111111111100011110000 : RA [(0, (bo 0), [.int .i64 z.state, .int .i64 z.iss, .int .i64 z.una, .int .i64 z.rcv, .string z.wait, .int .i64 z.sent, .int .i64 2, .bool z.peerFin, .string z.in_, (g 0 9), .bool z.owe, .int .i64 z.due, .int .i64 z.times])] E B all 7 #[true, true, true, true, true, true, true, true, true, true, true, true, true, true, false, false, false, true, true, true, true, false, false, false, false] ⟨187, [(0, .obj (bo 0) [I z.state, I z.iss, I z.una, I z.rcv, S z.wait, I z.sent, I 2, Bo z.peerFin, S z.in_, .w (sl 2 Late.c z.late) (g 0 9), Bo z.owe, I z.due, I z.times]), (7, .w (sl 4 Seg.c (l ++ ([(⟨(addNum z.una z.sent), z.rcv, 6, ⟨#[]⟩⟩ : Seg)]))) Xo17_16_1), (159, .al 7 none 4 ((l ++ ([(⟨(addNum z.una z.sent), z.rcv, 6, ⟨#[]⟩⟩ : Seg)])).length) Xo17_16_1 0), (163, I z.una), (167, I z.sent), (172, Bo (2 == 2)), (179, I z.rcv)]⟩ K := by
            refine RA.of hall (RA.stepH (L := [14]) (Tell.c rfl rfl Tell.e) (by kernel_rfl) (by simp) (RA.each ?_ (RA.each0)))
            ·skip
             refine RO.call rfl rfl (impl_flag_fn (2 == 2)) rfl (.cons (.one (.r .r)) (.nil)) rfl fun go22_14_1 => ?_
             refine RA.first (i := 15) (ls' := #[true, true, true, true, true, true, true, true, true, true, true, true, true, true, true, true, false, true, true, true, true, false, false, false, false]) (Tell.c rfl rfl Tell.e) (by kernel_rfl) rfl rfl rfl (VF.p (V.arInt rfl rfl rfl rfl)) ?_
             exact RA.to hall (RA.lr (ro22_1111111111111111011110000 go22_14_1) rfl rfl)
           have ro22_S : RA [(0, (bo 0), [.int .i64 z.state, .int .i64 z.iss, .int .i64 z.una, .int .i64 z.rcv, .string z.wait, .int .i64 z.sent, .int .i64 2, .bool z.peerFin, .string z.in_, (g 0 9), .bool z.owe, .int .i64 z.due, .int .i64 z.times])] E B all 25 #[false, false, false, false, false, false, false, false, false, false, false, false, false, false, false, false, false, false, false, false, false, false, false, false, false] ⟨187, [(0, .obj (bo 0) [I z.state, I z.iss, I z.una, I z.rcv, S z.wait, I z.sent, I 2, Bo z.peerFin, S z.in_, .w (sl 2 Late.c z.late) (g 0 9), Bo z.owe, I z.due, I z.times]), (7, .w (sl 4 Seg.c (l ++ ([(⟨(addNum z.una z.sent), z.rcv, 6, ⟨#[]⟩⟩ : Seg)]))) Xo17_16_1)]⟩ K := by
            refine RA.of hall ?_
            refine RA.first (i := 0) (ls' := #[true, false, false, false, false, false, false, false, false, false, false, false, false, false, false, false, false, false, false, false, false, false, false, false, false]) (Tell.c rfl rfl Tell.e) (by kernel_rfl) rfl rfl rfl (VF.p (V.mv (d := .al 7 none 4 ((l ++ ([(⟨(addNum z.una z.sent), z.rcv, 6, ⟨#[]⟩⟩ : Seg)])).length) Xo17_16_1 0) rfl rfl)) ?_
            refine RA.first (i := 1) (ls' := #[true, true, false, false, false, false, false, false, false, false, false, false, false, false, false, false, false, false, false, false, false, false, false, false, false]) (Tell.c rfl rfl Tell.e) (by kernel_rfl) rfl rfl rfl (VF.p (V.mv (d := .pt 0 (bo 0) 0) rfl rfl)) ?_
            refine RA.first (i := 2) (ls' := #[true, true, true, false, false, false, false, false, false, false, false, false, false, false, false, false, false, false, false, false, false, false, false, false, false]) (Tell.c rfl rfl Tell.e) (by kernel_rfl) rfl rfl rfl (VF.p (V.nilP rfl rfl)) ?_
            refine RA.first (i := 3) (ls' := #[true, true, true, true, false, false, false, false, false, false, false, false, false, false, false, false, false, false, false, false, false, false, false, false, false]) (Tell.c rfl rfl Tell.e) (by kernel_rfl) rfl rfl rfl (VF.p (V.field rfl rfl rfl rfl (by decide) rfl)) ?_
            refine RA.le [(0, .obj (bo 0) [I z.state, I z.iss, I z.una, I z.rcv, S z.wait, I z.sent, I 2, Bo z.peerFin, S z.in_, .w (sl 2 Late.c z.late) (g 0 9), Bo z.owe, I z.due, I z.times]), (7, .w (sl 4 Seg.c (l ++ ([(⟨(addNum z.una z.sent), z.rcv, 6, ⟨#[]⟩⟩ : Seg)]))) Xo17_16_1), (159, .al 7 none 4 ((l ++ ([(⟨(addNum z.una z.sent), z.rcv, 6, ⟨#[]⟩⟩ : Seg)])).length) Xo17_16_1 0), (162, .pt 0 (bo 0) 2)] rfl (Le.of rfl) ?_
            refine RA.first (i := 4) (ls' := #[true, true, true, true, true, false, false, false, false, false, false, false, false, false, false, false, false, false, false, false, false, false, false, false, false]) (Tell.c rfl rfl Tell.e) (by kernel_rfl) rfl rfl rfl (VF.loadPrim (m := 0) (d := I z.una) rfl rfl rfl (.inl rfl) rfl rfl rfl rfl) ?_
            refine RA.first (i := 5) (ls' := #[true, true, true, true, true, true, false, false, false, false, false, false, false, false, false, false, false, false, false, false, false, false, false, false, false]) (Tell.c rfl rfl Tell.e) (by kernel_rfl) rfl rfl rfl (VF.p (V.mv (d := .pt 0 (bo 0) 0) rfl rfl)) ?_
            refine RA.first (i := 6) (ls' := #[true, true, true, true, true, true, true, false, false, false, false, false, false, false, false, false, false, false, false, false, false, false, false, false, false]) (Tell.c rfl rfl Tell.e) (by kernel_rfl) rfl rfl rfl (VF.p (V.nilP rfl rfl)) ?_
            refine RA.first (i := 7) (ls' := #[true, true, true, true, true, true, true, true, false, false, false, false, false, false, false, false, false, false, false, false, false, false, false, false, false]) (Tell.c rfl rfl Tell.e) (by kernel_rfl) rfl rfl rfl (VF.p (V.field rfl rfl rfl rfl (by decide) rfl)) ?_
            refine RA.le [(0, .obj (bo 0) [I z.state, I z.iss, I z.una, I z.rcv, S z.wait, I z.sent, I 2, Bo z.peerFin, S z.in_, .w (sl 2 Late.c z.late) (g 0 9), Bo z.owe, I z.due, I z.times]), (7, .w (sl 4 Seg.c (l ++ ([(⟨(addNum z.una z.sent), z.rcv, 6, ⟨#[]⟩⟩ : Seg)]))) Xo17_16_1), (159, .al 7 none 4 ((l ++ ([(⟨(addNum z.una z.sent), z.rcv, 6, ⟨#[]⟩⟩ : Seg)])).length) Xo17_16_1 0), (163, I z.una), (166, .pt 0 (bo 0) 5)] rfl (Le.of rfl) ?_
            refine RA.first (i := 8) (ls' := #[true, true, true, true, true, true, true, true, true, false, false, false, false, false, false, false, false, false, false, false, false, false, false, false, false]) (Tell.c rfl rfl Tell.e) (by kernel_rfl) rfl rfl rfl (VF.loadPrim (m := 0) (d := I z.sent) rfl rfl rfl (.inl rfl) rfl rfl rfl rfl) ?_
            refine RA.first (i := 9) (ls' := #[true, true, true, true, true, true, true, true, true, true, false, false, false, false, false, false, false, false, false, false, false, false, false, false, false]) (Tell.c rfl rfl Tell.e) (by kernel_rfl) rfl rfl rfl (VF.p (V.mv (d := .pt 0 (bo 0) 0) rfl rfl)) ?_
            refine RA.first (i := 10) (ls' := #[true, true, true, true, true, true, true, true, true, true, true, false, false, false, false, false, false, false, false, false, false, false, false, false, false]) (Tell.c rfl rfl Tell.e) (by kernel_rfl) rfl rfl rfl (VF.p (V.nilP rfl rfl)) ?_
            refine RA.first (i := 11) (ls' := #[true, true, true, true, true, true, true, true, true, true, true, true, false, false, false, false, false, false, false, false, false, false, false, false, false]) (Tell.c rfl rfl Tell.e) (by kernel_rfl) rfl rfl rfl (VF.p (V.field rfl rfl rfl rfl (by decide) rfl)) ?_
            refine RA.le [(0, .obj (bo 0) [I z.state, I z.iss, I z.una, I z.rcv, S z.wait, I z.sent, I 2, Bo z.peerFin, S z.in_, .w (sl 2 Late.c z.late) (g 0 9), Bo z.owe, I z.due, I z.times]), (7, .w (sl 4 Seg.c (l ++ ([(⟨(addNum z.una z.sent), z.rcv, 6, ⟨#[]⟩⟩ : Seg)]))) Xo17_16_1), (159, .al 7 none 4 ((l ++ ([(⟨(addNum z.una z.sent), z.rcv, 6, ⟨#[]⟩⟩ : Seg)])).length) Xo17_16_1 0), (163, I z.una), (167, I z.sent), (170, .pt 0 (bo 0) 6)] rfl (Le.of rfl) ?_
            refine RA.first (i := 12) (ls' := #[true, true, true, true, true, true, true, true, true, true, true, true, true, false, false, false, false, false, false, false, false, false, false, false, false]) (Tell.c rfl rfl Tell.e) (by kernel_rfl) rfl rfl rfl (VF.loadPrim (m := 0) (d := I 2) rfl rfl rfl (.inl rfl) rfl rfl rfl rfl) ?_
            refine RA.first (i := 13) (ls' := #[true, true, true, true, true, true, true, true, true, true, true, true, true, true, false, false, false, false, false, false, false, false, false, false, false]) (Tell.c rfl rfl Tell.e) (by kernel_rfl) rfl rfl rfl (VF.p (V.cmpInt rfl rfl rfl rfl)) ?_
            refine RA.first (i := 17) (ls' := #[true, true, true, true, true, true, true, true, true, true, true, true, true, true, false, false, false, true, false, false, false, false, false, false, false]) (Tell.c rfl rfl Tell.e) (by kernel_rfl) rfl rfl rfl (VF.p (V.mv (d := .pt 0 (bo 0) 0) rfl rfl)) ?_
            refine RA.first (i := 18) (ls' := #[true, true, true, true, true, true, true, true, true, true, true, true, true, true, false, false, false, true, true, false, false, false, false, false, false]) (Tell.c rfl rfl Tell.e) (by kernel_rfl) rfl rfl rfl (VF.p (V.nilP rfl rfl)) ?_
            refine RA.le [(0, .obj (bo 0) [I z.state, I z.iss, I z.una, I z.rcv, S z.wait, I z.sent, I 2, Bo z.peerFin, S z.in_, .w (sl 2 Late.c z.late) (g 0 9), Bo z.owe, I z.due, I z.times]), (7, .w (sl 4 Seg.c (l ++ ([(⟨(addNum z.una z.sent), z.rcv, 6, ⟨#[]⟩⟩ : Seg)]))) Xo17_16_1), (159, .al 7 none 4 ((l ++ ([(⟨(addNum z.una z.sent), z.rcv, 6, ⟨#[]⟩⟩ : Seg)])).length) Xo17_16_1 0), (163, I z.una), (167, I z.sent), (172, Bo (2 == 2)), (177, .pt 0 (bo 0) 0)] rfl (Le.of rfl) ?_
            refine RA.first (i := 19) (ls' := #[true, true, true, true, true, true, true, true, true, true, true, true, true, true, false, false, false, true, true, true, false, false, false, false, false]) (Tell.c rfl rfl Tell.e) (by kernel_rfl) rfl rfl rfl (VF.p (V.field rfl rfl rfl rfl (by decide) rfl)) ?_
            refine RA.first (i := 20) (ls' := #[true, true, true, true, true, true, true, true, true, true, true, true, true, true, false, false, false, true, true, true, true, false, false, false, false]) (Tell.c rfl rfl Tell.e) (by kernel_rfl) rfl rfl rfl (VF.loadPrim (m := 0) (d := I z.rcv) rfl rfl rfl (.inl rfl) rfl rfl rfl rfl) ?_
            exact RA.to hall (RA.lr ro22_1111111111111100011110000 rfl rfl)
           exact RA.start (by kernel_rfl) (by kernel_rfl) (RA.lr ro22_S rfl rfl)
          ·rintro ⟨Xo22_22_1, Xo22_23_1, go22_14_1, go22_16_1⟩
           refine CW.region ?_
           refine RW.v rfl (V.mv (d := .pt 0 (bo 0) 0) rfl rfl) ?_
           refine RW.v rfl (V.nilP rfl rfl) ?_
           refine RW.v rfl (V.field rfl rfl rfl rfl (by decide) rfl) ?_
           refine RW.store (d := Bo false) rfl rfl rfl rfl rfl rfl rfl (Nat.le_of_ble_eq_true rfl) rfl rfl ?_
           refine RW.nil ?_
           refine CW.le [(0, .obj (bo 0) [I z.state, I z.iss, I z.una, I z.rcv, S z.wait, I z.sent, I 2, Bo z.peerFin, S z.in_, .w (sl 2 Late.c z.late) (g 0 9), Bo false, I z.due, I z.times]), (7, .w (sl 4 Seg.c ((l ++ ([(⟨(addNum z.una z.sent), z.rcv, 6, ⟨#[]⟩⟩ : Seg)])) ++ ([(⟨(addNum z.una (IntKind.i64.wrap (z.sent + (flagN (2 == 2))))), z.rcv, 2, ⟨#[]⟩⟩ : Seg)]))) Xo22_23_1)] rfl (Le.of rfl) ?_
           refine CW.seq ?_
           refine CW.region ?_
           refine RW.v rfl (V.mv (d := .al 7 none 4 (((l ++ ([(⟨(addNum z.una z.sent), z.rcv, 6, ⟨#[]⟩⟩ : Seg)])) ++ ([(⟨(addNum z.una (IntKind.i64.wrap (z.sent + (flagN (2 == 2))))), z.rcv, 2, ⟨#[]⟩⟩ : Seg)])).length) Xo22_23_1 0) rfl rfl) ?_
           refine RW.v rfl (V.as (d := .al 7 none 4 (((l ++ ([(⟨(addNum z.una z.sent), z.rcv, 6, ⟨#[]⟩⟩ : Seg)])) ++ ([(⟨(addNum z.una (IntKind.i64.wrap (z.sent + (flagN (2 == 2))))), z.rcv, 2, ⟨#[]⟩⟩ : Seg)])).length) Xo22_23_1 0) rfl rfl) ?_
           refine RW.pullS 6 7 (by decide) rfl rfl ?_
           refine RW.nil ?_
           refine CW.le [(0, .obj (bo 0) [I z.state, I z.iss, I z.una, I z.rcv, S z.wait, I z.sent, I 2, Bo z.peerFin, S z.in_, .w (sl 2 Late.c z.late) (g 0 9), Bo false, I z.due, I z.times]), (6, .w (sl 4 Seg.c ((l ++ ([(⟨(addNum z.una z.sent), z.rcv, 6, ⟨#[]⟩⟩ : Seg)])) ++ ([(⟨(addNum z.una (IntKind.i64.wrap (z.sent + (flagN (2 == 2))))), z.rcv, 2, ⟨#[]⟩⟩ : Seg)]))) Xo22_23_1)] rfl (Le.of rfl) ?_
           refine CW.ret ?_
           exact Post.one (RV.w rfl (by unfold pushOpenN; rw [← hy, hfin]; unfold oweSeg finSeg; first | (simp_all; done) | grind)) (AOs.obE (f := fun e => (Stream.c e).map .w) (e' := (⟨z.state, z.iss, z.una, z.rcv, z.wait, z.sent, 2, z.peerFin, z.in_, z.late, false, z.due, z.times⟩ : Stream)) rfl (DT.v (DT.v (DT.v (DT.v (DT.v (DT.v (DT.v (DT.v (DT.v (DT.w (DT.v (DT.v (DT.v DT.e))))))))))))) (by unfold pushOpenN; rw [← hy, hfin]; unfold oweSeg finSeg; first | (simp_all; done) | grind) (AOs.r (AOs.r AOs.e)))
         ·skip
          refine CW.skip ?_
          refine CW.le [(0, .obj (bo 0) [I z.state, I z.iss, I z.una, I z.rcv, S z.wait, I z.sent, I 2, Bo z.peerFin, S z.in_, .w (sl 2 Late.c z.late) (g 0 9), Bo z.owe, I z.due, I z.times]), (7, .w (sl 4 Seg.c (l ++ ([(⟨(addNum z.una z.sent), z.rcv, 6, ⟨#[]⟩⟩ : Seg)]))) Xo17_16_1)] rfl (Le.of rfl) ?_
          refine CW.seq ?_
          refine CW.region ?_
          refine RW.v rfl (V.mv (d := .al 7 none 4 ((l ++ ([(⟨(addNum z.una z.sent), z.rcv, 6, ⟨#[]⟩⟩ : Seg)])).length) Xo17_16_1 0) rfl rfl) ?_
          refine RW.v rfl (V.as (d := .al 7 none 4 ((l ++ ([(⟨(addNum z.una z.sent), z.rcv, 6, ⟨#[]⟩⟩ : Seg)])).length) Xo17_16_1 0) rfl rfl) ?_
          refine RW.pullS 6 7 (by decide) rfl rfl ?_
          refine RW.nil ?_
          refine CW.le [(0, .obj (bo 0) [I z.state, I z.iss, I z.una, I z.rcv, S z.wait, I z.sent, I 2, Bo z.peerFin, S z.in_, .w (sl 2 Late.c z.late) (g 0 9), Bo z.owe, I z.due, I z.times]), (6, .w (sl 4 Seg.c (l ++ ([(⟨(addNum z.una z.sent), z.rcv, 6, ⟨#[]⟩⟩ : Seg)]))) Xo17_16_1)] rfl (Le.of rfl) ?_
          refine CW.ret ?_
          exact Post.one (RV.w rfl (by unfold pushOpenN; rw [← hy, hfin]; unfold oweSeg finSeg; first | (simp_all; done) | grind)) (AOs.obE (f := fun e => (Stream.c e).map .w) (e' := (⟨z.state, z.iss, z.una, z.rcv, z.wait, z.sent, 2, z.peerFin, z.in_, z.late, z.owe, z.due, z.times⟩ : Stream)) rfl (DT.v (DT.v (DT.v (DT.v (DT.v (DT.v (DT.v (DT.v (DT.v (DT.w (DT.v (DT.v (DT.v DT.e))))))))))))) (by unfold pushOpenN; rw [← hy, hfin]; unfold oweSeg finSeg; first | (simp_all; done) | grind) (AOs.r (AOs.r AOs.e)))
      ·skip
       refine CW.skip ?_
       refine CW.le [(0, .obj (bo 0) [I z.state, I z.iss, I z.una, I z.rcv, S z.wait, I z.sent, I z.fin, Bo z.peerFin, S z.in_, .w (sl 2 Late.c z.late) (g 0 9), Bo z.owe, I z.due, I z.times]), (1, I now), (7, .w (sl 4 Seg.c l) X)] rfl (Le.of rfl) ?_
       refine CW.seq ?_
       refine CW.seq ?_
       refine CW.region ?_
       refine RW.v rfl (V.mv (d := .al 7 none 4 l.length X 0) rfl rfl) ?_
       refine RW.v rfl (V.lenT (n := l.length) rfl rfl rfl (.al rfl rfl nofun)) ?_
       refine RW.v rfl (V.cmpInt rfl rfl rfl rfl) ?_
       refine RW.nil ?_
       refine CW.le [(0, .obj (bo 0) [I z.state, I z.iss, I z.una, I z.rcv, S z.wait, I z.sent, I z.fin, Bo z.peerFin, S z.in_, .w (sl 2 Late.c z.late) (g 0 9), Bo z.owe, I z.due, I z.times]), (1, I now), (7, .w (sl 4 Seg.c l) X), (148, Bo (decide ((l.length : Int) > 0)))] rfl (Le.of rfl) ?_
       refine CW.cond rfl (fun h23 => ?_) (fun h23 => ?_)
       ·skip
        refine CW.seq ?_
        refine CW.region ?_
        refine RW.v rfl (V.mv (d := .pt 0 (bo 0) 0) rfl rfl) ?_
        refine RW.v rfl (V.mv (d := I now) rfl rfl) ?_
        refine RW.callW (k := 0) (__impl_Stream__again_fn z now ⟨hP.ok.2.2.2.2.1, hP.ok.2.2.2.2.2⟩) rfl rfl (Nat.le_of_ble_eq_true rfl) (by decide) (.here (AsW.ob (DT.v (DT.v (DT.v (DT.v (DT.v (DT.v (DT.v (DT.v (DT.v (DT.w (DT.v (DT.v (DT.v DT.e))))))))))))) rfl) (.cons (.one (.r .r)) (.nil))) rfl fun g24 q25 => ?_
        refine RW.nil ?_
        refine CW.le [(0, .obj (bo 0) [I ((againN z now).state), I ((againN z now).iss), I ((againN z now).una), I ((againN z now).rcv), S ((againN z now).wait), I ((againN z now).sent), I ((againN z now).fin), Bo ((againN z now).peerFin), S ((againN z now).in_), .w (sl 2 Late.c ((againN z now).late)) (q25 9), Bo ((againN z now).owe), I ((againN z now).due), I ((againN z now).times)]), (7, .w (sl 4 Seg.c l) X)] rfl (Le.of rfl) ?_
        refine CW.region ?_
        refine RW.v rfl (V.mv (d := .pt 0 (bo 0) 0) rfl rfl) ?_
        refine RW.v rfl (V.nilP rfl rfl) ?_
        refine RW.v rfl (V.field rfl rfl rfl rfl (by decide) rfl) ?_
        refine RW.store (d := Bo false) rfl rfl rfl rfl rfl rfl rfl (Nat.le_of_ble_eq_true rfl) rfl rfl ?_
        refine RW.nil ?_
        refine CW.le [(0, .obj (bo 0) [I ((againN z now).state), I ((againN z now).iss), I ((againN z now).una), I ((againN z now).rcv), S ((againN z now).wait), I ((againN z now).sent), I ((againN z now).fin), Bo ((againN z now).peerFin), S ((againN z now).in_), .w (sl 2 Late.c ((againN z now).late)) (q25 9), Bo false, I ((againN z now).due), I ((againN z now).times)]), (7, .w (sl 4 Seg.c l) X)] rfl (Le.of rfl) ?_
        refine CW.seq ?_
        refine CW.region ?_
        refine RW.v rfl (V.mv (d := .al 7 none 4 l.length X 0) rfl rfl) ?_
        refine RW.v rfl (V.as (d := .al 7 none 4 l.length X 0) rfl rfl) ?_
        refine RW.pullS 6 7 (by decide) rfl rfl ?_
        refine RW.nil ?_
        refine CW.le [(0, .obj (bo 0) [I ((againN z now).state), I ((againN z now).iss), I ((againN z now).una), I ((againN z now).rcv), S ((againN z now).wait), I ((againN z now).sent), I ((againN z now).fin), Bo ((againN z now).peerFin), S ((againN z now).in_), .w (sl 2 Late.c ((againN z now).late)) (q25 9), Bo false, I ((againN z now).due), I ((againN z now).times)]), (6, .w (sl 4 Seg.c l) X)] rfl (Le.of rfl) ?_
        refine CW.ret ?_
        exact Post.one (RV.w rfl (by unfold pushOpenN; rw [← hy, hfin]; unfold oweSeg finSeg; first | (simp_all; done) | grind)) (AOs.obE (f := fun e => (Stream.c e).map .w) (e' := (⟨(againN z now).state, (againN z now).iss, (againN z now).una, (againN z now).rcv, (againN z now).wait, (againN z now).sent, (againN z now).fin, (againN z now).peerFin, (againN z now).in_, (againN z now).late, false, (againN z now).due, (againN z now).times⟩ : Stream)) rfl (DT.v (DT.v (DT.v (DT.v (DT.v (DT.v (DT.v (DT.v (DT.v (DT.w (DT.v (DT.v (DT.v DT.e))))))))))))) (by unfold pushOpenN; rw [← hy, hfin]; unfold oweSeg finSeg; first | (simp_all; done) | grind) (AOs.r (AOs.r AOs.e)))
       ·skip
        refine CW.seq ?_
        refine CW.region ?_
        refine RW.v rfl (V.mv (d := .pt 0 (bo 0) 0) rfl rfl) ?_
        refine RW.v rfl (V.nilP rfl rfl) ?_
        refine RW.v rfl (V.field rfl rfl rfl rfl (by decide) rfl) ?_
        refine RW.v rfl (V.loadPrim (d := Bo z.owe) rfl rfl (.inl rfl) rfl rfl rfl) ?_
        refine RW.nil ?_
        refine CW.le [(0, .obj (bo 0) [I z.state, I z.iss, I z.una, I z.rcv, S z.wait, I z.sent, I z.fin, Bo z.peerFin, S z.in_, .w (sl 2 Late.c z.late) (g 0 9), Bo z.owe, I z.due, I z.times]), (7, .w (sl 4 Seg.c l) X), (158, Bo z.owe)] rfl (Le.of rfl) ?_
        refine CW.cond rfl (fun h26 => ?_) (fun h26 => ?_)
        ·skip
         refine CW.anyJ (fc := [(0, (bo 0), [.int .i64 z.state, .int .i64 z.iss, .int .i64 z.una, .int .i64 z.rcv, .string z.wait, .int .i64 z.sent, .int .i64 z.fin, .bool z.peerFin, .string z.in_, (g 0 9), .bool z.owe, .int .i64 z.due, .int .i64 z.times])]) 187 (fun (x : Value × Value × (Nat → Nat → Value) × (Nat → Nat → Value)) => match x with | (Xo27_22_1, Xo27_23_1, go27_14_1, go27_16_1) => [(0, .obj (bo 0) [I z.state, I z.iss, I z.una, I z.rcv, S z.wait, I z.sent, I z.fin, Bo z.peerFin, S z.in_, .w (sl 2 Late.c z.late) (g 0 9), Bo z.owe, I z.due, I z.times]), (7, .w (sl 4 Seg.c (l ++ ([(⟨(addNum z.una (IntKind.i64.wrap (z.sent + (flagN (z.fin == 2))))), z.rcv, 2, ⟨#[]⟩⟩ : Seg)]))) Xo27_23_1)]) (fun all hall K hK => ?_) ?_
         ·skip
          have ro27_1111111111111111111111111 : ∀ (Xo27_22_1 : Value), ∀ (Xo27_23_1 : Value), ∀ (go27_14_1 : Nat → Nat → Value), ∀ (go27_16_1 : Nat → Nat → Value), RA [(0, (bo 0), [.int .i64 z.state, .int .i64 z.iss, .int .i64 z.una, .int .i64 z.rcv, .string z.wait, .int .i64 z.sent, .int .i64 z.fin, .bool z.peerFin, .string z.in_, (g 0 9), .bool z.owe, .int .i64 z.due, .int .i64 z.times])] E B all 0 #[true, true, true, true, true, true, true, true, true, true, true, true, true, true, true, true, true, true, true, true, true, true, true, true, true] ⟨187, [(0, .obj (bo 0) [I z.state, I z.iss, I z.una, I z.rcv, S z.wait, I z.sent, I z.fin, Bo z.peerFin, S z.in_, .w (sl 2 Late.c z.late) (g 0 9), Bo z.owe, I z.due, I z.times]), (7, .w (sl 4 Seg.c (l ++ ([(⟨(addNum z.una (IntKind.i64.wrap (z.sent + (flagN (z.fin == 2))))), z.rcv, 2, ⟨#[]⟩⟩ : Seg)]))) Xo27_23_1)]⟩ K := by
           intro Xo27_22_1 Xo27_23_1 go27_14_1 go27_16_1
           exact RA.of hall (RA.finH (Tell.c rfl rfl Tell.e) (by kernel_rfl) (hK (Xo27_22_1, Xo27_23_1, go27_14_1, go27_16_1) _ rfl (Le.of rfl)))
          have ro27_1111111111111111111111110 : ∀ (Xo27_22_1 : Value), ∀ (Xo27_23_1 : Value), ∀ (go27_14_1 : Nat → Nat → Value), ∀ (go27_16_1 : Nat → Nat → Value), RA [(0, (bo 0), [.int .i64 z.state, .int .i64 z.iss, .int .i64 z.una, .int .i64 z.rcv, .string z.wait, .int .i64 z.sent, .int .i64 z.fin, .bool z.peerFin, .string z.in_, (g 0 9), .bool z.owe, .int .i64 z.due, .int .i64 z.times])] E B all 1 #[true, true, true, true, true, true, true, true, true, true, true, true, true, true, true, true, true, true, true, true, true, true, true, true, false] ⟨187, [(0, .obj (bo 0) [I z.state, I z.iss, I z.una, I z.rcv, S z.wait, I z.sent, I z.fin, Bo z.peerFin, S z.in_, .w (sl 2 Late.c z.late) (g 0 9), Bo z.owe, I z.due, I z.times]), (182, .w (sl 4 Seg.c (l ++ ([(⟨(addNum z.una (IntKind.i64.wrap (z.sent + (flagN (z.fin == 2))))), z.rcv, 2, ⟨#[]⟩⟩ : Seg)]))) Xo27_23_1)]⟩ K := by
           intro Xo27_22_1 Xo27_23_1 go27_14_1 go27_16_1
           refine RA.of hall (RA.stepH (L := [24]) (Tell.c rfl rfl Tell.e) (by kernel_rfl) (by simp) (RA.each ?_ (RA.each0)))
           ·skip
            refine RO.assignMove rfl rfl rfl rfl rfl (by decide) (Nat.le_of_ble_eq_true rfl) (Nat.le_of_ble_eq_true rfl) ?_
            exact RA.to hall (RA.lr (ro27_1111111111111111111111111 Xo27_22_1 Xo27_23_1 go27_14_1 go27_16_1) rfl rfl)
          have ro27_1111111111111111111111100 : ∀ (Xo27_22_1 : Value), ∀ (go27_14_1 : Nat → Nat → Value), ∀ (go27_16_1 : Nat → Nat → Value), RA [(0, (bo 0), [.int .i64 z.state, .int .i64 z.iss, .int .i64 z.una, .int .i64 z.rcv, .string z.wait, .int .i64 z.sent, .int .i64 z.fin, .bool z.peerFin, .string z.in_, (g 0 9), .bool z.owe, .int .i64 z.due, .int .i64 z.times])] E B all 2 #[true, true, true, true, true, true, true, true, true, true, true, true, true, true, true, true, true, true, true, true, true, true, true, false, false] ⟨187, [(0, .obj (bo 0) [I z.state, I z.iss, I z.una, I z.rcv, S z.wait, I z.sent, I z.fin, Bo z.peerFin, S z.in_, .w (sl 2 Late.c z.late) (g 0 9), Bo z.owe, I z.due, I z.times]), (7, .w (sl 4 Seg.c l) X), (159, .al 7 none 4 l.length X 0), (181, .w (sl 4 Seg.c ([(⟨(addNum z.una (IntKind.i64.wrap (z.sent + (flagN (z.fin == 2))))), z.rcv, 2, ⟨#[]⟩⟩ : Seg)])) Xo27_22_1)]⟩ K := by
           intro Xo27_22_1 go27_14_1 go27_16_1
           refine RA.of hall (RA.stepH (L := [23]) (Tell.c rfl rfl Tell.e) (by kernel_rfl) (by simp) (RA.each ?_ (RA.each0)))
           ·skip
            refine RO.appendSR (c := Seg.c) (l1 := l) (l2 := [(⟨(addNum z.una (IntKind.i64.wrap (z.sent + (flagN (z.fin == 2))))), z.rcv, 2, ⟨#[]⟩⟩ : Seg)]) rfl rfl rfl rfl rfl rfl rfl rfl rfl rfl (.al (k := none) (i := 181) (sz := 4) (V := Xo27_22_1) rfl rfl nofun) (by decide) (Nat.le_of_ble_eq_true rfl) Seg.len (fun _ => rfl) rfl (by have h7 := hP.len; simp only [maxLen, List.length_append, List.length_singleton]; omega) (by have h7 := hP.len; simp only [maxLen, List.length_append, List.length_singleton]; omega) fun Xo27_23_1 => ?_
            exact RA.to hall (RA.lr (ro27_1111111111111111111111110 Xo27_22_1 Xo27_23_1 go27_14_1 go27_16_1) rfl rfl)
          have ro27_1111111111111111111111000 : ∀ (go27_14_1 : Nat → Nat → Value), ∀ (go27_16_1 : Nat → Nat → Value), RA [(0, (bo 0), [.int .i64 z.state, .int .i64 z.iss, .int .i64 z.una, .int .i64 z.rcv, .string z.wait, .int .i64 z.sent, .int .i64 z.fin, .bool z.peerFin, .string z.in_, (g 0 9), .bool z.owe, .int .i64 z.due, .int .i64 z.times])] E B all 3 #[true, true, true, true, true, true, true, true, true, true, true, true, true, true, true, true, true, true, true, true, true, true, false, false, false] ⟨187, [(0, .obj (bo 0) [I z.state, I z.iss, I z.una, I z.rcv, S z.wait, I z.sent, I z.fin, Bo z.peerFin, S z.in_, .w (sl 2 Late.c z.late) (g 0 9), Bo z.owe, I z.due, I z.times]), (7, .w (sl 4 Seg.c l) X), (159, .al 7 none 4 l.length X 0), (180, .agg [I (addNum z.una (IntKind.i64.wrap (z.sent + (flagN (z.fin == 2))))), I z.rcv, I 2, S (⟨#[]⟩)])]⟩ K := by
           intro go27_14_1 go27_16_1
           refine RA.of hall (RA.stepH (L := [22]) (Tell.c rfl rfl Tell.e) (by kernel_rfl) (by simp) (RA.each ?_ (RA.each0)))
           ·skip
            refine RO.build1 (c := Seg.c) (v := (⟨(addNum z.una (IntKind.i64.wrap (z.sent + (flagN (z.fin == 2))))), z.rcv, 2, ⟨#[]⟩⟩ : Seg)) rfl rfl rfl rfl rfl rfl rfl rfl (DW.v (DW.v (DW.v (DW.v DW.e)))) Seg.len (by decide) (by decide) fun Xo27_22_1 => ?_
            exact RA.to hall (RA.lr (ro27_1111111111111111111111100 Xo27_22_1 go27_14_1 go27_16_1) rfl rfl)
          have ro27_1111111111111111011110000 : ∀ (go27_14_1 : Nat → Nat → Value), RA [(0, (bo 0), [.int .i64 z.state, .int .i64 z.iss, .int .i64 z.una, .int .i64 z.rcv, .string z.wait, .int .i64 z.sent, .int .i64 z.fin, .bool z.peerFin, .string z.in_, (g 0 9), .bool z.owe, .int .i64 z.due, .int .i64 z.times])] E B all 5 #[true, true, true, true, true, true, true, true, true, true, true, true, true, true, true, true, false, true, true, true, true, false, false, false, false] ⟨187, [(0, .obj (bo 0) [I z.state, I z.iss, I z.una, I z.rcv, S z.wait, I z.sent, I z.fin, Bo z.peerFin, S z.in_, .w (sl 2 Late.c z.late) (g 0 9), Bo z.owe, I z.due, I z.times]), (7, .w (sl 4 Seg.c l) X), (159, .al 7 none 4 l.length X 0), (163, I z.una), (174, I (IntKind.i64.wrap (z.sent + (flagN (z.fin == 2))))), (179, I z.rcv)]⟩ K := by
           intro go27_14_1
           refine RA.of hall (RA.stepH (L := [16]) (Tell.c rfl rfl Tell.e) (by kernel_rfl) (by simp) (RA.each ?_ (RA.each0)))
           ·skip
            refine RO.call rfl rfl (impl_AddNum_fn z.una (IntKind.i64.wrap (z.sent + (flagN (z.fin == 2))))) rfl (.cons (.one (.r .r)) (.cons (.one (.r .r)) (.nil))) rfl fun go27_16_1 => ?_
            refine RA.first (i := 21) (ls' := #[true, true, true, true, true, true, true, true, true, true, true, true, true, true, true, true, true, true, true, true, true, true, false, false, false]) (Tell.c rfl rfl Tell.e) (by kernel_rfl) rfl rfl rfl (VF.p (V.build (ds := [I (addNum z.una (IntKind.i64.wrap (z.sent + (flagN (z.fin == 2))))), I z.rcv, I 2, S (⟨#[]⟩)]) rfl rfl rfl rfl (.one rfl rfl rfl (Nat.le_of_ble_eq_true rfl) (.one rfl rfl rfl (Nat.le_of_ble_eq_true rfl) (.one rfl rfl rfl (Nat.le_of_ble_eq_true rfl) (.nil)))))) ?_
            exact RA.to hall (RA.lr (ro27_1111111111111111111111000 go27_14_1 go27_16_1) rfl rfl)
          have ro27_1111111111111100011110000 : RA [(0, (bo 0), [.int .i64 z.state, .int .i64 z.iss, .int .i64 z.una, .int .i64 z.rcv, .string z.wait, .int .i64 z.sent, .int .i64 z.fin, .bool z.peerFin, .string z.in_, (g 0 9), .bool z.owe, .int .i64 z.due, .int .i64 z.times])] E B all 7 #[true, true, true, true, true, true, true, true, true, true, true, true, true, true, false, false, false, true, true, true, true, false, false, false, false] ⟨187, [(0, .obj (bo 0) [I z.state, I z.iss, I z.una, I z.rcv, S z.wait, I z.sent, I z.fin, Bo z.peerFin, S z.in_, .w (sl 2 Late.c z.late) (g 0 9), Bo z.owe, I z.due, I z.times]), (7, .w (sl 4 Seg.c l) X), (159, .al 7 none 4 l.length X 0), (163, I z.una), (167, I z.sent), (172, Bo (z.fin == 2)), (179, I z.rcv)]⟩ K := by
           refine RA.of hall (RA.stepH (L := [14]) (Tell.c rfl rfl Tell.e) (by kernel_rfl) (by simp) (RA.each ?_ (RA.each0)))
           ·skip
            refine RO.call rfl rfl (impl_flag_fn (z.fin == 2)) rfl (.cons (.one (.r .r)) (.nil)) rfl fun go27_14_1 => ?_
            refine RA.first (i := 15) (ls' := #[true, true, true, true, true, true, true, true, true, true, true, true, true, true, true, true, false, true, true, true, true, false, false, false, false]) (Tell.c rfl rfl Tell.e) (by kernel_rfl) rfl rfl rfl (VF.p (V.arInt rfl rfl rfl rfl)) ?_
            exact RA.to hall (RA.lr (ro27_1111111111111111011110000 go27_14_1) rfl rfl)
          have ro27_S : RA [(0, (bo 0), [.int .i64 z.state, .int .i64 z.iss, .int .i64 z.una, .int .i64 z.rcv, .string z.wait, .int .i64 z.sent, .int .i64 z.fin, .bool z.peerFin, .string z.in_, (g 0 9), .bool z.owe, .int .i64 z.due, .int .i64 z.times])] E B all 25 #[false, false, false, false, false, false, false, false, false, false, false, false, false, false, false, false, false, false, false, false, false, false, false, false, false] ⟨187, [(0, .obj (bo 0) [I z.state, I z.iss, I z.una, I z.rcv, S z.wait, I z.sent, I z.fin, Bo z.peerFin, S z.in_, .w (sl 2 Late.c z.late) (g 0 9), Bo z.owe, I z.due, I z.times]), (7, .w (sl 4 Seg.c l) X)]⟩ K := by
           refine RA.of hall ?_
           refine RA.first (i := 0) (ls' := #[true, false, false, false, false, false, false, false, false, false, false, false, false, false, false, false, false, false, false, false, false, false, false, false, false]) (Tell.c rfl rfl Tell.e) (by kernel_rfl) rfl rfl rfl (VF.p (V.mv (d := .al 7 none 4 l.length X 0) rfl rfl)) ?_
           refine RA.first (i := 1) (ls' := #[true, true, false, false, false, false, false, false, false, false, false, false, false, false, false, false, false, false, false, false, false, false, false, false, false]) (Tell.c rfl rfl Tell.e) (by kernel_rfl) rfl rfl rfl (VF.p (V.mv (d := .pt 0 (bo 0) 0) rfl rfl)) ?_
           refine RA.first (i := 2) (ls' := #[true, true, true, false, false, false, false, false, false, false, false, false, false, false, false, false, false, false, false, false, false, false, false, false, false]) (Tell.c rfl rfl Tell.e) (by kernel_rfl) rfl rfl rfl (VF.p (V.nilP rfl rfl)) ?_
           refine RA.first (i := 3) (ls' := #[true, true, true, true, false, false, false, false, false, false, false, false, false, false, false, false, false, false, false, false, false, false, false, false, false]) (Tell.c rfl rfl Tell.e) (by kernel_rfl) rfl rfl rfl (VF.p (V.field rfl rfl rfl rfl (by decide) rfl)) ?_
           refine RA.le [(0, .obj (bo 0) [I z.state, I z.iss, I z.una, I z.rcv, S z.wait, I z.sent, I z.fin, Bo z.peerFin, S z.in_, .w (sl 2 Late.c z.late) (g 0 9), Bo z.owe, I z.due, I z.times]), (7, .w (sl 4 Seg.c l) X), (159, .al 7 none 4 l.length X 0), (162, .pt 0 (bo 0) 2)] rfl (Le.of rfl) ?_
           refine RA.first (i := 4) (ls' := #[true, true, true, true, true, false, false, false, false, false, false, false, false, false, false, false, false, false, false, false, false, false, false, false, false]) (Tell.c rfl rfl Tell.e) (by kernel_rfl) rfl rfl rfl (VF.loadPrim (m := 0) (d := I z.una) rfl rfl rfl (.inl rfl) rfl rfl rfl rfl) ?_
           refine RA.first (i := 5) (ls' := #[true, true, true, true, true, true, false, false, false, false, false, false, false, false, false, false, false, false, false, false, false, false, false, false, false]) (Tell.c rfl rfl Tell.e) (by kernel_rfl) rfl rfl rfl (VF.p (V.mv (d := .pt 0 (bo 0) 0) rfl rfl)) ?_
           refine RA.first (i := 6) (ls' := #[true, true, true, true, true, true, true, false, false, false, false, false, false, false, false, false, false, false, false, false, false, false, false, false, false]) (Tell.c rfl rfl Tell.e) (by kernel_rfl) rfl rfl rfl (VF.p (V.nilP rfl rfl)) ?_
           refine RA.first (i := 7) (ls' := #[true, true, true, true, true, true, true, true, false, false, false, false, false, false, false, false, false, false, false, false, false, false, false, false, false]) (Tell.c rfl rfl Tell.e) (by kernel_rfl) rfl rfl rfl (VF.p (V.field rfl rfl rfl rfl (by decide) rfl)) ?_
           refine RA.le [(0, .obj (bo 0) [I z.state, I z.iss, I z.una, I z.rcv, S z.wait, I z.sent, I z.fin, Bo z.peerFin, S z.in_, .w (sl 2 Late.c z.late) (g 0 9), Bo z.owe, I z.due, I z.times]), (7, .w (sl 4 Seg.c l) X), (159, .al 7 none 4 l.length X 0), (163, I z.una), (166, .pt 0 (bo 0) 5)] rfl (Le.of rfl) ?_
           refine RA.first (i := 8) (ls' := #[true, true, true, true, true, true, true, true, true, false, false, false, false, false, false, false, false, false, false, false, false, false, false, false, false]) (Tell.c rfl rfl Tell.e) (by kernel_rfl) rfl rfl rfl (VF.loadPrim (m := 0) (d := I z.sent) rfl rfl rfl (.inl rfl) rfl rfl rfl rfl) ?_
           refine RA.first (i := 9) (ls' := #[true, true, true, true, true, true, true, true, true, true, false, false, false, false, false, false, false, false, false, false, false, false, false, false, false]) (Tell.c rfl rfl Tell.e) (by kernel_rfl) rfl rfl rfl (VF.p (V.mv (d := .pt 0 (bo 0) 0) rfl rfl)) ?_
           refine RA.first (i := 10) (ls' := #[true, true, true, true, true, true, true, true, true, true, true, false, false, false, false, false, false, false, false, false, false, false, false, false, false]) (Tell.c rfl rfl Tell.e) (by kernel_rfl) rfl rfl rfl (VF.p (V.nilP rfl rfl)) ?_
           refine RA.first (i := 11) (ls' := #[true, true, true, true, true, true, true, true, true, true, true, true, false, false, false, false, false, false, false, false, false, false, false, false, false]) (Tell.c rfl rfl Tell.e) (by kernel_rfl) rfl rfl rfl (VF.p (V.field rfl rfl rfl rfl (by decide) rfl)) ?_
           refine RA.le [(0, .obj (bo 0) [I z.state, I z.iss, I z.una, I z.rcv, S z.wait, I z.sent, I z.fin, Bo z.peerFin, S z.in_, .w (sl 2 Late.c z.late) (g 0 9), Bo z.owe, I z.due, I z.times]), (7, .w (sl 4 Seg.c l) X), (159, .al 7 none 4 l.length X 0), (163, I z.una), (167, I z.sent), (170, .pt 0 (bo 0) 6)] rfl (Le.of rfl) ?_
           refine RA.first (i := 12) (ls' := #[true, true, true, true, true, true, true, true, true, true, true, true, true, false, false, false, false, false, false, false, false, false, false, false, false]) (Tell.c rfl rfl Tell.e) (by kernel_rfl) rfl rfl rfl (VF.loadPrim (m := 0) (d := I z.fin) rfl rfl rfl (.inl rfl) rfl rfl rfl rfl) ?_
           refine RA.first (i := 13) (ls' := #[true, true, true, true, true, true, true, true, true, true, true, true, true, true, false, false, false, false, false, false, false, false, false, false, false]) (Tell.c rfl rfl Tell.e) (by kernel_rfl) rfl rfl rfl (VF.p (V.cmpInt rfl rfl rfl rfl)) ?_
           refine RA.first (i := 17) (ls' := #[true, true, true, true, true, true, true, true, true, true, true, true, true, true, false, false, false, true, false, false, false, false, false, false, false]) (Tell.c rfl rfl Tell.e) (by kernel_rfl) rfl rfl rfl (VF.p (V.mv (d := .pt 0 (bo 0) 0) rfl rfl)) ?_
           refine RA.first (i := 18) (ls' := #[true, true, true, true, true, true, true, true, true, true, true, true, true, true, false, false, false, true, true, false, false, false, false, false, false]) (Tell.c rfl rfl Tell.e) (by kernel_rfl) rfl rfl rfl (VF.p (V.nilP rfl rfl)) ?_
           refine RA.le [(0, .obj (bo 0) [I z.state, I z.iss, I z.una, I z.rcv, S z.wait, I z.sent, I z.fin, Bo z.peerFin, S z.in_, .w (sl 2 Late.c z.late) (g 0 9), Bo z.owe, I z.due, I z.times]), (7, .w (sl 4 Seg.c l) X), (159, .al 7 none 4 l.length X 0), (163, I z.una), (167, I z.sent), (172, Bo (z.fin == 2)), (177, .pt 0 (bo 0) 0)] rfl (Le.of rfl) ?_
           refine RA.first (i := 19) (ls' := #[true, true, true, true, true, true, true, true, true, true, true, true, true, true, false, false, false, true, true, true, false, false, false, false, false]) (Tell.c rfl rfl Tell.e) (by kernel_rfl) rfl rfl rfl (VF.p (V.field rfl rfl rfl rfl (by decide) rfl)) ?_
           refine RA.first (i := 20) (ls' := #[true, true, true, true, true, true, true, true, true, true, true, true, true, true, false, false, false, true, true, true, true, false, false, false, false]) (Tell.c rfl rfl Tell.e) (by kernel_rfl) rfl rfl rfl (VF.loadPrim (m := 0) (d := I z.rcv) rfl rfl rfl (.inl rfl) rfl rfl rfl rfl) ?_
           exact RA.to hall (RA.lr ro27_1111111111111100011110000 rfl rfl)
          exact RA.start (by kernel_rfl) (by kernel_rfl) (RA.lr ro27_S rfl rfl)
         ·rintro ⟨Xo27_22_1, Xo27_23_1, go27_14_1, go27_16_1⟩
          refine CW.region ?_
          refine RW.v rfl (V.mv (d := .pt 0 (bo 0) 0) rfl rfl) ?_
          refine RW.v rfl (V.nilP rfl rfl) ?_
          refine RW.v rfl (V.field rfl rfl rfl rfl (by decide) rfl) ?_
          refine RW.store (d := Bo false) rfl rfl rfl rfl rfl rfl rfl (Nat.le_of_ble_eq_true rfl) rfl rfl ?_
          refine RW.nil ?_
          refine CW.le [(0, .obj (bo 0) [I z.state, I z.iss, I z.una, I z.rcv, S z.wait, I z.sent, I z.fin, Bo z.peerFin, S z.in_, .w (sl 2 Late.c z.late) (g 0 9), Bo false, I z.due, I z.times]), (7, .w (sl 4 Seg.c (l ++ ([(⟨(addNum z.una (IntKind.i64.wrap (z.sent + (flagN (z.fin == 2))))), z.rcv, 2, ⟨#[]⟩⟩ : Seg)]))) Xo27_23_1)] rfl (Le.of rfl) ?_
          refine CW.seq ?_
          refine CW.region ?_
          refine RW.v rfl (V.mv (d := .al 7 none 4 ((l ++ ([(⟨(addNum z.una (IntKind.i64.wrap (z.sent + (flagN (z.fin == 2))))), z.rcv, 2, ⟨#[]⟩⟩ : Seg)])).length) Xo27_23_1 0) rfl rfl) ?_
          refine RW.v rfl (V.as (d := .al 7 none 4 ((l ++ ([(⟨(addNum z.una (IntKind.i64.wrap (z.sent + (flagN (z.fin == 2))))), z.rcv, 2, ⟨#[]⟩⟩ : Seg)])).length) Xo27_23_1 0) rfl rfl) ?_
          refine RW.pullS 6 7 (by decide) rfl rfl ?_
          refine RW.nil ?_
          refine CW.le [(0, .obj (bo 0) [I z.state, I z.iss, I z.una, I z.rcv, S z.wait, I z.sent, I z.fin, Bo z.peerFin, S z.in_, .w (sl 2 Late.c z.late) (g 0 9), Bo false, I z.due, I z.times]), (6, .w (sl 4 Seg.c (l ++ ([(⟨(addNum z.una (IntKind.i64.wrap (z.sent + (flagN (z.fin == 2))))), z.rcv, 2, ⟨#[]⟩⟩ : Seg)]))) Xo27_23_1)] rfl (Le.of rfl) ?_
          refine CW.ret ?_
          exact Post.one (RV.w rfl (by unfold pushOpenN; rw [← hy, hfin]; unfold oweSeg finSeg; first | (simp_all; done) | grind)) (AOs.obE (f := fun e => (Stream.c e).map .w) (e' := (⟨z.state, z.iss, z.una, z.rcv, z.wait, z.sent, z.fin, z.peerFin, z.in_, z.late, false, z.due, z.times⟩ : Stream)) rfl (DT.v (DT.v (DT.v (DT.v (DT.v (DT.v (DT.v (DT.v (DT.v (DT.w (DT.v (DT.v (DT.v DT.e))))))))))))) (by unfold pushOpenN; rw [← hy, hfin]; unfold oweSeg finSeg; first | (simp_all; done) | grind) (AOs.r (AOs.r AOs.e)))
        ·skip
         refine CW.skip ?_
         refine CW.le [(0, .obj (bo 0) [I z.state, I z.iss, I z.una, I z.rcv, S z.wait, I z.sent, I z.fin, Bo z.peerFin, S z.in_, .w (sl 2 Late.c z.late) (g 0 9), Bo z.owe, I z.due, I z.times]), (7, .w (sl 4 Seg.c l) X)] rfl (Le.of rfl) ?_
         refine CW.seq ?_
         refine CW.region ?_
         refine RW.v rfl (V.mv (d := .al 7 none 4 l.length X 0) rfl rfl) ?_
         refine RW.v rfl (V.as (d := .al 7 none 4 l.length X 0) rfl rfl) ?_
         refine RW.pullS 6 7 (by decide) rfl rfl ?_
         refine RW.nil ?_
         refine CW.le [(0, .obj (bo 0) [I z.state, I z.iss, I z.una, I z.rcv, S z.wait, I z.sent, I z.fin, Bo z.peerFin, S z.in_, .w (sl 2 Late.c z.late) (g 0 9), Bo z.owe, I z.due, I z.times]), (6, .w (sl 4 Seg.c l) X)] rfl (Le.of rfl) ?_
         refine CW.ret ?_
         exact Post.one (RV.w rfl (by unfold pushOpenN; rw [← hy, hfin]; unfold oweSeg finSeg; first | (simp_all; done) | grind)) (AOs.obE (f := fun e => (Stream.c e).map .w) (e' := z) rfl (DT.v (DT.v (DT.v (DT.v (DT.v (DT.v (DT.v (DT.v (DT.v (DT.w (DT.v (DT.v (DT.v DT.e))))))))))))) (by unfold pushOpenN; rw [← hy, hfin]; unfold oweSeg finSeg; first | (simp_all; done) | grind) (AOs.r (AOs.r AOs.e)))
end Go.Proofs.Ytkfjkmklmjcngaa.Y
