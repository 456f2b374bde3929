import Derived.Test.YtkfjkmklmjcngaaPu
import Derived.Test.YtkfjkmklmjcngaaProg
namespace Go.Proofs.Ytkfjkmklmjcngaa.Y
open Go Go.RowKit Go.Eng Go.Proofs
def tl : List (Nat × TyI) := [
(3, ⟨1, 8, [.int .i64 0], .prim⟩),
(4, ⟨1, 1, [.bool false], .prim⟩),
(5, ⟨1, 1, [.int .u8 0], .prim⟩),
(9, ⟨1, 16, [.string ⟨#[]⟩], .prim⟩),
(22, ⟨1, 24, [.slice none 0 0], .slice 5⟩),
(24, ⟨1, 24, [.slice none 0 0], .slice 3⟩),
(26, ⟨1, 24, [.slice none 0 0], .slice 88⟩),
(28, ⟨13, 136, [.int .i64 0, .int .i64 0, .int .i64 0, .int .i64 0, .string ⟨#[]⟩, .int .i64 0, .int .i64 0, .bool false, .string ⟨#[]⟩, .slice none 0 0, .bool false, .int .i64 0, .int .i64 0], .agg [(0, 3, 1), (1, 3, 1), (2, 3, 1), (3, 3, 1), (4, 9, 1), (5, 3, 1), (6, 3, 1), (7, 4, 1), (8, 9, 1), (9, 26, 1), (10, 4, 1), (11, 3, 1), (12, 3, 1)]⟩),
(31, ⟨1, 24, [.slice none 0 0], .slice 36⟩),
(36, ⟨4, 40, [.int .i64 0, .int .i64 0, .int .i64 0, .string ⟨#[]⟩], .agg [(0, 3, 1), (1, 3, 1), (2, 3, 1), (3, 9, 1)]⟩),
(38, ⟨1, 24, [.slice none 0 0], .slice 105⟩),
(40, ⟨13, 136, [.int .i64 0, .int .i64 0, .int .i64 0, .int .i64 0, .string ⟨#[]⟩, .int .i64 0, .int .i64 0, .bool false, .string ⟨#[]⟩, .slice none 0 0, .bool false, .int .i64 0, .int .i64 0], .agg [(0, 3, 1), (1, 3, 1), (2, 3, 1), (3, 3, 1), (4, 9, 1), (5, 3, 1), (6, 3, 1), (7, 4, 1), (8, 9, 1), (9, 38, 1), (10, 4, 1), (11, 3, 1), (12, 3, 1)]⟩),
(41, ⟨4, 40, [.int .i64 0, .int .i64 0, .int .i64 0, .string ⟨#[]⟩], .agg [(0, 3, 1), (1, 3, 1), (2, 3, 1), (3, 9, 1)]⟩),
(88, ⟨2, 24, [.int .i64 0, .string ⟨#[]⟩], .agg [(0, 3, 1), (1, 9, 1)]⟩),
(101, ⟨3, 40, [.slice none 0 0, .int .i64 0, .int .i64 0], .agg [(0, 22, 1), (1, 3, 1), (2, 3, 1)]⟩),
(105, ⟨2, 24, [.int .i64 0, .string ⟨#[]⟩], .agg [(0, 3, 1), (1, 9, 1)]⟩)]
theorem tl_ok : ∀ p ∈ tl, tyI Try.prog p.1 = some p.2 := by
  refine List.forall_mem_cons.2 ⟨by kernel_rfl, ?_⟩
  refine List.forall_mem_cons.2 ⟨by kernel_rfl, ?_⟩
  refine List.forall_mem_cons.2 ⟨by kernel_rfl, ?_⟩
  refine List.forall_mem_cons.2 ⟨by kernel_rfl, ?_⟩
  refine List.forall_mem_cons.2 ⟨by kernel_rfl, ?_⟩
  refine List.forall_mem_cons.2 ⟨by kernel_rfl, ?_⟩
  refine List.forall_mem_cons.2 ⟨by kernel_rfl, ?_⟩
  refine List.forall_mem_cons.2 ⟨by kernel_rfl, ?_⟩
  refine List.forall_mem_cons.2 ⟨by kernel_rfl, ?_⟩
  refine List.forall_mem_cons.2 ⟨by kernel_rfl, ?_⟩
  refine List.forall_mem_cons.2 ⟨by kernel_rfl, ?_⟩
  refine List.forall_mem_cons.2 ⟨by kernel_rfl, ?_⟩
  refine List.forall_mem_cons.2 ⟨by kernel_rfl, ?_⟩
  refine List.forall_mem_cons.2 ⟨by kernel_rfl, ?_⟩
  refine List.forall_mem_cons.2 ⟨by kernel_rfl, ?_⟩
  refine List.forall_mem_cons.2 ⟨by kernel_rfl, ?_⟩
  exact fun _ h => by cases h
noncomputable def E : Env := ⟨Try.prog, lk tl, fun t i h => tl_ok (t, i) (lk_mem _ _ _ h), by kernel_rfl⟩
set_option maxHeartbeats 4000000 in
theorem laws_big_fn (c : List Int) : Eng.Fn E.P 7 [.one (.r (sl 1 cU c))] (.one (.one (.w (.v (.bool (decide ((c.length : Int) > 1048576))))))) [.one (.r (sl 1 cU c))] := by
 refine Eng.Fn.intro (E := E) (rvs := [.tmp 2]) Try.func7 rfl rfl rfl (by simp [outSlots, moved, rvSlot, sl]) ?_
 intro B g bo
 refine CW.bound (x := .tmp 0) (n := c.length) (AsT.r) (fun hl0 => ?_)
 refine CW.le [(0, .r (sl 1 cU c))] rfl (Le.of rfl) ?_
 refine CW.seq ?_
 refine CW.region ?_
 refine RW.v rfl (V.as (d := Bo false) rfl rfl) ?_
 refine RW.nil ?_
 refine CW.le [(0, .r (sl 1 cU c))] rfl (Le.of rfl) ?_
 refine CW.seq ?_
 refine CW.region ?_
 refine RW.v rfl (V.mv (d := .r (sl 1 cU c)) rfl rfl) ?_
 refine RW.v rfl (V.lenT (n := c.length) rfl rfl rfl .r) ?_
 refine RW.v rfl (V.cmpInt rfl rfl rfl rfl) ?_
 refine RW.v rfl (V.as (d := Bo (decide ((c.length : Int) > 1048576))) rfl rfl) ?_
 refine RW.nil ?_
 refine CW.le [(2, Bo (decide ((c.length : Int) > 1048576)))] rfl (Le.of rfl) ?_
 refine CW.ret ?_
 exact Post.one (RV.b rfl (by rfl)) (AOs.r AOs.e)
set_option maxHeartbeats 4000000 in
theorem impl_within_fn (n : Int) (x : Int) (y : Int) : Eng.Fn E.P 36 [.one (.r (.v (.int .i64 n))), .one (.r (.v (.int .i64 x))), .one (.r (.v (.int .i64 y)))] (.one (.one (.w (.v (.bool (inR n x y)))))) [.one (.r (.v (.int .i64 n))), .one (.r (.v (.int .i64 x))), .one (.r (.v (.int .i64 y)))] := by
 refine Eng.Fn.intro (E := E) (rvs := [.tmp 6]) Try.func36 rfl rfl rfl (by simp [outSlots, moved, rvSlot, sl]) ?_
 intro B g bo
 refine CW.le [(0, I n), (1, I x), (2, I y)] rfl (Le.of rfl) ?_
 refine CW.seq ?_
 refine CW.region ?_
 refine RW.v rfl (V.as (d := Bo false) rfl rfl) ?_
 refine RW.nil ?_
 refine CW.le [(0, I n), (1, I x), (2, I y)] rfl (Le.of rfl) ?_
 refine CW.seqJ 15 (fun (v1 : Bool) => [(6, Bo v1)]) (fun v1 => v1 = (decide (n ≥ x) && decide (n ≤ y))) ?_ ?_
 ·refine CW.region ?_
  refine RW.v rfl (V.mv (d := I n) rfl rfl) ?_
  refine RW.v rfl (V.mv (d := I x) rfl rfl) ?_
  refine RW.v rfl (V.cmpInt rfl rfl rfl rfl) ?_
  refine RW.v rfl (V.mv (d := Bo (decide (n ≥ x))) rfl rfl) ?_
  refine RW.gv rfl rfl rfl rfl (fun h2 => V.mv (d := I n) rfl rfl) (fun h2 => ?_) (fun h2 => ?_)
  ·skip
   refine RW.gt rfl rfl rfl rfl (V.mv (d := I y) rfl rfl) ?_
   refine RW.gt rfl rfl rfl rfl (V.cmpInt rfl rfl rfl rfl) ?_
   refine RW.v rfl (V.pickT (d := Bo (decide (n ≤ y))) rfl rfl rfl) ?_
   refine RW.v rfl (V.as (d := Bo (decide (n ≤ y))) rfl rfl) ?_
   refine RW.nil ?_
   exact ⟨_, by first | rfl | (simp_all; done) | (simp_all; omega) | grind, rfl, Le.c rfl <| Le.e⟩
  ·skip
   refine RW.guardF rfl rfl rfl rfl ?_
   refine RW.guardF rfl rfl rfl rfl ?_
   refine RW.v rfl (V.pickF (d := Bo false) rfl rfl rfl) ?_
   refine RW.v rfl (V.as (d := Bo false) rfl rfl) ?_
   refine RW.nil ?_
   exact ⟨_, by first | rfl | (simp_all; done) | (simp_all; omega) | grind, rfl, Le.c rfl <| Le.e⟩
 ·intro v1 hv3
  refine CW.ret ?_
  exact Post.one (RV.b rfl (by simp_all [inR])) (AOs.r (AOs.r (AOs.r AOs.e)))
set_option maxHeartbeats 4000000 in
theorem impl_isWord_fn (n : Int) : Eng.Fn E.P 34 [.one (.r (.v (.int .i64 n)))] (.one (.one (.w (.v (.bool (isWord n)))))) [.one (.r (.v (.int .i64 n)))] := by
 refine Eng.Fn.intro (E := E) (rvs := [.tmp 2]) Try.func34 rfl rfl rfl (by simp [outSlots, moved, rvSlot, sl]) ?_
 intro B g bo
 refine CW.le [(0, I n)] rfl (Le.of rfl) ?_
 refine CW.seq ?_
 refine CW.region ?_
 refine RW.v rfl (V.as (d := Bo false) rfl rfl) ?_
 refine RW.nil ?_
 refine CW.le [(0, I n)] rfl (Le.of rfl) ?_
 refine CW.seq ?_
 refine CW.region ?_
 refine RW.v rfl (V.mv (d := I n) rfl rfl) ?_
 refine RW.call rfl (impl_within_fn n 0 65535) rfl (.cons (.one (.r .r)) (.cons (.one (.r .r)) (.cons (.one (.r .r)) (.nil)))) fun g1 => ?_
 refine RW.v rfl (V.as (d := Bo (inR n 0 65535)) rfl rfl) ?_
 refine RW.nil ?_
 refine CW.le [(2, Bo (inR n 0 65535))] rfl (Le.of rfl) ?_
 refine CW.ret ?_
 exact Post.one (RV.b rfl (by rfl)) (AOs.r AOs.e)
set_option maxHeartbeats 4000000 in
theorem impl_AddNum_fn (a : Int) (n : Int) : Eng.Fn E.P 68 [.one (.r (.v (.int .i64 a))), .one (.r (.v (.int .i64 n)))] (.one (.one (.w (.v (.int .i64 (addNum a n)))))) [.one (.r (.v (.int .i64 a))), .one (.r (.v (.int .i64 n)))] := by
 refine Eng.Fn.intro (E := E) (rvs := [.tmp 4]) Try.func68 rfl rfl rfl (by simp [outSlots, moved, rvSlot, sl]) ?_
 intro B g bo
 refine CW.le [(0, I a), (1, I n)] rfl (Le.of rfl) ?_
 refine CW.seq ?_
 refine CW.region ?_
 refine RW.v rfl (V.as (d := I 0) rfl rfl) ?_
 refine RW.nil ?_
 refine CW.le [(0, I a), (1, I n)] rfl (Le.of rfl) ?_
 refine CW.seq ?_
 refine CW.region ?_
 refine RW.v rfl (V.mv (d := I a) rfl rfl) ?_
 refine RW.v rfl (V.mv (d := I n) rfl rfl) ?_
 refine RW.v rfl (V.arInt rfl rfl rfl rfl) ?_
 refine RW.v rfl (V.bits rfl rfl rfl rfl) ?_
 refine RW.v rfl (V.as (d := I (andI (IntKind.i64.wrap (a + n)) 65535)) rfl rfl) ?_
 refine RW.nil ?_
 refine CW.le [(4, I (andI (IntKind.i64.wrap (a + n)) 65535))] rfl (Le.of rfl) ?_
 refine CW.ret ?_
 exact Post.one (RV.i rfl (by exact andI_wrap _)) (AOs.r (AOs.r AOs.e))
set_option maxHeartbeats 4000000 in
theorem impl_Gap_fn (a : Int) (b : Int) : Eng.Fn E.P 112 [.one (.r (.v (.int .i64 a))), .one (.r (.v (.int .i64 b)))] (.one (.one (.w (.v (.int .i64 (gap a b)))))) [.one (.r (.v (.int .i64 a))), .one (.r (.v (.int .i64 b)))] := by
 refine Eng.Fn.intro (E := E) (rvs := [.tmp 4]) Try.func112 rfl rfl rfl (by simp [outSlots, moved, rvSlot, sl]) ?_
 intro B g bo
 refine CW.le [(0, I a), (1, I b)] rfl (Le.of rfl) ?_
 refine CW.seq ?_
 refine CW.region ?_
 refine RW.v rfl (V.as (d := I 0) rfl rfl) ?_
 refine RW.nil ?_
 refine CW.le [(0, I a), (1, I b)] rfl (Le.of rfl) ?_
 refine CW.seq ?_
 refine CW.region ?_
 refine RW.v rfl (V.mv (d := I b) rfl rfl) ?_
 refine RW.v rfl (V.mv (d := I a) rfl rfl) ?_
 refine RW.v rfl (V.neg rfl rfl) ?_
 refine RW.call rfl (impl_AddNum_fn b (IntKind.i64.wrap (0 - a))) rfl (.cons (.one (.r .r)) (.cons (.one (.r .r)) (.nil))) fun g1 => ?_
 refine RW.v rfl (V.as (d := I (addNum b (IntKind.i64.wrap (0 - a)))) rfl rfl) ?_
 refine RW.nil ?_
 refine CW.le [(4, I (addNum b (IntKind.i64.wrap (0 - a))))] rfl (Le.of rfl) ?_
 refine CW.ret ?_
 exact Post.one (RV.i rfl (by exact gap_impl _ _)) (AOs.r (AOs.r AOs.e))
set_option maxHeartbeats 4000000 in
theorem impl_flag_fn (b : Bool) : Eng.Fn E.P 69 [.one (.r (.v (.bool b)))] (.one (.one (.w (.v (.int .i64 (flagN b)))))) [.one (.r (.v (.bool b)))] := by
 refine Eng.Fn.intro (E := E) (rvs := [.tmp 2]) Try.func69 rfl rfl rfl (by simp [outSlots, moved, rvSlot, sl]) ?_
 intro B g bo
 refine CW.le [(0, Bo b)] rfl (Le.of rfl) ?_
 refine CW.seq ?_
 refine CW.region ?_
 refine RW.v rfl (V.as (d := I 0) rfl rfl) ?_
 refine RW.nil ?_
 refine CW.le [(0, Bo b)] rfl (Le.of rfl) ?_
 refine CW.seq ?_
 refine CW.seq ?_
 refine CW.region ?_
 refine RW.v rfl (V.mv (d := Bo b) rfl rfl) ?_
 refine RW.nil ?_
 refine CW.le [(3, Bo b)] rfl (Le.of rfl) ?_
 refine CW.cond rfl (fun h1 => ?_) (fun h1 => ?_)
 ·skip
  refine CW.seq ?_
  refine CW.region ?_
  refine RW.v rfl (V.as (d := I 1) rfl rfl) ?_
  refine RW.nil ?_
  refine CW.le [(2, I 1)] rfl (Le.of rfl) ?_
  refine CW.ret ?_
  exact Post.one (RV.i rfl (by simp_all [flagN])) (AOs.r AOs.e)
 ·skip
  refine CW.skip ?_
  refine CW.le [] rfl (Le.of rfl) ?_
  refine CW.seq ?_
  refine CW.region ?_
  refine RW.v rfl (V.as (d := I 0) rfl rfl) ?_
  refine RW.nil ?_
  refine CW.le [(2, I 0)] rfl (Le.of rfl) ?_
  refine CW.ret ?_
  exact Post.one (RV.i rfl (by simp_all [flagN])) (AOs.r AOs.e)
set_option maxHeartbeats 4000000 in
theorem impl_copyStream_fn (x : Stream) (hm : x.late.length ≤ 1048576) : Eng.Fn E.P 35 [.agg ((Stream.c x).map .r)] (.one (.agg ((Stream.c x).map .w))) [.agg ((Stream.c x).map .r)] := by
 refine Eng.Fn.intro (E := E) (rvs := [.cell 2 28]) Try.func35 rfl rfl rfl (by simp [outSlots, moved, rvSlot, sl]) ?_
 intro B g bo
 refine CW.le [(0, .agg ((Stream.c x).map .r))] rfl (Le.of rfl) ?_
 refine CW.seq ?_
 refine CW.region ?_
 refine RW.box (ds := ((Stream.c x).map .r)) rfl rfl rfl fun b1 => ?_
 refine RW.alloc (ds := [I 0, I 0, I 0, I 0, S (⟨#[]⟩), I 0, I 0, Bo false, S (⟨#[]⟩), .r (.v (.slice none 0 0)), Bo false, I 0, I 0]) rfl rfl rfl rfl fun b2 => ?_
 refine RW.nil ?_
 refine CW.le [(1, .obj b1 ((Stream.c x).map .r)), (2, .obj b2 [I 0, I 0, I 0, I 0, S (⟨#[]⟩), I 0, I 0, Bo false, S (⟨#[]⟩), .r (.v (.slice none 0 0)), Bo false, I 0, I 0])] rfl (Le.of rfl) ?_
 refine CW.seq ?_
 refine CW.region ?_
 refine RW.build0 Late.c rfl rfl rfl rfl rfl fun X3 => ?_
 refine RW.v rfl (V.field rfl rfl rfl rfl (by decide) rfl) ?_
 refine RW.v rfl (V.loadPrim (d := .r (sl 2 Late.c x.late)) rfl rfl (.inr ⟨_, rfl⟩) rfl rfl rfl) ?_
 refine RW.appendSR (c := Late.c) (l1 := ([] : List Late)) (l2 := x.late) rfl rfl rfl rfl rfl rfl rfl rfl .r (by decide) (Nat.le_of_ble_eq_true rfl) Late.len (fun _ => rfl) rfl (by simp only [maxLen, List.length_nil]; omega) (by simp only [maxLen, List.length_nil]; omega) fun X4 => ?_
 refine RW.v rfl (V.field rfl rfl rfl rfl (by decide) rfl) ?_
 refine RW.store (d := .al 6 none 2 ((([] : List Late) ++ x.late).length) X4 0) rfl rfl rfl rfl rfl rfl rfl (Nat.le_of_ble_eq_true rfl) rfl rfl ?_
 refine RW.le [(1, .obj b1 [I x.state, I x.iss, I x.una, I x.rcv, S x.wait, I x.sent, I x.fin, Bo x.peerFin, S x.in_, .al 6 none 2 ((([] : List Late) ++ x.late).length) X4 0, Bo x.owe, I x.due, I x.times]), (2, .obj b2 [I 0, I 0, I 0, I 0, S (⟨#[]⟩), I 0, I 0, Bo false, S (⟨#[]⟩), .r (.v (.slice none 0 0)), Bo false, I 0, I 0]), (6, .w (sl 2 Late.c (([] : List Late) ++ x.late)) X4)] rfl (Le.of rfl) ?_
 refine RW.pullT (k := 1) (l := 6) (j := 9) 1 6 9 rfl rfl rfl (by decide) rfl rfl rfl ?_
 refine RW.le [(1, .obj b1 [I x.state, I x.iss, I x.una, I x.rcv, S x.wait, I x.sent, I x.fin, Bo x.peerFin, S x.in_, .w (sl 2 Late.c (([] : List Late) ++ x.late)) X4, Bo x.owe, I x.due, I x.times]), (2, .obj b2 [I 0, I 0, I 0, I 0, S (⟨#[]⟩), I 0, I 0, Bo false, S (⟨#[]⟩), .r (.v (.slice none 0 0)), Bo false, I 0, I 0])] rfl (Le.of rfl) ?_
 refine RW.nil ?_
 refine CW.le [(1, .obj b1 [I x.state, I x.iss, I x.una, I x.rcv, S x.wait, I x.sent, I x.fin, Bo x.peerFin, S x.in_, .w (sl 2 Late.c (([] : List Late) ++ x.late)) X4, Bo x.owe, I x.due, I x.times]), (2, .obj b2 [I 0, I 0, I 0, I 0, S (⟨#[]⟩), I 0, I 0, Bo false, S (⟨#[]⟩), .r (.v (.slice none 0 0)), Bo false, I 0, I 0])] rfl (Le.of rfl) ?_
 refine CW.seq ?_
 refine CW.region ?_
 refine RW.v rfl (V.loadAgg rfl rfl rfl rfl rfl (Nat.le_of_ble_eq_true rfl)) ?_
 refine RW.storeAgg (es := [I x.state, I x.iss, I x.una, I x.rcv, S x.wait, I x.sent, I x.fin, Bo x.peerFin, S x.in_, .al 1 (some 9) 2 ((([] : List Late) ++ x.late).length) X4 0, Bo x.owe, I x.due, I x.times]) rfl rfl rfl rfl rfl rfl rfl rfl (Nat.le_of_ble_eq_true rfl) rfl ?_
 refine RW.le [(1, .obj b1 [I x.state, I x.iss, I x.una, I x.rcv, S x.wait, I x.sent, I x.fin, Bo x.peerFin, S x.in_, .w (sl 2 Late.c (([] : List Late) ++ x.late)) X4, Bo x.owe, I x.due, I x.times]), (2, .obj b2 [I x.state, I x.iss, I x.una, I x.rcv, S x.wait, I x.sent, I x.fin, Bo x.peerFin, S x.in_, .al 1 (some 9) 2 ((([] : List Late) ++ x.late).length) X4 0, Bo x.owe, I x.due, I x.times])] rfl (Le.of rfl) ?_
 refine RW.pullO (k := 2) (l := 1) (j := 9) 2 1 9 rfl rfl rfl (by decide) rfl rfl rfl rfl ?_
 refine RW.le [(2, .obj b2 [I x.state, I x.iss, I x.una, I x.rcv, S x.wait, I x.sent, I x.fin, Bo x.peerFin, S x.in_, .w (sl 2 Late.c (([] : List Late) ++ x.late)) X4, Bo x.owe, I x.due, I x.times])] rfl (Le.of rfl) ?_
 refine RW.nil ?_
 refine CW.le [(2, .obj b2 [I x.state, I x.iss, I x.una, I x.rcv, S x.wait, I x.sent, I x.fin, Bo x.peerFin, S x.in_, .w (sl 2 Late.c (([] : List Late) ++ x.late)) X4, Bo x.owe, I x.due, I x.times])] rfl (Le.of rfl) ?_
 refine CW.ret ?_
 exact Post.one (RV.c (f := fun e => (Stream.c e).map .w) (e' := (⟨x.state, x.iss, x.una, x.rcv, x.wait, x.sent, x.fin, x.peerFin, x.in_, (([] : List Late) ++ x.late), x.owe, x.due, x.times⟩ : Stream)) rfl rfl rfl rfl (DT.v (DT.v (DT.v (DT.v (DT.v (DT.v (DT.v (DT.v (DT.v (DT.w (DT.v (DT.v (DT.v DT.e))))))))))))) (by rfl)) (AOs.a rfl AOs.e)
set_option maxHeartbeats 4000000 in
theorem __impl_Stream__take_fn (x : Stream) (num : Int) (text : ByteArray) (hi : x.in_.size ≤ 100000) (ht : text.size ≤ 8) : Eng.Fn E.P 113 [.ob ((Stream.c x).map .w), .one (.r (.v (.int .i64 num))), .one (.r (.v (.string text)))] (.one (.one (.w (.v (.bool (decide (gap num x.rcv < 32768))))))) [.ob ((Stream.c (takeN x num text)).map .w), .one (.r (.v (.int .i64 num))), .one (.r (.v (.string text)))] := by
 refine Eng.Fn.intro (E := E) (rvs := [.tmp 6]) Try.func113 rfl rfl rfl (by simp [outSlots, moved, rvSlot, sl]) ?_
 intro B g bo
 refine CW.le [(0, .obj (bo 0) [I x.state, I x.iss, I x.una, I x.rcv, S x.wait, I x.sent, I x.fin, Bo x.peerFin, S x.in_, .w (sl 2 Late.c x.late) (g 0 9), Bo x.owe, I x.due, I x.times]), (1, I num), (2, S text)] rfl (Le.of rfl) ?_
 refine CW.seq ?_
 refine CW.region ?_
 refine RW.v rfl (V.as (d := Bo false) rfl rfl) ?_
 refine RW.nil ?_
 refine CW.le [(0, .obj (bo 0) [I x.state, I x.iss, I x.una, I x.rcv, S x.wait, I x.sent, I x.fin, Bo x.peerFin, S x.in_, .w (sl 2 Late.c x.late) (g 0 9), Bo x.owe, I x.due, I x.times]), (1, I num), (2, S text)] rfl (Le.of rfl) ?_
 refine CW.seq ?_
 refine CW.region ?_
 refine RW.v rfl (V.mv (d := I num) rfl rfl) ?_
 refine RW.v rfl (V.mv (d := .pt 0 (bo 0) 0) rfl rfl) ?_
 refine RW.v rfl (V.nilP rfl rfl) ?_
 refine RW.v rfl (V.field rfl rfl rfl rfl (by decide) rfl) ?_
 refine RW.v rfl (V.loadPrim (d := I x.rcv) rfl rfl (.inl rfl) rfl rfl rfl) ?_
 refine RW.call rfl (impl_Gap_fn num x.rcv) rfl (.cons (.one (.r .r)) (.cons (.one (.r .r)) (.nil))) fun g1 => ?_
 refine RW.v rfl (V.as (d := I (gap num x.rcv)) rfl rfl) ?_
 refine RW.nil ?_
 refine CW.le [(0, .obj (bo 0) [I x.state, I x.iss, I x.una, I x.rcv, S x.wait, I x.sent, I x.fin, Bo x.peerFin, S x.in_, .w (sl 2 Late.c x.late) (g 0 9), Bo x.owe, I x.due, I x.times]), (2, S text), (7, I (gap num x.rcv))] rfl (Le.of rfl) ?_
 refine CW.seq ?_
 refine CW.seq ?_
 refine CW.region ?_
 refine RW.v rfl (V.mv (d := I (gap num x.rcv)) rfl rfl) ?_
 refine RW.v rfl (V.cmpInt rfl rfl rfl rfl) ?_
 refine RW.nil ?_
 refine CW.le [(0, .obj (bo 0) [I x.state, I x.iss, I x.una, I x.rcv, S x.wait, I x.sent, I x.fin, Bo x.peerFin, S x.in_, .w (sl 2 Late.c x.late) (g 0 9), Bo x.owe, I x.due, I x.times]), (2, S text), (7, I (gap num x.rcv)), (15, Bo (decide ((gap num x.rcv) ≥ 32768)))] rfl (Le.of rfl) ?_
 refine CW.cond rfl (fun h2 => ?_) (fun h2 => ?_)
 ·skip
  refine CW.seq ?_
  refine CW.region ?_
  refine RW.v rfl (V.as (d := Bo false) rfl rfl) ?_
  refine RW.nil ?_
  refine CW.le [(0, .obj (bo 0) [I x.state, I x.iss, I x.una, I x.rcv, S x.wait, I x.sent, I x.fin, Bo x.peerFin, S x.in_, .w (sl 2 Late.c x.late) (g 0 9), Bo x.owe, I x.due, I x.times]), (6, Bo false)] rfl (Le.of rfl) ?_
  refine CW.ret ?_
  exact Post.one (RV.b rfl (by simp at h2 ⊢; omega)) (AOs.obE (f := fun e => (Stream.c e).map .w) (e' := x) rfl (DT.v (DT.v (DT.v (DT.v (DT.v (DT.v (DT.v (DT.v (DT.v (DT.w (DT.v (DT.v (DT.v DT.e))))))))))))) (by unfold takeN; first | (rw [if_pos (by simpa using h3)]; done) | (rw [if_neg (by simp at h3; omega)]; done) | (rw [if_neg (by simp at h2; omega)]; done)) (AOs.r (AOs.r AOs.e)))
 ·skip
  refine CW.skip ?_
  refine CW.le [(0, .obj (bo 0) [I x.state, I x.iss, I x.una, I x.rcv, S x.wait, I x.sent, I x.fin, Bo x.peerFin, S x.in_, .w (sl 2 Late.c x.late) (g 0 9), Bo x.owe, I x.due, I x.times]), (2, S text), (7, I (gap num x.rcv))] rfl (Le.of rfl) ?_
  refine CW.seq ?_
  refine CW.seq ?_
  refine CW.region ?_
  refine RW.v rfl (V.mv (d := I (gap num x.rcv)) rfl rfl) ?_
  refine RW.v rfl (V.mv (d := S text) rfl rfl) ?_
  refine RW.v rfl (V.lenStr rfl (by kernel_rfl) rfl) ?_
  refine RW.v rfl (V.cmpInt rfl rfl rfl rfl) ?_
  refine RW.nil ?_
  refine CW.le [(0, .obj (bo 0) [I x.state, I x.iss, I x.una, I x.rcv, S x.wait, I x.sent, I x.fin, Bo x.peerFin, S x.in_, .w (sl 2 Late.c x.late) (g 0 9), Bo x.owe, I x.due, I x.times]), (2, S text), (7, I (gap num x.rcv)), (19, Bo (decide ((gap num x.rcv) < (text.size : Int))))] rfl (Le.of rfl) ?_
  refine CW.cond rfl (fun h3 => ?_) (fun h3 => ?_)
  ·skip
   refine CW.anyJ (fc := []) 42 (fun (_ : Unit) => [(0, .obj (bo 0) [I x.state, I x.iss, I x.una, I x.rcv, S x.wait, I x.sent, I x.fin, Bo x.peerFin, S (x.in_ ++ (text.extract (gap num x.rcv).toNat (text.size : Int).toNat)), .w (sl 2 Late.c x.late) (g 0 9), Bo x.owe, I x.due, I x.times]), (2, S text), (7, I (gap num x.rcv))]) (fun all hall K hK => ?_) ?_
   ·skip
    have ro4_11111111111 : RA [] E B all 0 #[true, true, true, true, true, true, true, true, true, true, true] ⟨42, [(0, .obj (bo 0) [I x.state, I x.iss, I x.una, I x.rcv, S x.wait, I x.sent, I x.fin, Bo x.peerFin, S (x.in_ ++ (text.extract (gap num x.rcv).toNat (text.size : Int).toNat)), .w (sl 2 Late.c x.late) (g 0 9), Bo x.owe, I x.due, I x.times]), (2, S text), (7, I (gap num x.rcv))]⟩ K := by
     exact RA.of hall (RA.finH Tell.e (by kernel_rfl) (hK () _ rfl (Le.of rfl)))
    have ro4_11111111110 : RA [] E B all 1 #[true, true, true, true, true, true, true, true, true, true, false] ⟨42, [(0, .obj (bo 0) [I x.state, I x.iss, I x.una, I x.rcv, S x.wait, I x.sent, I x.fin, Bo x.peerFin, S x.in_, .w (sl 2 Late.c x.late) (g 0 9), Bo x.owe, I x.due, I x.times]), (2, S text), (7, I (gap num x.rcv)), (27, S (x.in_ ++ (text.extract (gap num x.rcv).toNat (text.size : Int).toNat))), (29, .pt 0 (bo 0) 8)]⟩ K := by
     refine RA.of hall (RA.stepH (L := [10]) Tell.e (by kernel_rfl) (by simp) (RA.each ?_ (RA.each0)))
     ·skip
      refine RO.store (d := S (x.in_ ++ (text.extract (gap num x.rcv).toNat (text.size : Int).toNat))) rfl rfl rfl rfl rfl rfl rfl rfl rfl (Nat.le_of_ble_eq_true rfl) rfl rfl ?_
      exact RA.to hall (RA.lr ro4_11111111111 rfl rfl)
    have ro4_11101110000 : RA [] E B all 5 #[true, true, true, false, true, true, true, false, false, false, false] ⟨42, [(0, .obj (bo 0) [I x.state, I x.iss, I x.una, I x.rcv, S x.wait, I x.sent, I x.fin, Bo x.peerFin, S x.in_, .w (sl 2 Late.c x.late) (g 0 9), Bo x.owe, I x.due, I x.times]), (2, S text), (7, I (gap num x.rcv)), (20, .pt 0 (bo 0) 0), (22, .pt 0 (bo 0) 8), (26, S (text.extract (gap num x.rcv).toNat (text.size : Int).toNat))]⟩ K := by
     refine RA.of hall (RA.stepH (L := [3]) Tell.e (by kernel_rfl) (by simp) (RA.each ?_ (RA.each0)))
     ·skip
      refine RO.v rfl rfl (V.loadPrim (d := S x.in_) rfl rfl (.inl rfl) rfl rfl rfl) rfl ?_
      refine RA.first (i := 7) (ls' := #[true, true, true, true, true, true, true, true, false, false, false]) Tell.e (by kernel_rfl) rfl rfl rfl (VF.p (V.cat rfl rfl rfl (by simp only [maxLen, ByteArray.size_extract]; omega))) ?_
      refine RA.first (i := 8) (ls' := #[true, true, true, true, true, true, true, true, true, false, false]) Tell.e (by kernel_rfl) rfl rfl rfl (VF.p (V.nilP rfl rfl)) ?_
      refine RA.first (i := 9) (ls' := #[true, true, true, true, true, true, true, true, true, true, false]) Tell.e (by kernel_rfl) rfl rfl rfl (VF.p (V.field rfl rfl rfl rfl (by decide) rfl)) ?_
      exact RA.to hall (RA.lr ro4_11111111110 rfl rfl)
    have ro4_S : RA [] E B all 11 #[false, false, false, false, false, false, false, false, false, false, false] ⟨42, [(0, .obj (bo 0) [I x.state, I x.iss, I x.una, I x.rcv, S x.wait, I x.sent, I x.fin, Bo x.peerFin, S x.in_, .w (sl 2 Late.c x.late) (g 0 9), Bo x.owe, I x.due, I x.times]), (2, S text), (7, I (gap num x.rcv))]⟩ K := by
     refine RA.of hall ?_
     refine RA.first (i := 0) (ls' := #[true, false, false, false, false, false, false, false, false, false, false]) Tell.e (by kernel_rfl) rfl rfl rfl (VF.p (V.mv (d := .pt 0 (bo 0) 0) rfl rfl)) ?_
     refine RA.first (i := 1) (ls' := #[true, true, false, false, false, false, false, false, false, false, false]) Tell.e (by kernel_rfl) rfl rfl rfl (VF.p (V.nilP rfl rfl)) ?_
     refine RA.first (i := 2) (ls' := #[true, true, true, false, false, false, false, false, false, false, false]) Tell.e (by kernel_rfl) rfl rfl rfl (VF.p (V.field rfl rfl rfl rfl (by decide) rfl)) ?_
     refine RA.first (i := 4) (ls' := #[true, true, true, false, true, false, false, false, false, false, false]) Tell.e (by kernel_rfl) rfl rfl rfl (VF.p (V.mv (d := S text) rfl rfl)) ?_
     refine RA.le [(0, .obj (bo 0) [I x.state, I x.iss, I x.una, I x.rcv, S x.wait, I x.sent, I x.fin, Bo x.peerFin, S x.in_, .w (sl 2 Late.c x.late) (g 0 9), Bo x.owe, I x.due, I x.times]), (2, S text), (7, I (gap num x.rcv)), (20, .pt 0 (bo 0) 0), (22, .pt 0 (bo 0) 8), (24, S text)] rfl (Le.of rfl) ?_
     refine RA.first (i := 5) (ls' := #[true, true, true, false, true, true, false, false, false, false, false]) Tell.e (by kernel_rfl) rfl rfl rfl (VF.p (V.mv (d := I (gap num x.rcv)) rfl rfl)) ?_
     refine RA.first (i := 6) (ls' := #[true, true, true, false, true, true, true, false, false, false, false]) Tell.e (by kernel_rfl) rfl rfl rfl (VF.p (V.strSlice (l := (gap num x.rcv)) (h := (text.size : Int)) rfl (by kernel_rfl) rfl (.inr ⟨_, _, rfl, rfl⟩) (.inl ⟨rfl, rfl⟩) (by have h7 := gap_in num x.rcv; simp at h3; omega))) ?_
     exact RA.to hall (RA.lr ro4_11101110000 rfl rfl)
    exact RA.start (by kernel_rfl) (by kernel_rfl) (RA.lr ro4_S rfl rfl)
   ·rintro _
    refine CW.region ?_
    refine RW.v rfl (V.mv (d := .pt 0 (bo 0) 0) rfl rfl) ?_
    refine RW.v rfl (V.mv (d := .pt 0 (bo 0) 0) rfl rfl) ?_
    refine RW.v rfl (V.nilP rfl rfl) ?_
    refine RW.v rfl (V.field rfl rfl rfl rfl (by decide) rfl) ?_
    refine RW.v rfl (V.loadPrim (d := I x.rcv) rfl rfl (.inl rfl) rfl rfl rfl) ?_
    refine RW.v rfl (V.mv (d := S text) rfl rfl) ?_
    refine RW.v rfl (V.lenStr rfl (by kernel_rfl) rfl) ?_
    refine RW.v rfl (V.mv (d := I (gap num x.rcv)) rfl rfl) ?_
    refine RW.v rfl (V.arInt rfl rfl rfl rfl) ?_
    refine RW.call rfl (impl_AddNum_fn x.rcv (IntKind.i64.wrap ((text.size : Int) - (gap num x.rcv)))) rfl (.cons (.one (.r .r)) (.cons (.one (.r .r)) (.nil))) fun g5 => ?_
    refine RW.v rfl (V.nilP rfl rfl) ?_
    refine RW.v rfl (V.field rfl rfl rfl rfl (by decide) rfl) ?_
    refine RW.store (d := I (addNum x.rcv (IntKind.i64.wrap ((text.size : Int) - (gap num x.rcv))))) rfl rfl rfl rfl rfl rfl rfl (Nat.le_of_ble_eq_true rfl) rfl rfl ?_
    refine RW.nil ?_
    refine CW.le [(0, .obj (bo 0) [I x.state, I x.iss, I x.una, I (addNum x.rcv (IntKind.i64.wrap ((text.size : Int) - (gap num x.rcv)))), S x.wait, I x.sent, I x.fin, Bo x.peerFin, S (x.in_ ++ (text.extract (gap num x.rcv).toNat (text.size : Int).toNat)), .w (sl 2 Late.c x.late) (g 0 9), Bo x.owe, I x.due, I x.times])] rfl (Le.of rfl) ?_
    refine CW.seq ?_
    refine CW.region ?_
    refine RW.v rfl (V.as (d := Bo true) rfl rfl) ?_
    refine RW.nil ?_
    refine CW.le [(0, .obj (bo 0) [I x.state, I x.iss, I x.una, I (addNum x.rcv (IntKind.i64.wrap ((text.size : Int) - (gap num x.rcv)))), S x.wait, I x.sent, I x.fin, Bo x.peerFin, S (x.in_ ++ (text.extract (gap num x.rcv).toNat (text.size : Int).toNat)), .w (sl 2 Late.c x.late) (g 0 9), Bo x.owe, I x.due, I x.times]), (6, Bo true)] rfl (Le.of rfl) ?_
    refine CW.ret ?_
    exact Post.one (RV.b rfl (by simp at h2 ⊢; omega)) (AOs.obE (f := fun e => (Stream.c e).map .w) (e' := (⟨x.state, x.iss, x.una, (addNum x.rcv (IntKind.i64.wrap ((text.size : Int) - (gap num x.rcv)))), x.wait, x.sent, x.fin, x.peerFin, (x.in_ ++ (text.extract (gap num x.rcv).toNat (text.size : Int).toNat)), x.late, x.owe, x.due, x.times⟩ : Stream)) rfl (DT.v (DT.v (DT.v (DT.v (DT.v (DT.v (DT.v (DT.v (DT.v (DT.w (DT.v (DT.v (DT.v DT.e))))))))))))) (by unfold takeN; first | (rw [if_pos (by simpa using h3)]; done) | (rw [if_neg (by simp at h3; omega)]; done) | (rw [if_neg (by simp at h2; omega)]; done)) (AOs.r (AOs.r AOs.e)))
  ·skip
   refine CW.skip ?_
   refine CW.le [(0, .obj (bo 0) [I x.state, I x.iss, I x.una, I x.rcv, S x.wait, I x.sent, I x.fin, Bo x.peerFin, S x.in_, .w (sl 2 Late.c x.late) (g 0 9), Bo x.owe, I x.due, I x.times])] rfl (Le.of rfl) ?_
   refine CW.seq ?_
   refine CW.region ?_
   refine RW.v rfl (V.as (d := Bo true) rfl rfl) ?_
   refine RW.nil ?_
   refine CW.le [(0, .obj (bo 0) [I x.state, I x.iss, I x.una, I x.rcv, S x.wait, I x.sent, I x.fin, Bo x.peerFin, S x.in_, .w (sl 2 Late.c x.late) (g 0 9), Bo x.owe, I x.due, I x.times]), (6, Bo true)] rfl (Le.of rfl) ?_
   refine CW.ret ?_
   exact Post.one (RV.b rfl (by simp at h2 ⊢; omega)) (AOs.obE (f := fun e => (Stream.c e).map .w) (e' := x) rfl (DT.v (DT.v (DT.v (DT.v (DT.v (DT.v (DT.v (DT.v (DT.v (DT.w (DT.v (DT.v (DT.v DT.e))))))))))))) (by unfold takeN; first | (rw [if_pos (by simpa using h3)]; done) | (rw [if_neg (by simp at h3; omega)]; done) | (rw [if_neg (by simp at h2; omega)]; done)) (AOs.r (AOs.r AOs.e)))
set_option maxHeartbeats 4000000 in
theorem __impl_Stream__isLate_fn (x : Stream) (num : Int) : Eng.Fn E.P 114 [.one (.r (.f none (Stream.c x))), .one (.r (.v (.int .i64 num)))] (.one (.one (.w (.v (.bool (x.late.any fun l => l.num == num)))))) [.one (.r (.f none (Stream.c x))), .one (.r (.v (.int .i64 num)))] := by
 refine Eng.Fn.intro (E := E) (rvs := [.tmp 4]) Try.func114 rfl rfl rfl (by simp [outSlots, moved, rvSlot, sl]) ?_
 intro B g bo
 refine CW.asRp 0 rfl ?_
 refine CW.le [(0, .rp (Stream.c x)), (1, I num)] rfl (Le.of rfl) ?_
 refine CW.seq ?_
 refine CW.region ?_
 refine RW.v rfl (V.as (d := Bo false) rfl rfl) ?_
 refine RW.nil ?_
 refine CW.le [(0, .rp (Stream.c x)), (1, I num)] rfl (Le.of rfl) ?_
 refine CW.seq ?_
 refine CW.seq ?_
 refine CW.region ?_
 refine RW.v rfl (V.mv (d := .rp (Stream.c x)) rfl rfl) ?_
 refine RW.v rfl (V.nilR rfl rfl) ?_
 refine RW.v rfl (V.fieldR rfl rfl rfl rfl (by decide) rfl (Nat.le_of_ble_eq_true rfl)) ?_
 refine RW.v rfl (V.loadPrimR (t0 := sl 2 Late.c x.late) rfl rfl (.inr ⟨_, rfl⟩) rfl rfl) ?_
 refine RW.v rfl (V.lenT (n := x.late.length) rfl rfl rfl .r) ?_
 refine RW.v rfl (V.mv (d := I 0) rfl rfl) ?_
 refine RW.nil ?_
 refine CW.le [(1, I num), (10, .r (sl 2 Late.c x.late)), (11, I (x.late.length : Int)), (12, I 0)] rfl (Le.of rfl) ?_
 refine CW.block ?_
 refine CW.loopI 21 (fun (i : Nat) => [(1, I num), (10, .r (sl 2 Late.c x.late)), (11, I (x.late.length : Int)), (12, I (i : Int))]) (fun (i : Nat) => i ≤ x.late.length ∧ ((x.late.take i).any fun l => l.num == num) = false) (fun (i : Nat) => x.late.length - i) 0 rfl (Le.c rfl <| Le.c rfl <| Le.c rfl <| Le.c rfl <| Le.e) ⟨by omega, by simp⟩ ?_
 rintro i ⟨hb, hr⟩
 refine CW.bound (x := .tmp 10) (n := x.late.length) AsT.r (fun hl0 => ?_)
 refine CW.seq ?_
 refine CW.region ?_
 refine RW.v rfl (V.cmpInt rfl rfl rfl rfl) ?_
 refine RW.nil ?_
 refine CW.le [(1, I num), (10, .r (sl 2 Late.c x.late)), (11, I (x.late.length : Int)), (12, I (i : Int)), (13, Bo (decide ((i : Int) < (x.late.length : Int))))] rfl (Le.of rfl) ?_
 refine CW.seq ?_
 refine CW.cond rfl (fun h1 => ?_) (fun h1 => ?_)
 ·skip
  have hii : i < x.late.length := by have := h1; simp at this; first | exact this | omega | (simp; done) | (simp; omega)
  obtain ⟨ei, hei⟩ : ∃ e, x.late[i]? = some e := ⟨_, List.getElem?_eq_getElem hii⟩
  have hdi := drop_get hei
  refine CW.skip ?_
  refine CW.le [(1, I num), (10, .r (sl 2 Late.c x.late)), (11, I (x.late.length : Int)), (12, I (i : Int))] rfl (Le.of rfl) ?_
  refine CW.seq ?_
  refine CW.block ?_
  refine CW.seq ?_
  refine CW.region ?_
  refine RW.v rfl (V.indexS rfl rfl rfl rfl rfl rfl Late.len hei) ?_
  refine RW.v rfl (V.loadAggR rfl rfl rfl rfl (Nat.le_of_ble_eq_true rfl)) ?_
  refine RW.alloc (ds := [I 0, S (⟨#[]⟩)]) rfl rfl rfl rfl fun b2 => ?_
  refine RW.storeAgg (es := ((Late.c ei).map .r)) rfl rfl rfl rfl rfl rfl rfl rfl (Nat.le_of_ble_eq_true rfl) rfl ?_
  refine RW.nil ?_
  refine CW.le [(1, I num), (6, .obj b2 ((Late.c ei).map .r)), (10, .r (sl 2 Late.c x.late)), (11, I (x.late.length : Int)), (12, I (i : Int))] rfl (Le.of rfl) ?_
  refine CW.seq ?_
  refine CW.region ?_
  refine RW.v rfl (V.field rfl rfl rfl rfl (by decide) rfl) ?_
  refine RW.v rfl (V.loadPrim (d := I ei.num) rfl rfl (.inl rfl) rfl rfl rfl) ?_
  refine RW.v rfl (V.mv (d := I num) rfl rfl) ?_
  refine RW.v rfl (V.cmpInt rfl rfl rfl rfl) ?_
  refine RW.nil ?_
  refine CW.le [(1, I num), (10, .r (sl 2 Late.c x.late)), (11, I (x.late.length : Int)), (12, I (i : Int)), (19, Bo (ei.num == num))] rfl (Le.of rfl) ?_
  refine CW.cond rfl (fun h3 => ?_) (fun h3 => ?_)
  ·skip
   refine CW.seq ?_
   refine CW.region ?_
   refine RW.v rfl (V.as (d := Bo true) rfl rfl) ?_
   refine RW.nil ?_
   refine CW.le [(4, Bo true)] rfl (Le.of rfl) ?_
   refine CW.ret ?_
   exact Post.one (RV.b rfl (by exact (List.any_eq_true.2 ⟨ei, List.mem_of_getElem? hei, by simp_all⟩).symm)) (AOs.r (AOs.r AOs.e))
  ·skip
   refine CW.skip ?_
   refine CW.le [(1, I num), (10, .r (sl 2 Late.c x.late)), (11, I (x.late.length : Int)), (12, I (i : Int))] rfl (Le.of rfl) ?_
   refine CW.region ?_
   refine RW.v rfl (V.inc rfl rfl rfl hii hl0) ?_
   refine RW.v rfl (V.mv (d := I ((i + 1 : Nat) : Int)) rfl rfl) ?_
   refine RW.nil ?_
   exact ⟨i + 1, by omega, ⟨by omega, any_snoc hr hei (by simp_all)⟩, rfl, Le.c rfl <| Le.c rfl <| Le.c rfl <| Le.c rfl <| Le.e⟩
 ·skip
  have hii : x.late.length ≤ i := by have := h1; simp at this; first | exact this | omega | (simp; done) | (simp; omega)
  have hdi : x.late.drop i = [] := List.drop_eq_nil_of_le hii
  refine CW.exit ?_
  refine CW.le [] rfl (Le.of rfl) ?_
  refine CW.seq ?_
  refine CW.region ?_
  refine RW.v rfl (V.as (d := Bo false) rfl rfl) ?_
  refine RW.nil ?_
  refine CW.le [(4, Bo false)] rfl (Le.of rfl) ?_
  refine CW.ret ?_
  exact Post.one (RV.b rfl (by rw [List.take_of_length_le hii] at hr; exact hr.symm)) (AOs.r (AOs.r AOs.e))
set_option maxHeartbeats 4000000 in
theorem __impl_Stream__part_fn (x : Stream) (s : Seg) (hx : partIn x) (hs : s.body.size ≤ 8) : Eng.Fn E.P 92 [.ob ((Stream.c x).map .w), .agg ((Seg.c s).map .r)] (.tup []) [.ob ((Stream.c (partN x s)).map .w), .agg ((Seg.c s).map .r)] := by
 refine Eng.Fn.intro (E := E) (rvs := []) Try.func92 rfl rfl rfl (by simp [outSlots, moved, rvSlot, sl]) ?_
 intro B g bo
 refine CW.le [(0, .obj (bo 0) [I x.state, I x.iss, I x.una, I x.rcv, S x.wait, I x.sent, I x.fin, Bo x.peerFin, S x.in_, .w (sl 2 Late.c x.late) (g 0 9), Bo x.owe, I x.due, I x.times]), (1, .agg ((Seg.c s).map .r))] rfl (Le.of rfl) ?_
 have hx1 := hx.1
 have hx2 := hx.2.1
 refine CW.seq ?_
 refine CW.region ?_
 refine RW.box (ds := ((Seg.c s).map .r)) rfl rfl rfl fun b1 => ?_
 refine RW.nil ?_
 refine CW.le [(0, .obj (bo 0) [I x.state, I x.iss, I x.una, I x.rcv, S x.wait, I x.sent, I x.fin, Bo x.peerFin, S x.in_, .w (sl 2 Late.c x.late) (g 0 9), Bo x.owe, I x.due, I x.times]), (3, .obj b1 ((Seg.c s).map .r))] rfl (Le.of rfl) ?_
 refine CW.seq ?_
 refine CW.anyP (fc := [(3, b1, [.int .i64 s.num, .int .i64 s.ack, .int .i64 s.flags, .string s.body])]) 91 (fun (zz : Bool × (Nat → Value)) => match zz with | (v2, q4) => [(0, .obj (bo 0) [I ((takeN x s.num s.body).state), I ((takeN x s.num s.body).iss), I ((takeN x s.num s.body).una), I ((takeN x s.num s.body).rcv), S ((takeN x s.num s.body).wait), I ((takeN x s.num s.body).sent), I ((takeN x s.num s.body).fin), Bo ((takeN x s.num s.body).peerFin), S ((takeN x s.num s.body).in_), .w (sl 2 Late.c ((takeN x s.num s.body).late)) (q4 9), Bo ((takeN x s.num s.body).owe), I ((takeN x s.num s.body).due), I ((takeN x s.num s.body).times)]), (3, .obj b1 ((Seg.c s).map .r)), (37, Bo v2)]) (fun (zz : Bool × (Nat → Value)) => match zz with | (v2, q4) => v2 = ((((!(decide (gap s.num x.rcv < 32768))) && decide ((gap ((takeN x s.num s.body).rcv) s.num) < 64)) && decide ((((takeN x s.num s.body).late).length : Int) < 8)) && (!((takeN x s.num s.body).late.any fun l => l.num == s.num)))) (fun K hK => ?_) ?_
 ·refine RA.start (m := 32) (ls' := #[false, false, false, false, false, false, false, false, false, false, false, false, false, false, false, false, false, false, false, false, false, false, false, false, false, false, false, false, false, false, false, false]) (by kernel_rfl) (by kernel_rfl) ?_
  refine RA.le [(0, .obj (bo 0) [I x.state, I x.iss, I x.una, I x.rcv, S x.wait, I x.sent, I x.fin, Bo x.peerFin, S x.in_, .w (sl 2 Late.c x.late) (g 0 9), Bo x.owe, I x.due, I x.times]), (3, .obj b1 ((Seg.c s).map .r))] rfl (Le.of rfl) ?_
  refine RA.first (i := 0) (ls' := #[true, false, false, false, false, false, false, false, false, false, false, false, false, false, false, false, false, false, false, false, false, false, false, false, false, false, false, false, false, false, false, false]) (Tell.c rfl rfl Tell.e) (by kernel_rfl) rfl rfl rfl (VF.p (V.mv (d := .pt 0 (bo 0) 0) rfl rfl)) ?_
  refine RA.first (i := 1) (ls' := #[true, true, false, false, false, false, false, false, false, false, false, false, false, false, false, false, false, false, false, false, false, false, false, false, false, false, false, false, false, false, false, false]) (Tell.c rfl rfl Tell.e) (by kernel_rfl) rfl rfl rfl (VF.p (V.field rfl rfl rfl rfl (by decide) rfl)) ?_
  refine RA.first (i := 2) (ls' := #[true, true, true, false, false, false, false, false, false, false, false, false, false, false, false, false, false, false, false, false, false, false, false, false, false, false, false, false, false, false, false, false]) (Tell.c rfl rfl Tell.e) (by kernel_rfl) rfl rfl rfl (VF.loadPrim (m := 0) (d := I s.num) rfl rfl rfl (.inl rfl) rfl rfl rfl rfl) ?_
  refine RA.first (i := 3) (ls' := #[true, true, true, true, false, false, false, false, false, false, false, false, false, false, false, false, false, false, false, false, false, false, false, false, false, false, false, false, false, false, false, false]) (Tell.c rfl rfl Tell.e) (by kernel_rfl) rfl rfl rfl (VF.p (V.field rfl rfl rfl rfl (by decide) rfl)) ?_
  refine RA.first (i := 4) (ls' := #[true, true, true, true, true, false, false, false, false, false, false, false, false, false, false, false, false, false, false, false, false, false, false, false, false, false, false, false, false, false, false, false]) (Tell.c rfl rfl Tell.e) (by kernel_rfl) rfl rfl rfl (VF.loadPrim (m := 0) (d := S s.body) rfl rfl rfl (.inl rfl) rfl rfl rfl rfl) ?_
  refine RA.le [(0, .obj (bo 0) [I x.state, I x.iss, I x.una, I x.rcv, S x.wait, I x.sent, I x.fin, Bo x.peerFin, S x.in_, .w (sl 2 Late.c x.late) (g 0 9), Bo x.owe, I x.due, I x.times]), (3, .obj b1 ((Seg.c s).map .r)), (6, .pt 0 (bo 0) 0), (8, I s.num), (10, S s.body)] rfl (Le.of rfl) ?_
  refine RA.le [(0, .obj (bo 0) [I x.state, I x.iss, I x.una, I x.rcv, S x.wait, I x.sent, I x.fin, Bo x.peerFin, S x.in_, .w (sl 2 Late.c x.late) (g 0 9), Bo x.owe, I x.due, I x.times]), (3, .obj b1 ((Seg.c s).map .r)), (6, .pt 0 (bo 0) 0), (8, I s.num), (10, S s.body)] rfl (Le.of rfl) ?_
  refine RA.stepH (L := [5]) (Tell.c rfl rfl Tell.e) (by kernel_rfl) (by simp) (RA.each ?_ RA.each0)
  refine RO.callW (k := 0) (__impl_Stream__take_fn x s.num s.body (by omega) hs) rfl rfl rfl rfl (Nat.le_of_ble_eq_true rfl) (by decide) (.here (AsW.ob (DT.v (DT.v (DT.v (DT.v (DT.v (DT.v (DT.v (DT.v (DT.v (DT.w (DT.v (DT.v (DT.v DT.e))))))))))))) rfl) (.cons (.one (.r .r)) (.cons (.one (.r .r)) (.nil)))) rfl fun g3 q4 => ?_
  refine RA.first (i := 6) (ls' := #[true, true, true, true, true, true, true, false, false, false, false, false, false, false, false, false, false, false, false, false, false, false, false, false, false, false, false, false, false, false, false, false]) (Tell.c rfl rfl Tell.e) (by kernel_rfl) rfl rfl rfl (VF.p (V.not rfl rfl)) ?_
  refine RA.first (i := 7) (ls' := #[true, true, true, true, true, true, true, true, false, false, false, false, false, false, false, false, false, false, false, false, false, false, false, false, false, false, false, false, false, false, false, false]) (Tell.c rfl rfl Tell.e) (by kernel_rfl) rfl rfl rfl (VF.p (V.mv (d := Bo (!(decide (gap s.num x.rcv < 32768)))) rfl rfl)) ?_
  refine RA.le [(0, .obj (bo 0) [I ((takeN x s.num s.body).state), I ((takeN x s.num s.body).iss), I ((takeN x s.num s.body).una), I ((takeN x s.num s.body).rcv), S ((takeN x s.num s.body).wait), I ((takeN x s.num s.body).sent), I ((takeN x s.num s.body).fin), Bo ((takeN x s.num s.body).peerFin), S ((takeN x s.num s.body).in_), .w (sl 2 Late.c ((takeN x s.num s.body).late)) (q4 9), Bo ((takeN x s.num s.body).owe), I ((takeN x s.num s.body).due), I ((takeN x s.num s.body).times)]), (3, .obj b1 ((Seg.c s).map .r)), (13, Bo (!(decide (gap s.num x.rcv < 32768))))] rfl (Le.of rfl) ?_
  refine RA.bool 13 rfl (fun h5 => ?_) (fun h5 => ?_)
  ·skip
   refine RA.firstT (i := 8) (ls' := #[true, true, true, true, true, true, true, true, true, false, false, false, false, false, false, false, false, false, false, false, false, false, false, false, false, false, false, false, false, false, false, false]) (Tell.c rfl rfl Tell.e) (by kernel_rfl) rfl rfl rfl rfl rfl rfl (VF.p (V.mv (d := .pt 0 (bo 0) 0) rfl rfl)) ?_
   refine RA.firstT (i := 9) (ls' := #[true, true, true, true, true, true, true, true, true, true, false, false, false, false, false, false, false, false, false, false, false, false, false, false, false, false, false, false, false, false, false, false]) (Tell.c rfl rfl Tell.e) (by kernel_rfl) rfl rfl rfl rfl rfl rfl (VF.p (V.nilP rfl rfl)) ?_
   refine RA.firstT (i := 10) (ls' := #[true, true, true, true, true, true, true, true, true, true, true, false, false, false, false, false, false, false, false, false, false, false, false, false, false, false, false, false, false, false, false, false]) (Tell.c rfl rfl Tell.e) (by kernel_rfl) rfl rfl rfl rfl rfl rfl (VF.p (V.field rfl rfl rfl rfl (by decide) rfl)) ?_
   refine RA.firstT (i := 12) (ls' := #[true, true, true, true, true, true, true, true, true, true, true, false, true, false, false, false, false, false, false, false, false, false, false, false, false, false, false, false, false, false, false, false]) (Tell.c rfl rfl Tell.e) (by kernel_rfl) rfl rfl rfl rfl rfl rfl (VF.p (V.field rfl rfl rfl rfl (by decide) rfl)) ?_
   refine RA.firstT (i := 13) (ls' := #[true, true, true, true, true, true, true, true, true, true, true, false, true, true, false, false, false, false, false, false, false, false, false, false, false, false, false, false, false, false, false, false]) (Tell.c rfl rfl Tell.e) (by kernel_rfl) rfl rfl rfl rfl rfl rfl (VF.loadPrim (m := 0) (d := I s.num) rfl rfl rfl (.inl rfl) rfl rfl rfl rfl) ?_
   refine RA.le [(0, .obj (bo 0) [I ((takeN x s.num s.body).state), I ((takeN x s.num s.body).iss), I ((takeN x s.num s.body).una), I ((takeN x s.num s.body).rcv), S ((takeN x s.num s.body).wait), I ((takeN x s.num s.body).sent), I ((takeN x s.num s.body).fin), Bo ((takeN x s.num s.body).peerFin), S ((takeN x s.num s.body).in_), .w (sl 2 Late.c ((takeN x s.num s.body).late)) (q4 9), Bo ((takeN x s.num s.body).owe), I ((takeN x s.num s.body).due), I ((takeN x s.num s.body).times)]), (3, .obj b1 ((Seg.c s).map .r)), (13, Bo true), (16, .pt 0 (bo 0) 3), (19, I s.num)] rfl (Le.of rfl) ?_
   refine RA.le [(0, .obj (bo 0) [I ((takeN x s.num s.body).state), I ((takeN x s.num s.body).iss), I ((takeN x s.num s.body).una), I ((takeN x s.num s.body).rcv), S ((takeN x s.num s.body).wait), I ((takeN x s.num s.body).sent), I ((takeN x s.num s.body).fin), Bo ((takeN x s.num s.body).peerFin), S ((takeN x s.num s.body).in_), .w (sl 2 Late.c ((takeN x s.num s.body).late)) (q4 9), Bo ((takeN x s.num s.body).owe), I ((takeN x s.num s.body).due), I ((takeN x s.num s.body).times)]), (3, .obj b1 ((Seg.c s).map .r)), (13, Bo true), (16, .pt 0 (bo 0) 3), (19, I s.num)] rfl (Le.of rfl) ?_
   refine RA.oneV (i := 11) (ls' := #[true, true, true, true, true, true, true, true, true, true, true, true, true, true, false, false, false, false, false, false, false, false, false, false, false, false, false, false, false, false, false, false]) (Tell.c rfl rfl Tell.e) (by kernel_rfl) rfl rfl rfl rfl rfl rfl (V.loadPrim (d := I ((takeN x s.num s.body).rcv)) rfl rfl (.inl rfl) rfl rfl rfl) ?_
   refine RA.le [(0, .obj (bo 0) [I ((takeN x s.num s.body).state), I ((takeN x s.num s.body).iss), I ((takeN x s.num s.body).una), I ((takeN x s.num s.body).rcv), S ((takeN x s.num s.body).wait), I ((takeN x s.num s.body).sent), I ((takeN x s.num s.body).fin), Bo ((takeN x s.num s.body).peerFin), S ((takeN x s.num s.body).in_), .w (sl 2 Late.c ((takeN x s.num s.body).late)) (q4 9), Bo ((takeN x s.num s.body).owe), I ((takeN x s.num s.body).due), I ((takeN x s.num s.body).times)]), (3, .obj b1 ((Seg.c s).map .r)), (13, Bo true), (17, I ((takeN x s.num s.body).rcv)), (19, I s.num)] rfl (Le.of rfl) ?_
   refine RA.oneCall (i := 14) (ls' := #[true, true, true, true, true, true, true, true, true, true, true, true, true, true, true, false, false, false, false, false, false, false, false, false, false, false, false, false, false, false, false, false]) (Tell.c rfl rfl Tell.e) (by kernel_rfl) rfl rfl rfl rfl rfl rfl (impl_Gap_fn ((takeN x s.num s.body).rcv) s.num) rfl (.cons (.one (.r .r)) (.cons (.one (.r .r)) (.nil))) fun g6 => ?_
   refine RA.firstT (i := 15) (ls' := #[true, true, true, true, true, true, true, true, true, true, true, true, true, true, true, true, false, false, false, false, false, false, false, false, false, false, false, false, false, false, false, false]) (Tell.c rfl rfl Tell.e) (by kernel_rfl) rfl rfl rfl rfl rfl rfl (VF.p (V.cmpInt rfl rfl rfl rfl)) ?_
   refine RA.first (i := 16) (ls' := #[true, true, true, true, true, true, true, true, true, true, true, true, true, true, true, true, true, false, false, false, false, false, false, false, false, false, false, false, false, false, false, false]) (Tell.c rfl rfl Tell.e) (by kernel_rfl) rfl rfl rfl (VF.p (V.pickT (d := Bo (decide ((gap ((takeN x s.num s.body).rcv) s.num) < 64))) rfl rfl rfl)) ?_
   refine RA.first (i := 17) (ls' := #[true, true, true, true, true, true, true, true, true, true, true, true, true, true, true, true, true, true, false, false, false, false, false, false, false, false, false, false, false, false, false, false]) (Tell.c rfl rfl Tell.e) (by kernel_rfl) rfl rfl rfl (VF.p (V.mv (d := Bo (decide ((gap ((takeN x s.num s.body).rcv) s.num) < 64))) rfl rfl)) ?_
   refine RA.le [(0, .obj (bo 0) [I ((takeN x s.num s.body).state), I ((takeN x s.num s.body).iss), I ((takeN x s.num s.body).una), I ((takeN x s.num s.body).rcv), S ((takeN x s.num s.body).wait), I ((takeN x s.num s.body).sent), I ((takeN x s.num s.body).fin), Bo ((takeN x s.num s.body).peerFin), S ((takeN x s.num s.body).in_), .w (sl 2 Late.c ((takeN x s.num s.body).late)) (q4 9), Bo ((takeN x s.num s.body).owe), I ((takeN x s.num s.body).due), I ((takeN x s.num s.body).times)]), (3, .obj b1 ((Seg.c s).map .r)), (23, Bo (decide ((gap ((takeN x s.num s.body).rcv) s.num) < 64)))] rfl (Le.of rfl) ?_
   refine RA.bool 23 rfl (fun h7 => ?_) (fun h7 => ?_)
   ·skip
    refine RA.firstT (i := 18) (ls' := #[true, true, true, true, true, true, true, true, true, true, true, true, true, true, true, true, true, true, true, false, false, false, false, false, false, false, false, false, false, false, false, false]) (Tell.c rfl rfl Tell.e) (by kernel_rfl) rfl rfl rfl rfl rfl rfl (VF.p (V.mv (d := .pt 0 (bo 0) 0) rfl rfl)) ?_
    refine RA.firstT (i := 19) (ls' := #[true, true, true, true, true, true, true, true, true, true, true, true, true, true, true, true, true, true, true, true, false, false, false, false, false, false, false, false, false, false, false, false]) (Tell.c rfl rfl Tell.e) (by kernel_rfl) rfl rfl rfl rfl rfl rfl (VF.p (V.nilP rfl rfl)) ?_
    refine RA.firstT (i := 20) (ls' := #[true, true, true, true, true, true, true, true, true, true, true, true, true, true, true, true, true, true, true, true, true, false, false, false, false, false, false, false, false, false, false, false]) (Tell.c rfl rfl Tell.e) (by kernel_rfl) rfl rfl rfl rfl rfl rfl (VF.p (V.field rfl rfl rfl rfl (by decide) rfl)) ?_
    refine RA.le [(0, .obj (bo 0) [I ((takeN x s.num s.body).state), I ((takeN x s.num s.body).iss), I ((takeN x s.num s.body).una), I ((takeN x s.num s.body).rcv), S ((takeN x s.num s.body).wait), I ((takeN x s.num s.body).sent), I ((takeN x s.num s.body).fin), Bo ((takeN x s.num s.body).peerFin), S ((takeN x s.num s.body).in_), .w (sl 2 Late.c ((takeN x s.num s.body).late)) (q4 9), Bo ((takeN x s.num s.body).owe), I ((takeN x s.num s.body).due), I ((takeN x s.num s.body).times)]), (3, .obj b1 ((Seg.c s).map .r)), (23, Bo true), (26, .pt 0 (bo 0) 9)] rfl (Le.of rfl) ?_
    refine RA.oneV (i := 21) (ls' := #[true, true, true, true, true, true, true, true, true, true, true, true, true, true, true, true, true, true, true, true, true, true, false, false, false, false, false, false, false, false, false, false]) (Tell.c rfl rfl Tell.e) (by kernel_rfl) rfl rfl rfl rfl rfl rfl (V.loadPrim (d := .al 0 (some 9) 2 (((takeN x s.num s.body).late).length) (q4 9) 0) rfl rfl (.inr ⟨_, rfl⟩) rfl rfl rfl) ?_
    refine RA.firstT (i := 22) (ls' := #[true, true, true, true, true, true, true, true, true, true, true, true, true, true, true, true, true, true, true, true, true, true, true, false, false, false, false, false, false, false, false, false]) (Tell.c rfl rfl Tell.e) (by kernel_rfl) rfl rfl rfl rfl rfl rfl (VF.p (V.lenT (n := ((takeN x s.num s.body).late).length) rfl rfl rfl (.alo (k := none) (i := 0) (j := 9) (sz := 2) (V := (q4 9)) rfl rfl rfl nofun))) ?_
    refine RA.firstT (i := 23) (ls' := #[true, true, true, true, true, true, true, true, true, true, true, true, true, true, true, true, true, true, true, true, true, true, true, true, false, false, false, false, false, false, false, false]) (Tell.c rfl rfl Tell.e) (by kernel_rfl) rfl rfl rfl rfl rfl rfl (VF.p (V.cmpInt rfl rfl rfl rfl)) ?_
    refine RA.first (i := 24) (ls' := #[true, true, true, true, true, true, true, true, true, true, true, true, true, true, true, true, true, true, true, true, true, true, true, true, true, false, false, false, false, false, false, false]) (Tell.c rfl rfl Tell.e) (by kernel_rfl) rfl rfl rfl (VF.p (V.pickT (d := Bo (decide ((((takeN x s.num s.body).late).length : Int) < 8))) rfl rfl rfl)) ?_
    refine RA.first (i := 25) (ls' := #[true, true, true, true, true, true, true, true, true, true, true, true, true, true, true, true, true, true, true, true, true, true, true, true, true, true, false, false, false, false, false, false]) (Tell.c rfl rfl Tell.e) (by kernel_rfl) rfl rfl rfl (VF.p (V.mv (d := Bo (decide ((((takeN x s.num s.body).late).length : Int) < 8))) rfl rfl)) ?_
    refine RA.le [(0, .obj (bo 0) [I ((takeN x s.num s.body).state), I ((takeN x s.num s.body).iss), I ((takeN x s.num s.body).una), I ((takeN x s.num s.body).rcv), S ((takeN x s.num s.body).wait), I ((takeN x s.num s.body).sent), I ((takeN x s.num s.body).fin), Bo ((takeN x s.num s.body).peerFin), S ((takeN x s.num s.body).in_), .w (sl 2 Late.c ((takeN x s.num s.body).late)) (q4 9), Bo ((takeN x s.num s.body).owe), I ((takeN x s.num s.body).due), I ((takeN x s.num s.body).times)]), (3, .obj b1 ((Seg.c s).map .r)), (31, Bo (decide ((((takeN x s.num s.body).late).length : Int) < 8)))] rfl (Le.of rfl) ?_
    refine RA.bool 31 rfl (fun h8 => ?_) (fun h8 => ?_)
    ·skip
     refine RA.firstT (i := 26) (ls' := #[true, true, true, true, true, true, true, true, true, true, true, true, true, true, true, true, true, true, true, true, true, true, true, true, true, true, true, false, false, false, false, false]) (Tell.c rfl rfl Tell.e) (by kernel_rfl) rfl rfl rfl rfl rfl rfl (VF.p (V.mv (d := .pt 0 (bo 0) 0) rfl rfl)) ?_
     refine RA.firstT (i := 27) (ls' := #[true, true, true, true, true, true, true, true, true, true, true, true, true, true, true, true, true, true, true, true, true, true, true, true, true, true, true, true, false, false, false, false]) (Tell.c rfl rfl Tell.e) (by kernel_rfl) rfl rfl rfl rfl rfl rfl (VF.p (V.field rfl rfl rfl rfl (by decide) rfl)) ?_
     refine RA.firstT (i := 28) (ls' := #[true, true, true, true, true, true, true, true, true, true, true, true, true, true, true, true, true, true, true, true, true, true, true, true, true, true, true, true, true, false, false, false]) (Tell.c rfl rfl Tell.e) (by kernel_rfl) rfl rfl rfl rfl rfl rfl (VF.loadPrim (m := 0) (d := I s.num) rfl rfl rfl (.inl rfl) rfl rfl rfl rfl) ?_
     refine RA.le [(0, .obj (bo 0) [I ((takeN x s.num s.body).state), I ((takeN x s.num s.body).iss), I ((takeN x s.num s.body).una), I ((takeN x s.num s.body).rcv), S ((takeN x s.num s.body).wait), I ((takeN x s.num s.body).sent), I ((takeN x s.num s.body).fin), Bo ((takeN x s.num s.body).peerFin), S ((takeN x s.num s.body).in_), .w (sl 2 Late.c ((takeN x s.num s.body).late)) (q4 9), Bo ((takeN x s.num s.body).owe), I ((takeN x s.num s.body).due), I ((takeN x s.num s.body).times)]), (3, .obj b1 ((Seg.c s).map .r)), (31, Bo true), (32, .pt 0 (bo 0) 0), (34, I s.num)] rfl (Le.of rfl) ?_
     refine RA.oneCallOwn (i := 29) (ls' := #[true, true, true, true, true, true, true, true, true, true, true, true, true, true, true, true, true, true, true, true, true, true, true, true, true, true, true, true, true, true, false, false]) (Tell.c rfl rfl Tell.e) (by kernel_rfl) rfl rfl rfl rfl rfl rfl (__impl_Stream__isLate_fn (takeN x s.num s.body) s.num) rfl (.cons (.one (.r (.pt rfl rfl (DRd.r (DRd.r (DRd.r (DRd.r (DRd.r (DRd.r (DRd.r (DRd.r (DRd.r (DRd.ow (DRd.r (DRd.r (DRd.r DRd.e))))))))))))) nofun))) (.cons (.one (.r .r)) (.nil))) rfl fun g9 => ?_
     refine RA.firstT (i := 30) (ls' := #[true, true, true, true, true, true, true, true, true, true, true, true, true, true, true, true, true, true, true, true, true, true, true, true, true, true, true, true, true, true, true, false]) (Tell.c rfl rfl Tell.e) (by kernel_rfl) rfl rfl rfl rfl rfl rfl (VF.p (V.not rfl rfl)) ?_
     refine RA.first (i := 31) (ls' := #[true, true, true, true, true, true, true, true, true, true, true, true, true, true, true, true, true, true, true, true, true, true, true, true, true, true, true, true, true, true, true, true]) (Tell.c rfl rfl Tell.e) (by kernel_rfl) rfl rfl rfl (VF.p (V.pickT (d := Bo (!((takeN x s.num s.body).late.any fun l => l.num == s.num))) rfl rfl rfl)) ?_
     exact RA.finH (Tell.c rfl rfl Tell.e) (by kernel_rfl) (hK (_, q4) _ (by first | rfl | (simp_all; done) | grind) rfl (Le.of rfl))
    ·skip
     refine RA.firstF (i := 26) (ls' := #[true, true, true, true, true, true, true, true, true, true, true, true, true, true, true, true, true, true, true, true, true, true, true, true, true, true, true, false, false, false, false, false]) (Tell.c rfl rfl Tell.e) (by kernel_rfl) rfl rfl rfl rfl rfl (.inl rfl) ?_
     refine RA.firstF (i := 27) (ls' := #[true, true, true, true, true, true, true, true, true, true, true, true, true, true, true, true, true, true, true, true, true, true, true, true, true, true, true, true, false, false, false, false]) (Tell.c rfl rfl Tell.e) (by kernel_rfl) rfl rfl rfl rfl rfl (.inl rfl) ?_
     refine RA.firstF (i := 28) (ls' := #[true, true, true, true, true, true, true, true, true, true, true, true, true, true, true, true, true, true, true, true, true, true, true, true, true, true, true, true, true, false, false, false]) (Tell.c rfl rfl Tell.e) (by kernel_rfl) rfl rfl rfl rfl rfl (.inl rfl) ?_
     refine RA.firstF (i := 29) (ls' := #[true, true, true, true, true, true, true, true, true, true, true, true, true, true, true, true, true, true, true, true, true, true, true, true, true, true, true, true, true, true, false, false]) (Tell.c rfl rfl Tell.e) (by kernel_rfl) rfl rfl rfl rfl rfl (.inl rfl) ?_
     refine RA.firstF (i := 30) (ls' := #[true, true, true, true, true, true, true, true, true, true, true, true, true, true, true, true, true, true, true, true, true, true, true, true, true, true, true, true, true, true, true, false]) (Tell.c rfl rfl Tell.e) (by kernel_rfl) rfl rfl rfl rfl rfl (.inl rfl) ?_
     refine RA.le [(0, .obj (bo 0) [I ((takeN x s.num s.body).state), I ((takeN x s.num s.body).iss), I ((takeN x s.num s.body).una), I ((takeN x s.num s.body).rcv), S ((takeN x s.num s.body).wait), I ((takeN x s.num s.body).sent), I ((takeN x s.num s.body).fin), Bo ((takeN x s.num s.body).peerFin), S ((takeN x s.num s.body).in_), .w (sl 2 Late.c ((takeN x s.num s.body).late)) (q4 9), Bo ((takeN x s.num s.body).owe), I ((takeN x s.num s.body).due), I ((takeN x s.num s.body).times)]), (3, .obj b1 ((Seg.c s).map .r)), (31, Bo false), (36, .r (.v undef))] rfl (Le.of rfl) ?_
     refine RA.first (i := 31) (ls' := #[true, true, true, true, true, true, true, true, true, true, true, true, true, true, true, true, true, true, true, true, true, true, true, true, true, true, true, true, true, true, true, true]) (Tell.c rfl rfl Tell.e) (by kernel_rfl) rfl rfl rfl (VF.p (V.pickF (d := Bo false) rfl rfl rfl)) ?_
     exact RA.finH (Tell.c rfl rfl Tell.e) (by kernel_rfl) (hK (_, q4) _ (by first | rfl | (simp_all; done) | grind) rfl (Le.of rfl))
   ·skip
    refine RA.firstF (i := 18) (ls' := #[true, true, true, true, true, true, true, true, true, true, true, true, true, true, true, true, true, true, true, false, false, false, false, false, false, false, false, false, false, false, false, false]) (Tell.c rfl rfl Tell.e) (by kernel_rfl) rfl rfl rfl rfl rfl (.inl rfl) ?_
    refine RA.firstF (i := 19) (ls' := #[true, true, true, true, true, true, true, true, true, true, true, true, true, true, true, true, true, true, true, true, false, false, false, false, false, false, false, false, false, false, false, false]) (Tell.c rfl rfl Tell.e) (by kernel_rfl) rfl rfl rfl rfl rfl (.inl rfl) ?_
    refine RA.firstF (i := 20) (ls' := #[true, true, true, true, true, true, true, true, true, true, true, true, true, true, true, true, true, true, true, true, true, false, false, false, false, false, false, false, false, false, false, false]) (Tell.c rfl rfl Tell.e) (by kernel_rfl) rfl rfl rfl rfl rfl (.inl rfl) ?_
    refine RA.firstF (i := 21) (ls' := #[true, true, true, true, true, true, true, true, true, true, true, true, true, true, true, true, true, true, true, true, true, true, false, false, false, false, false, false, false, false, false, false]) (Tell.c rfl rfl Tell.e) (by kernel_rfl) rfl rfl rfl rfl rfl (.inl rfl) ?_
    refine RA.firstF (i := 22) (ls' := #[true, true, true, true, true, true, true, true, true, true, true, true, true, true, true, true, true, true, true, true, true, true, true, false, false, false, false, false, false, false, false, false]) (Tell.c rfl rfl Tell.e) (by kernel_rfl) rfl rfl rfl rfl rfl (.inl rfl) ?_
    refine RA.le [(0, .obj (bo 0) [I ((takeN x s.num s.body).state), I ((takeN x s.num s.body).iss), I ((takeN x s.num s.body).una), I ((takeN x s.num s.body).rcv), S ((takeN x s.num s.body).wait), I ((takeN x s.num s.body).sent), I ((takeN x s.num s.body).fin), Bo ((takeN x s.num s.body).peerFin), S ((takeN x s.num s.body).in_), .w (sl 2 Late.c ((takeN x s.num s.body).late)) (q4 9), Bo ((takeN x s.num s.body).owe), I ((takeN x s.num s.body).due), I ((takeN x s.num s.body).times)]), (3, .obj b1 ((Seg.c s).map .r)), (23, Bo false), (28, .r (.v undef))] rfl (Le.of rfl) ?_
    refine RA.firstF (i := 23) (ls' := #[true, true, true, true, true, true, true, true, true, true, true, true, true, true, true, true, true, true, true, true, true, true, true, true, false, false, false, false, false, false, false, false]) (Tell.c rfl rfl Tell.e) (by kernel_rfl) rfl rfl rfl rfl rfl (.inl rfl) ?_
    refine RA.first (i := 24) (ls' := #[true, true, true, true, true, true, true, true, true, true, true, true, true, true, true, true, true, true, true, true, true, true, true, true, true, false, false, false, false, false, false, false]) (Tell.c rfl rfl Tell.e) (by kernel_rfl) rfl rfl rfl (VF.p (V.pickF (d := Bo false) rfl rfl rfl)) ?_
    refine RA.first (i := 25) (ls' := #[true, true, true, true, true, true, true, true, true, true, true, true, true, true, true, true, true, true, true, true, true, true, true, true, true, true, false, false, false, false, false, false]) (Tell.c rfl rfl Tell.e) (by kernel_rfl) rfl rfl rfl (VF.p (V.mv (d := Bo false) rfl rfl)) ?_
    refine RA.firstF (i := 26) (ls' := #[true, true, true, true, true, true, true, true, true, true, true, true, true, true, true, true, true, true, true, true, true, true, true, true, true, true, true, false, false, false, false, false]) (Tell.c rfl rfl Tell.e) (by kernel_rfl) rfl rfl rfl rfl rfl (.inl rfl) ?_
    refine RA.firstF (i := 27) (ls' := #[true, true, true, true, true, true, true, true, true, true, true, true, true, true, true, true, true, true, true, true, true, true, true, true, true, true, true, true, false, false, false, false]) (Tell.c rfl rfl Tell.e) (by kernel_rfl) rfl rfl rfl rfl rfl (.inl rfl) ?_
    refine RA.le [(0, .obj (bo 0) [I ((takeN x s.num s.body).state), I ((takeN x s.num s.body).iss), I ((takeN x s.num s.body).una), I ((takeN x s.num s.body).rcv), S ((takeN x s.num s.body).wait), I ((takeN x s.num s.body).sent), I ((takeN x s.num s.body).fin), Bo ((takeN x s.num s.body).peerFin), S ((takeN x s.num s.body).in_), .w (sl 2 Late.c ((takeN x s.num s.body).late)) (q4 9), Bo ((takeN x s.num s.body).owe), I ((takeN x s.num s.body).due), I ((takeN x s.num s.body).times)]), (3, .obj b1 ((Seg.c s).map .r)), (31, Bo false), (32, .r (.v undef)), (33, .r (.v undef))] rfl (Le.of rfl) ?_
    refine RA.firstF (i := 28) (ls' := #[true, true, true, true, true, true, true, true, true, true, true, true, true, true, true, true, true, true, true, true, true, true, true, true, true, true, true, true, true, false, false, false]) (Tell.c rfl rfl Tell.e) (by kernel_rfl) rfl rfl rfl rfl rfl (.inl rfl) ?_
    refine RA.firstF (i := 29) (ls' := #[true, true, true, true, true, true, true, true, true, true, true, true, true, true, true, true, true, true, true, true, true, true, true, true, true, true, true, true, true, true, false, false]) (Tell.c rfl rfl Tell.e) (by kernel_rfl) rfl rfl rfl rfl rfl (.inl rfl) ?_
    refine RA.firstF (i := 30) (ls' := #[true, true, true, true, true, true, true, true, true, true, true, true, true, true, true, true, true, true, true, true, true, true, true, true, true, true, true, true, true, true, true, false]) (Tell.c rfl rfl Tell.e) (by kernel_rfl) rfl rfl rfl rfl rfl (.inl rfl) ?_
    refine RA.first (i := 31) (ls' := #[true, true, true, true, true, true, true, true, true, true, true, true, true, true, true, true, true, true, true, true, true, true, true, true, true, true, true, true, true, true, true, true]) (Tell.c rfl rfl Tell.e) (by kernel_rfl) rfl rfl rfl (VF.p (V.pickF (d := Bo false) rfl rfl rfl)) ?_
    exact RA.finH (Tell.c rfl rfl Tell.e) (by kernel_rfl) (hK (_, q4) _ (by first | rfl | (simp_all; done) | grind) rfl (Le.of rfl))
  ·skip
   refine RA.firstF (i := 8) (ls' := #[true, true, true, true, true, true, true, true, true, false, false, false, false, false, false, false, false, false, false, false, false, false, false, false, false, false, false, false, false, false, false, false]) (Tell.c rfl rfl Tell.e) (by kernel_rfl) rfl rfl rfl rfl rfl (.inl rfl) ?_
   refine RA.firstF (i := 9) (ls' := #[true, true, true, true, true, true, true, true, true, true, false, false, false, false, false, false, false, false, false, false, false, false, false, false, false, false, false, false, false, false, false, false]) (Tell.c rfl rfl Tell.e) (by kernel_rfl) rfl rfl rfl rfl rfl (.inl rfl) ?_
   refine RA.firstF (i := 10) (ls' := #[true, true, true, true, true, true, true, true, true, true, true, false, false, false, false, false, false, false, false, false, false, false, false, false, false, false, false, false, false, false, false, false]) (Tell.c rfl rfl Tell.e) (by kernel_rfl) rfl rfl rfl rfl rfl (.inl rfl) ?_
   refine RA.firstF (i := 11) (ls' := #[true, true, true, true, true, true, true, true, true, true, true, true, false, false, false, false, false, false, false, false, false, false, false, false, false, false, false, false, false, false, false, false]) (Tell.c rfl rfl Tell.e) (by kernel_rfl) rfl rfl rfl rfl rfl (.inl rfl) ?_
   refine RA.firstF (i := 12) (ls' := #[true, true, true, true, true, true, true, true, true, true, true, true, true, false, false, false, false, false, false, false, false, false, false, false, false, false, false, false, false, false, false, false]) (Tell.c rfl rfl Tell.e) (by kernel_rfl) rfl rfl rfl rfl rfl (.inl rfl) ?_
   refine RA.le [(0, .obj (bo 0) [I ((takeN x s.num s.body).state), I ((takeN x s.num s.body).iss), I ((takeN x s.num s.body).una), I ((takeN x s.num s.body).rcv), S ((takeN x s.num s.body).wait), I ((takeN x s.num s.body).sent), I ((takeN x s.num s.body).fin), Bo ((takeN x s.num s.body).peerFin), S ((takeN x s.num s.body).in_), .w (sl 2 Late.c ((takeN x s.num s.body).late)) (q4 9), Bo ((takeN x s.num s.body).owe), I ((takeN x s.num s.body).due), I ((takeN x s.num s.body).times)]), (3, .obj b1 ((Seg.c s).map .r)), (13, Bo false), (17, .r (.v undef)), (18, .r (.v undef))] rfl (Le.of rfl) ?_
   refine RA.firstF (i := 13) (ls' := #[true, true, true, true, true, true, true, true, true, true, true, true, true, true, false, false, false, false, false, false, false, false, false, false, false, false, false, false, false, false, false, false]) (Tell.c rfl rfl Tell.e) (by kernel_rfl) rfl rfl rfl rfl rfl (.inl rfl) ?_
   refine RA.firstF (i := 14) (ls' := #[true, true, true, true, true, true, true, true, true, true, true, true, true, true, true, false, false, false, false, false, false, false, false, false, false, false, false, false, false, false, false, false]) (Tell.c rfl rfl Tell.e) (by kernel_rfl) rfl rfl rfl rfl rfl (.inl rfl) ?_
   refine RA.firstF (i := 15) (ls' := #[true, true, true, true, true, true, true, true, true, true, true, true, true, true, true, true, false, false, false, false, false, false, false, false, false, false, false, false, false, false, false, false]) (Tell.c rfl rfl Tell.e) (by kernel_rfl) rfl rfl rfl rfl rfl (.inl rfl) ?_
   refine RA.first (i := 16) (ls' := #[true, true, true, true, true, true, true, true, true, true, true, true, true, true, true, true, true, false, false, false, false, false, false, false, false, false, false, false, false, false, false, false]) (Tell.c rfl rfl Tell.e) (by kernel_rfl) rfl rfl rfl (VF.p (V.pickF (d := Bo false) rfl rfl rfl)) ?_
   refine RA.first (i := 17) (ls' := #[true, true, true, true, true, true, true, true, true, true, true, true, true, true, true, true, true, true, false, false, false, false, false, false, false, false, false, false, false, false, false, false]) (Tell.c rfl rfl Tell.e) (by kernel_rfl) rfl rfl rfl (VF.p (V.mv (d := Bo false) rfl rfl)) ?_
   refine RA.le [(0, .obj (bo 0) [I ((takeN x s.num s.body).state), I ((takeN x s.num s.body).iss), I ((takeN x s.num s.body).una), I ((takeN x s.num s.body).rcv), S ((takeN x s.num s.body).wait), I ((takeN x s.num s.body).sent), I ((takeN x s.num s.body).fin), Bo ((takeN x s.num s.body).peerFin), S ((takeN x s.num s.body).in_), .w (sl 2 Late.c ((takeN x s.num s.body).late)) (q4 9), Bo ((takeN x s.num s.body).owe), I ((takeN x s.num s.body).due), I ((takeN x s.num s.body).times)]), (3, .obj b1 ((Seg.c s).map .r)), (23, Bo false)] rfl (Le.of rfl) ?_
   refine RA.firstF (i := 18) (ls' := #[true, true, true, true, true, true, true, true, true, true, true, true, true, true, true, true, true, true, true, false, false, false, false, false, false, false, false, false, false, false, false, false]) (Tell.c rfl rfl Tell.e) (by kernel_rfl) rfl rfl rfl rfl rfl (.inl rfl) ?_
   refine RA.firstF (i := 19) (ls' := #[true, true, true, true, true, true, true, true, true, true, true, true, true, true, true, true, true, true, true, true, false, false, false, false, false, false, false, false, false, false, false, false]) (Tell.c rfl rfl Tell.e) (by kernel_rfl) rfl rfl rfl rfl rfl (.inl rfl) ?_
   refine RA.firstF (i := 20) (ls' := #[true, true, true, true, true, true, true, true, true, true, true, true, true, true, true, true, true, true, true, true, true, false, false, false, false, false, false, false, false, false, false, false]) (Tell.c rfl rfl Tell.e) (by kernel_rfl) rfl rfl rfl rfl rfl (.inl rfl) ?_
   refine RA.firstF (i := 21) (ls' := #[true, true, true, true, true, true, true, true, true, true, true, true, true, true, true, true, true, true, true, true, true, true, false, false, false, false, false, false, false, false, false, false]) (Tell.c rfl rfl Tell.e) (by kernel_rfl) rfl rfl rfl rfl rfl (.inl rfl) ?_
   refine RA.firstF (i := 22) (ls' := #[true, true, true, true, true, true, true, true, true, true, true, true, true, true, true, true, true, true, true, true, true, true, true, false, false, false, false, false, false, false, false, false]) (Tell.c rfl rfl Tell.e) (by kernel_rfl) rfl rfl rfl rfl rfl (.inl rfl) ?_
   refine RA.le [(0, .obj (bo 0) [I ((takeN x s.num s.body).state), I ((takeN x s.num s.body).iss), I ((takeN x s.num s.body).una), I ((takeN x s.num s.body).rcv), S ((takeN x s.num s.body).wait), I ((takeN x s.num s.body).sent), I ((takeN x s.num s.body).fin), Bo ((takeN x s.num s.body).peerFin), S ((takeN x s.num s.body).in_), .w (sl 2 Late.c ((takeN x s.num s.body).late)) (q4 9), Bo ((takeN x s.num s.body).owe), I ((takeN x s.num s.body).due), I ((takeN x s.num s.body).times)]), (3, .obj b1 ((Seg.c s).map .r)), (23, Bo false), (28, .r (.v undef))] rfl (Le.of rfl) ?_
   refine RA.firstF (i := 23) (ls' := #[true, true, true, true, true, true, true, true, true, true, true, true, true, true, true, true, true, true, true, true, true, true, true, true, false, false, false, false, false, false, false, false]) (Tell.c rfl rfl Tell.e) (by kernel_rfl) rfl rfl rfl rfl rfl (.inl rfl) ?_
   refine RA.first (i := 24) (ls' := #[true, true, true, true, true, true, true, true, true, true, true, true, true, true, true, true, true, true, true, true, true, true, true, true, true, false, false, false, false, false, false, false]) (Tell.c rfl rfl Tell.e) (by kernel_rfl) rfl rfl rfl (VF.p (V.pickF (d := Bo false) rfl rfl rfl)) ?_
   refine RA.first (i := 25) (ls' := #[true, true, true, true, true, true, true, true, true, true, true, true, true, true, true, true, true, true, true, true, true, true, true, true, true, true, false, false, false, false, false, false]) (Tell.c rfl rfl Tell.e) (by kernel_rfl) rfl rfl rfl (VF.p (V.mv (d := Bo false) rfl rfl)) ?_
   refine RA.firstF (i := 26) (ls' := #[true, true, true, true, true, true, true, true, true, true, true, true, true, true, true, true, true, true, true, true, true, true, true, true, true, true, true, false, false, false, false, false]) (Tell.c rfl rfl Tell.e) (by kernel_rfl) rfl rfl rfl rfl rfl (.inl rfl) ?_
   refine RA.firstF (i := 27) (ls' := #[true, true, true, true, true, true, true, true, true, true, true, true, true, true, true, true, true, true, true, true, true, true, true, true, true, true, true, true, false, false, false, false]) (Tell.c rfl rfl Tell.e) (by kernel_rfl) rfl rfl rfl rfl rfl (.inl rfl) ?_
   refine RA.le [(0, .obj (bo 0) [I ((takeN x s.num s.body).state), I ((takeN x s.num s.body).iss), I ((takeN x s.num s.body).una), I ((takeN x s.num s.body).rcv), S ((takeN x s.num s.body).wait), I ((takeN x s.num s.body).sent), I ((takeN x s.num s.body).fin), Bo ((takeN x s.num s.body).peerFin), S ((takeN x s.num s.body).in_), .w (sl 2 Late.c ((takeN x s.num s.body).late)) (q4 9), Bo ((takeN x s.num s.body).owe), I ((takeN x s.num s.body).due), I ((takeN x s.num s.body).times)]), (3, .obj b1 ((Seg.c s).map .r)), (31, Bo false), (32, .r (.v undef)), (33, .r (.v undef))] rfl (Le.of rfl) ?_
   refine RA.firstF (i := 28) (ls' := #[true, true, true, true, true, true, true, true, true, true, true, true, true, true, true, true, true, true, true, true, true, true, true, true, true, true, true, true, true, false, false, false]) (Tell.c rfl rfl Tell.e) (by kernel_rfl) rfl rfl rfl rfl rfl (.inl rfl) ?_
   refine RA.firstF (i := 29) (ls' := #[true, true, true, true, true, true, true, true, true, true, true, true, true, true, true, true, true, true, true, true, true, true, true, true, true, true, true, true, true, true, false, false]) (Tell.c rfl rfl Tell.e) (by kernel_rfl) rfl rfl rfl rfl rfl (.inl rfl) ?_
   refine RA.firstF (i := 30) (ls' := #[true, true, true, true, true, true, true, true, true, true, true, true, true, true, true, true, true, true, true, true, true, true, true, true, true, true, true, true, true, true, true, false]) (Tell.c rfl rfl Tell.e) (by kernel_rfl) rfl rfl rfl rfl rfl (.inl rfl) ?_
   refine RA.first (i := 31) (ls' := #[true, true, true, true, true, true, true, true, true, true, true, true, true, true, true, true, true, true, true, true, true, true, true, true, true, true, true, true, true, true, true, true]) (Tell.c rfl rfl Tell.e) (by kernel_rfl) rfl rfl rfl (VF.p (V.pickF (d := Bo false) rfl rfl rfl)) ?_
   exact RA.finH (Tell.c rfl rfl Tell.e) (by kernel_rfl) (hK (_, q4) _ (by first | rfl | (simp_all; done) | grind) rfl (Le.of rfl))
 ·rintro ⟨v2, q4⟩ hv10
  refine CW.cond rfl (fun h11 => ?_) (fun h11 => ?_)
  ·skip
   refine CW.anyR (fc := [(3, b1, [.int .i64 s.num, .int .i64 s.ack, .int .i64 s.flags, .string s.body])]) 91 (fun (zz : Value × Value) => match zz with | (Xo12_10_1, Xo12_11_1) => [(0, .obj (bo 0) [I ((takeN x s.num s.body).state), I ((takeN x s.num s.body).iss), I ((takeN x s.num s.body).una), I ((takeN x s.num s.body).rcv), S ((takeN x s.num s.body).wait), I ((takeN x s.num s.body).sent), I ((takeN x s.num s.body).fin), Bo ((takeN x s.num s.body).peerFin), S ((takeN x s.num s.body).in_), .w (sl 2 Late.c (((takeN x s.num s.body).late) ++ ([(⟨s.num, s.body⟩ : Late)]))) Xo12_11_1, Bo ((takeN x s.num s.body).owe), I ((takeN x s.num s.body).due), I ((takeN x s.num s.body).times)])]) (fun all hall K hK => ?_) ?_
   ·skip
    have ro12_111111111111111 : ∀ (Xo12_10_1 : Value), ∀ (Xo12_11_1 : Value), RA [(3, b1, [.int .i64 s.num, .int .i64 s.ack, .int .i64 s.flags, .string s.body])] E B all 0 #[true, true, true, true, true, true, true, true, true, true, true, true, true, true, true] ⟨91, [(0, .obj (bo 0) [I ((takeN x s.num s.body).state), I ((takeN x s.num s.body).iss), I ((takeN x s.num s.body).una), I ((takeN x s.num s.body).rcv), S ((takeN x s.num s.body).wait), I ((takeN x s.num s.body).sent), I ((takeN x s.num s.body).fin), Bo ((takeN x s.num s.body).peerFin), S ((takeN x s.num s.body).in_), .w (sl 2 Late.c (((takeN x s.num s.body).late) ++ ([(⟨s.num, s.body⟩ : Late)]))) Xo12_11_1, Bo ((takeN x s.num s.body).owe), I ((takeN x s.num s.body).due), I ((takeN x s.num s.body).times)]), (3, .obj b1 ((Seg.c s).map .r))]⟩ K := by
     intro Xo12_10_1 Xo12_11_1
     exact RA.of hall (RA.finH (Tell.c rfl rfl Tell.e) (by kernel_rfl) (hK (Xo12_10_1, Xo12_11_1) _ rfl (Le.of rfl)))
    have ro12_111111111111110 : ∀ (Xo12_10_1 : Value), ∀ (Xo12_11_1 : Value), RA [(3, b1, [.int .i64 s.num, .int .i64 s.ack, .int .i64 s.flags, .string s.body])] E B all 1 #[true, true, true, true, true, true, true, true, true, true, true, true, true, true, false] ⟨91, [(0, .obj (bo 0) [I ((takeN x s.num s.body).state), I ((takeN x s.num s.body).iss), I ((takeN x s.num s.body).una), I ((takeN x s.num s.body).rcv), S ((takeN x s.num s.body).wait), I ((takeN x s.num s.body).sent), I ((takeN x s.num s.body).fin), Bo ((takeN x s.num s.body).peerFin), S ((takeN x s.num s.body).in_), .u, Bo ((takeN x s.num s.body).owe), I ((takeN x s.num s.body).due), I ((takeN x s.num s.body).times)]), (3, .obj b1 ((Seg.c s).map .r)), (49, .w (sl 2 Late.c (((takeN x s.num s.body).late) ++ ([(⟨s.num, s.body⟩ : Late)]))) Xo12_11_1), (51, .pt 0 (bo 0) 9)]⟩ K := by
     intro Xo12_10_1 Xo12_11_1
     refine RA.of hall (RA.stepH (L := [14]) (Tell.c rfl rfl Tell.e) (by kernel_rfl) (by simp) (RA.each ?_ (RA.each0)))
     ·skip
      refine RO.store (d := .al 49 none 2 ((((takeN x s.num s.body).late) ++ ([(⟨s.num, s.body⟩ : Late)])).length) Xo12_11_1 0) rfl rfl rfl rfl rfl rfl rfl rfl rfl (Nat.le_of_ble_eq_true rfl) rfl rfl ?_
      refine RA.le [(0, .obj (bo 0) [I ((takeN x s.num s.body).state), I ((takeN x s.num s.body).iss), I ((takeN x s.num s.body).una), I ((takeN x s.num s.body).rcv), S ((takeN x s.num s.body).wait), I ((takeN x s.num s.body).sent), I ((takeN x s.num s.body).fin), Bo ((takeN x s.num s.body).peerFin), S ((takeN x s.num s.body).in_), .al 49 none 2 ((((takeN x s.num s.body).late) ++ ([(⟨s.num, s.body⟩ : Late)])).length) Xo12_11_1 0, Bo ((takeN x s.num s.body).owe), I ((takeN x s.num s.body).due), I ((takeN x s.num s.body).times)]), (3, .obj b1 ((Seg.c s).map .r)), (49, .w (sl 2 Late.c (((takeN x s.num s.body).late) ++ ([(⟨s.num, s.body⟩ : Late)]))) Xo12_11_1)] rfl (Le.of rfl) ?_
      refine RA.pullT (k := 0) (l := 49) (j := 9) 0 49 9 rfl rfl rfl (by decide) rfl rfl rfl ?_
      refine RA.le [(0, .obj (bo 0) [I ((takeN x s.num s.body).state), I ((takeN x s.num s.body).iss), I ((takeN x s.num s.body).una), I ((takeN x s.num s.body).rcv), S ((takeN x s.num s.body).wait), I ((takeN x s.num s.body).sent), I ((takeN x s.num s.body).fin), Bo ((takeN x s.num s.body).peerFin), S ((takeN x s.num s.body).in_), .w (sl 2 Late.c (((takeN x s.num s.body).late) ++ ([(⟨s.num, s.body⟩ : Late)]))) Xo12_11_1, Bo ((takeN x s.num s.body).owe), I ((takeN x s.num s.body).due), I ((takeN x s.num s.body).times)]), (3, .obj b1 ((Seg.c s).map .r))] rfl (Le.of rfl) ?_
      exact RA.to hall (RA.lr (ro12_111111111111111 Xo12_10_1 Xo12_11_1) rfl rfl)
    have ro12_111111111110000 : ∀ (Xo12_10_1 : Value), RA [(3, b1, [.int .i64 s.num, .int .i64 s.ack, .int .i64 s.flags, .string s.body])] E B all 4 #[true, true, true, true, true, true, true, true, true, true, true, false, false, false, false] ⟨91, [(0, .obj (bo 0) [I ((takeN x s.num s.body).state), I ((takeN x s.num s.body).iss), I ((takeN x s.num s.body).una), I ((takeN x s.num s.body).rcv), S ((takeN x s.num s.body).wait), I ((takeN x s.num s.body).sent), I ((takeN x s.num s.body).fin), Bo ((takeN x s.num s.body).peerFin), S ((takeN x s.num s.body).in_), .w (sl 2 Late.c ((takeN x s.num s.body).late)) (q4 9), Bo ((takeN x s.num s.body).owe), I ((takeN x s.num s.body).due), I ((takeN x s.num s.body).times)]), (3, .obj b1 ((Seg.c s).map .r)), (38, .pt 0 (bo 0) 0), (42, .al 0 (some 9) 2 (((takeN x s.num s.body).late).length) (q4 9) 0), (48, .w (sl 2 Late.c ([(⟨s.num, s.body⟩ : Late)])) Xo12_10_1)]⟩ K := by
     intro Xo12_10_1
     refine RA.of hall (RA.stepH (L := [11]) (Tell.c rfl rfl Tell.e) (by kernel_rfl) (by simp) (RA.each ?_ (RA.each0)))
     ·skip
      refine RO.takeO 42 0 9 (by decide) rfl rfl rfl ?_
      refine RO.appendSR (c := Late.c) (l1 := (takeN x s.num s.body).late) (l2 := [(⟨s.num, s.body⟩ : Late)]) rfl rfl rfl rfl rfl rfl rfl rfl rfl rfl (.al (k := none) (i := 48) (sz := 2) (V := Xo12_10_1) rfl rfl nofun) (by decide) (Nat.le_of_ble_eq_true rfl) Late.len (fun _ => rfl) rfl (by simp only [takeN_late, maxLen, List.length_singleton]; omega) (by simp only [takeN_late, maxLen, List.length_singleton]; omega) fun Xo12_11_1 => ?_
      refine RA.first (i := 12) (ls' := #[true, true, true, true, true, true, true, true, true, true, true, true, true, false, false]) (Tell.c rfl rfl Tell.e) (by kernel_rfl) rfl rfl rfl (VF.p (V.nilP rfl rfl)) ?_
      refine RA.first (i := 13) (ls' := #[true, true, true, true, true, true, true, true, true, true, true, true, true, true, false]) (Tell.c rfl rfl Tell.e) (by kernel_rfl) rfl rfl rfl (VF.p (V.field rfl rfl rfl rfl (by decide) rfl)) ?_
      exact RA.to hall (RA.lr (ro12_111111111111110 Xo12_10_1 Xo12_11_1) rfl rfl)
    have ro12_111101111110000 : ∀ (Xo12_10_1 : Value), RA [(3, b1, [.int .i64 s.num, .int .i64 s.ack, .int .i64 s.flags, .string s.body])] E B all 5 #[true, true, true, true, false, true, true, true, true, true, true, false, false, false, false] ⟨91, [(0, .obj (bo 0) [I ((takeN x s.num s.body).state), I ((takeN x s.num s.body).iss), I ((takeN x s.num s.body).una), I ((takeN x s.num s.body).rcv), S ((takeN x s.num s.body).wait), I ((takeN x s.num s.body).sent), I ((takeN x s.num s.body).fin), Bo ((takeN x s.num s.body).peerFin), S ((takeN x s.num s.body).in_), .w (sl 2 Late.c ((takeN x s.num s.body).late)) (q4 9), Bo ((takeN x s.num s.body).owe), I ((takeN x s.num s.body).due), I ((takeN x s.num s.body).times)]), (3, .obj b1 ((Seg.c s).map .r)), (38, .pt 0 (bo 0) 0), (41, .pt 0 (bo 0) 9), (48, .w (sl 2 Late.c ([(⟨s.num, s.body⟩ : Late)])) Xo12_10_1)]⟩ K := by
     intro Xo12_10_1
     refine RA.of hall (RA.stepH (L := [4]) (Tell.c rfl rfl Tell.e) (by kernel_rfl) (by simp) (RA.each ?_ (RA.each0)))
     ·skip
      refine RO.v rfl rfl (V.loadPrim (d := .al 0 (some 9) 2 (((takeN x s.num s.body).late).length) (q4 9) 0) rfl rfl (.inr ⟨_, rfl⟩) rfl rfl rfl) rfl ?_
      exact RA.to hall (RA.lr (ro12_111111111110000 Xo12_10_1) rfl rfl)
    have ro12_111111111100000 : RA [(3, b1, [.int .i64 s.num, .int .i64 s.ack, .int .i64 s.flags, .string s.body])] E B all 5 #[true, true, true, true, true, true, true, true, true, true, false, false, false, false, false] ⟨91, [(0, .obj (bo 0) [I ((takeN x s.num s.body).state), I ((takeN x s.num s.body).iss), I ((takeN x s.num s.body).una), I ((takeN x s.num s.body).rcv), S ((takeN x s.num s.body).wait), I ((takeN x s.num s.body).sent), I ((takeN x s.num s.body).fin), Bo ((takeN x s.num s.body).peerFin), S ((takeN x s.num s.body).in_), .w (sl 2 Late.c ((takeN x s.num s.body).late)) (q4 9), Bo ((takeN x s.num s.body).owe), I ((takeN x s.num s.body).due), I ((takeN x s.num s.body).times)]), (3, .obj b1 ((Seg.c s).map .r)), (38, .pt 0 (bo 0) 0), (42, .al 0 (some 9) 2 (((takeN x s.num s.body).late).length) (q4 9) 0), (47, .agg [I s.num, S s.body])]⟩ K := by
     refine RA.of hall (RA.stepH (L := [10]) (Tell.c rfl rfl Tell.e) (by kernel_rfl) (by simp) (RA.each ?_ (RA.each0)))
     ·skip
      refine RO.build1 (c := Late.c) (v := (⟨s.num, s.body⟩ : Late)) rfl rfl rfl rfl rfl rfl rfl rfl (DW.v (DW.v DW.e)) Late.len (by decide) (by decide) fun Xo12_10_1 => ?_
      exact RA.to hall (RA.lr (ro12_111111111110000 Xo12_10_1) rfl rfl)
    have ro12_111101111100000 : RA [(3, b1, [.int .i64 s.num, .int .i64 s.ack, .int .i64 s.flags, .string s.body])] E B all 6 #[true, true, true, true, false, true, true, true, true, true, false, false, false, false, false] ⟨91, [(0, .obj (bo 0) [I ((takeN x s.num s.body).state), I ((takeN x s.num s.body).iss), I ((takeN x s.num s.body).una), I ((takeN x s.num s.body).rcv), S ((takeN x s.num s.body).wait), I ((takeN x s.num s.body).sent), I ((takeN x s.num s.body).fin), Bo ((takeN x s.num s.body).peerFin), S ((takeN x s.num s.body).in_), .w (sl 2 Late.c ((takeN x s.num s.body).late)) (q4 9), Bo ((takeN x s.num s.body).owe), I ((takeN x s.num s.body).due), I ((takeN x s.num s.body).times)]), (3, .obj b1 ((Seg.c s).map .r)), (38, .pt 0 (bo 0) 0), (41, .pt 0 (bo 0) 9), (47, .agg [I s.num, S s.body])]⟩ K := by
     refine RA.of hall (RA.stepH (L := [4, 10]) (Tell.c rfl rfl Tell.e) (by kernel_rfl) (by simp) (RA.each ?_ (RA.each ?_ (RA.each0))))
     ·skip
      refine RO.v rfl rfl (V.loadPrim (d := .al 0 (some 9) 2 (((takeN x s.num s.body).late).length) (q4 9) 0) rfl rfl (.inr ⟨_, rfl⟩) rfl rfl rfl) rfl ?_
      exact RA.to hall (RA.lr ro12_111111111100000 rfl rfl)
     ·skip
      refine RO.build1 (c := Late.c) (v := (⟨s.num, s.body⟩ : Late)) rfl rfl rfl rfl rfl rfl rfl rfl (DW.v (DW.v DW.e)) Late.len (by decide) (by decide) fun Xo12_10_1 => ?_
      exact RA.to hall (RA.lr (ro12_111101111110000 Xo12_10_1) rfl rfl)
    have ro12_S : RA [(3, b1, [.int .i64 s.num, .int .i64 s.ack, .int .i64 s.flags, .string s.body])] E B all 15 #[false, false, false, false, false, false, false, false, false, false, false, false, false, false, false] ⟨91, [(0, .obj (bo 0) [I ((takeN x s.num s.body).state), I ((takeN x s.num s.body).iss), I ((takeN x s.num s.body).una), I ((takeN x s.num s.body).rcv), S ((takeN x s.num s.body).wait), I ((takeN x s.num s.body).sent), I ((takeN x s.num s.body).fin), Bo ((takeN x s.num s.body).peerFin), S ((takeN x s.num s.body).in_), .w (sl 2 Late.c ((takeN x s.num s.body).late)) (q4 9), Bo ((takeN x s.num s.body).owe), I ((takeN x s.num s.body).due), I ((takeN x s.num s.body).times)]), (3, .obj b1 ((Seg.c s).map .r))]⟩ K := by
     refine RA.of hall ?_
     refine RA.first (i := 0) (ls' := #[true, false, false, false, false, false, false, false, false, false, false, false, false, false, false]) (Tell.c rfl rfl Tell.e) (by kernel_rfl) rfl rfl rfl (VF.p (V.mv (d := .pt 0 (bo 0) 0) rfl rfl)) ?_
     refine RA.first (i := 1) (ls' := #[true, true, false, false, false, false, false, false, false, false, false, false, false, false, false]) (Tell.c rfl rfl Tell.e) (by kernel_rfl) rfl rfl rfl (VF.p (V.mv (d := .pt 0 (bo 0) 0) rfl rfl)) ?_
     refine RA.first (i := 2) (ls' := #[true, true, true, false, false, false, false, false, false, false, false, false, false, false, false]) (Tell.c rfl rfl Tell.e) (by kernel_rfl) rfl rfl rfl (VF.p (V.nilP rfl rfl)) ?_
     refine RA.first (i := 3) (ls' := #[true, true, true, true, false, false, false, false, false, false, false, false, false, false, false]) (Tell.c rfl rfl Tell.e) (by kernel_rfl) rfl rfl rfl (VF.p (V.field rfl rfl rfl rfl (by decide) rfl)) ?_
     refine RA.le [(0, .obj (bo 0) [I ((takeN x s.num s.body).state), I ((takeN x s.num s.body).iss), I ((takeN x s.num s.body).una), I ((takeN x s.num s.body).rcv), S ((takeN x s.num s.body).wait), I ((takeN x s.num s.body).sent), I ((takeN x s.num s.body).fin), Bo ((takeN x s.num s.body).peerFin), S ((takeN x s.num s.body).in_), .w (sl 2 Late.c ((takeN x s.num s.body).late)) (q4 9), Bo ((takeN x s.num s.body).owe), I ((takeN x s.num s.body).due), I ((takeN x s.num s.body).times)]), (3, .obj b1 ((Seg.c s).map .r)), (38, .pt 0 (bo 0) 0), (41, .pt 0 (bo 0) 9)] rfl (Le.of rfl) ?_
     refine RA.first (i := 5) (ls' := #[true, true, true, true, false, true, false, false, false, false, false, false, false, false, false]) (Tell.c rfl rfl Tell.e) (by kernel_rfl) rfl rfl rfl (VF.p (V.field rfl rfl rfl rfl (by decide) rfl)) ?_
     refine RA.first (i := 6) (ls' := #[true, true, true, true, false, true, true, false, false, false, false, false, false, false, false]) (Tell.c rfl rfl Tell.e) (by kernel_rfl) rfl rfl rfl (VF.loadPrim (m := 0) (d := I s.num) rfl rfl rfl (.inl rfl) rfl rfl rfl rfl) ?_
     refine RA.first (i := 7) (ls' := #[true, true, true, true, false, true, true, true, false, false, false, false, false, false, false]) (Tell.c rfl rfl Tell.e) (by kernel_rfl) rfl rfl rfl (VF.p (V.field rfl rfl rfl rfl (by decide) rfl)) ?_
     refine RA.first (i := 8) (ls' := #[true, true, true, true, false, true, true, true, true, false, false, false, false, false, false]) (Tell.c rfl rfl Tell.e) (by kernel_rfl) rfl rfl rfl (VF.loadPrim (m := 0) (d := S s.body) rfl rfl rfl (.inl rfl) rfl rfl rfl rfl) ?_
     refine RA.le [(0, .obj (bo 0) [I ((takeN x s.num s.body).state), I ((takeN x s.num s.body).iss), I ((takeN x s.num s.body).una), I ((takeN x s.num s.body).rcv), S ((takeN x s.num s.body).wait), I ((takeN x s.num s.body).sent), I ((takeN x s.num s.body).fin), Bo ((takeN x s.num s.body).peerFin), S ((takeN x s.num s.body).in_), .w (sl 2 Late.c ((takeN x s.num s.body).late)) (q4 9), Bo ((takeN x s.num s.body).owe), I ((takeN x s.num s.body).due), I ((takeN x s.num s.body).times)]), (3, .obj b1 ((Seg.c s).map .r)), (38, .pt 0 (bo 0) 0), (41, .pt 0 (bo 0) 9), (44, I s.num), (46, S s.body)] rfl (Le.of rfl) ?_
     refine RA.first (i := 9) (ls' := #[true, true, true, true, false, true, true, true, true, true, false, false, false, false, false]) (Tell.c rfl rfl Tell.e) (by kernel_rfl) rfl rfl rfl (VF.p (V.build (ds := [I s.num, S s.body]) rfl rfl rfl rfl (.one rfl rfl rfl (Nat.le_of_ble_eq_true rfl) (.one rfl rfl rfl (Nat.le_of_ble_eq_true rfl) (.nil))))) ?_
     exact RA.to hall (RA.lr ro12_111101111100000 rfl rfl)
    exact RA.start (by kernel_rfl) (by kernel_rfl) (RA.lr ro12_S rfl rfl)
   ·rintro ⟨Xo12_10_1, Xo12_11_1⟩
    refine CW.le [(0, .obj (bo 0) [I ((takeN x s.num s.body).state), I ((takeN x s.num s.body).iss), I ((takeN x s.num s.body).una), I ((takeN x s.num s.body).rcv), S ((takeN x s.num s.body).wait), I ((takeN x s.num s.body).sent), I ((takeN x s.num s.body).fin), Bo ((takeN x s.num s.body).peerFin), S ((takeN x s.num s.body).in_), .w (sl 2 Late.c (((takeN x s.num s.body).late) ++ ([(⟨s.num, s.body⟩ : Late)]))) Xo12_11_1, Bo ((takeN x s.num s.body).owe), I ((takeN x s.num s.body).due), I ((takeN x s.num s.body).times)])] rfl (Le.of rfl) ?_
    refine CW.seq ?_
    refine CW.region ?_
    refine RW.v rfl (V.as (d := I 0) rfl rfl) ?_
    refine RW.nil ?_
    refine CW.le [(0, .obj (bo 0) [I ((takeN x s.num s.body).state), I ((takeN x s.num s.body).iss), I ((takeN x s.num s.body).una), I ((takeN x s.num s.body).rcv), S ((takeN x s.num s.body).wait), I ((takeN x s.num s.body).sent), I ((takeN x s.num s.body).fin), Bo ((takeN x s.num s.body).peerFin), S ((takeN x s.num s.body).in_), .w (sl 2 Late.c (((takeN x s.num s.body).late) ++ ([(⟨s.num, s.body⟩ : Late)]))) Xo12_11_1, Bo ((takeN x s.num s.body).owe), I ((takeN x s.num s.body).due), I ((takeN x s.num s.body).times)]), (4, I 0)] rfl (Le.of rfl) ?_
    refine CW.block ?_
    refine CW.loopI 91 (fun (zz : Nat × Nat × Stream × Value) => match zz with | (n, i, y, X) => [(0, .obj (bo 0) [I y.state, I y.iss, I y.una, I y.rcv, S y.wait, I y.sent, I y.fin, Bo y.peerFin, S y.in_, .w (sl 2 Late.c y.late) X, Bo y.owe, I y.due, I y.times]), (4, I (i : Int))]) (fun (zz : Nat × Nat × Stream × Value) => match zz with | (n, i, y, X) => DrP (⟨(takeN x s.num s.body).state, (takeN x s.num s.body).iss, (takeN x s.num s.body).una, (takeN x s.num s.body).rcv, (takeN x s.num s.body).wait, (takeN x s.num s.body).sent, (takeN x s.num s.body).fin, (takeN x s.num s.body).peerFin, (takeN x s.num s.body).in_, (((takeN x s.num s.body).late) ++ ([(⟨s.num, s.body⟩ : Late)])), (takeN x s.num s.body).owe, (takeN x s.num s.body).due, (takeN x s.num s.body).times⟩ : Stream) n i y) (fun (zz : Nat × Nat × Stream × Value) => match zz with | (n, i, y, X) => 100 * n + (y.late.length - i)) (9, 0, (⟨(takeN x s.num s.body).state, (takeN x s.num s.body).iss, (takeN x s.num s.body).una, (takeN x s.num s.body).rcv, (takeN x s.num s.body).wait, (takeN x s.num s.body).sent, (takeN x s.num s.body).fin, (takeN x s.num s.body).peerFin, (takeN x s.num s.body).in_, (((takeN x s.num s.body).late) ++ ([(⟨s.num, s.body⟩ : Late)])), (takeN x s.num s.body).owe, (takeN x s.num s.body).due, (takeN x s.num s.body).times⟩ : Stream), _) rfl (Le.c rfl <| Le.c rfl <| Le.e) (DrP.init (hx.b hs)) ?_
    rintro ⟨n, i, y, X⟩ hP
    have hl0 := hP.len
    have hb := hP.hi
    refine CW.seq ?_
    refine CW.seq ?_
    refine CW.region ?_
    refine RW.v rfl (V.mv (d := I (i : Int)) rfl rfl) ?_
    refine RW.v rfl (V.mv (d := .pt 0 (bo 0) 0) rfl rfl) ?_
    refine RW.v rfl (V.nilP rfl rfl) ?_
    refine RW.v rfl (V.field rfl rfl rfl rfl (by decide) rfl) ?_
    refine RW.v rfl (V.loadPrim (d := .al 0 (some 9) 2 y.late.length X 0) rfl rfl (.inr ⟨_, rfl⟩) rfl rfl rfl) ?_
    refine RW.v rfl (V.lenT (n := y.late.length) rfl rfl rfl (.alo (k := none) (i := 0) (j := 9) (sz := 2) (V := X) rfl rfl rfl nofun)) ?_
    refine RW.v rfl (V.cmpInt rfl rfl rfl rfl) ?_
    refine RW.nil ?_
    refine CW.le [(0, .obj (bo 0) [I y.state, I y.iss, I y.una, I y.rcv, S y.wait, I y.sent, I y.fin, Bo y.peerFin, S y.in_, .w (sl 2 Late.c y.late) X, Bo y.owe, I y.due, I y.times]), (4, I (i : Int)), (58, Bo (decide ((i : Int) < (y.late.length : Int))))] rfl (Le.of rfl) ?_
    refine CW.cond rfl (fun h13 => ?_) (fun h13 => ?_)
    ·skip
     have hii : i < y.late.length := by have := h13; simp at this; first | exact this | omega | (simp; done) | (simp; omega)
     obtain ⟨ei, hei⟩ : ∃ e, y.late[i]? = some e := ⟨_, List.getElem?_eq_getElem hii⟩
     have hdi := drop_get hei
     refine CW.skip ?_
     refine CW.le [(0, .obj (bo 0) [I y.state, I y.iss, I y.una, I y.rcv, S y.wait, I y.sent, I y.fin, Bo y.peerFin, S y.in_, .w (sl 2 Late.c y.late) X, Bo y.owe, I y.due, I y.times]), (4, I (i : Int))] rfl (Le.of rfl) ?_
     refine CW.seq ?_
     refine CW.block ?_
     refine CW.seq ?_
     refine CW.region ?_
     refine RW.v rfl (V.mv (d := .pt 0 (bo 0) 0) rfl rfl) ?_
     refine RW.v rfl (V.nilP rfl rfl) ?_
     refine RW.v rfl (V.field rfl rfl rfl rfl (by decide) rfl) ?_
     refine RW.v rfl (V.loadPrim (d := .al 0 (some 9) 2 y.late.length X 0) rfl rfl (.inr ⟨_, rfl⟩) rfl rfl rfl) ?_
     refine RW.v rfl (V.mv (d := I (i : Int)) rfl rfl) ?_
     refine RW.swapO 64 0 9 (by decide) rfl rfl rfl ?_
     refine RW.v rfl (V.indexW rfl rfl rfl rfl rfl rfl rfl hii) ?_
     refine RW.v rfl (V.loadAggF (m := i) rfl rfl rfl rfl rfl Late.len hei (vs := Late.vs ei) rfl (by decide)) ?_
     refine RW.alloc (ds := [I 0, S (⟨#[]⟩)]) rfl rfl rfl rfl fun b14 => ?_
     refine RW.storeAgg (es := ((Late.c ei).map .r)) rfl rfl rfl rfl rfl rfl rfl rfl (Nat.le_of_ble_eq_true rfl) rfl ?_
     refine RW.pullT (k := 0) (l := 64) (j := 9) 0 64 9 rfl rfl rfl (by decide) rfl rfl rfl ?_
     refine RW.nil ?_
     refine CW.le [(0, .obj (bo 0) [I y.state, I y.iss, I y.una, I y.rcv, S y.wait, I y.sent, I y.fin, Bo y.peerFin, S y.in_, .w (sl 2 Late.c y.late) X, Bo y.owe, I y.due, I y.times]), (4, I (i : Int)), (5, .obj b14 ((Late.c ei).map .r))] rfl (Le.of rfl) ?_
     refine CW.seq ?_
     refine CW.region ?_
     refine RW.v rfl (V.mv (d := .pt 0 (bo 0) 0) rfl rfl) ?_
     refine RW.v rfl (V.field rfl rfl rfl rfl (by decide) rfl) ?_
     refine RW.v rfl (V.loadPrim (d := I ei.num) rfl rfl (.inl rfl) rfl rfl rfl) ?_
     refine RW.v rfl (V.field rfl rfl rfl rfl (by decide) rfl) ?_
     refine RW.v rfl (V.loadPrim (d := S ei.text) rfl rfl (.inl rfl) rfl rfl rfl) ?_
     refine RW.callW (k := 0) (__impl_Stream__take_fn y ei.num ei.text (by have := (hP.text hei).2; omega) (hP.text hei).1) rfl rfl (Nat.le_of_ble_eq_true rfl) (by decide) (.here (AsW.ob (DT.v (DT.v (DT.v (DT.v (DT.v (DT.v (DT.v (DT.v (DT.v (DT.w (DT.v (DT.v (DT.v DT.e))))))))))))) rfl) (.cons (.one (.r .r)) (.cons (.one (.r .r)) (.nil)))) rfl fun g15 q16 => ?_
     refine RW.nil ?_
     refine CW.le [(0, .obj (bo 0) [I ((takeN y ei.num ei.text).state), I ((takeN y ei.num ei.text).iss), I ((takeN y ei.num ei.text).una), I ((takeN y ei.num ei.text).rcv), S ((takeN y ei.num ei.text).wait), I ((takeN y ei.num ei.text).sent), I ((takeN y ei.num ei.text).fin), Bo ((takeN y ei.num ei.text).peerFin), S ((takeN y ei.num ei.text).in_), .w (sl 2 Late.c ((takeN y ei.num ei.text).late)) (q16 9), Bo ((takeN y ei.num ei.text).owe), I ((takeN y ei.num ei.text).due), I ((takeN y ei.num ei.text).times)]), (4, I (i : Int)), (73, Bo (decide (gap ei.num y.rcv < 32768)))] rfl (Le.of rfl) ?_
     refine CW.cond rfl (fun h17 => ?_) (fun h17 => ?_)
     ·skip
      have hcv : gap ei.num y.rcv < 32768 := by simpa using h17
      refine CW.anyJ (fc := []) 91 (fun (Xo18_14_1 : Value) => [(0, .obj (bo 0) [I ((takeN y ei.num ei.text).state), I ((takeN y ei.num ei.text).iss), I ((takeN y ei.num ei.text).una), I ((takeN y ei.num ei.text).rcv), S ((takeN y ei.num ei.text).wait), I ((takeN y ei.num ei.text).sent), I ((takeN y ei.num ei.text).fin), Bo ((takeN y ei.num ei.text).peerFin), S ((takeN y ei.num ei.text).in_), .w (sl 2 Late.c (((takeN y ei.num ei.text).late).take i ++ (((takeN y ei.num ei.text).late).drop (i + 1)))) Xo18_14_1, Bo ((takeN y ei.num ei.text).owe), I ((takeN y ei.num ei.text).due), I ((takeN y ei.num ei.text).times)])]) (fun all hall K hK => ?_) ?_
      ·skip
       have ro18_111111111111111111 : ∀ (Xo18_14_1 : Value), RA [] E B all 0 #[true, true, true, true, true, true, true, true, true, true, true, true, true, true, true, true, true, true] ⟨91, [(0, .obj (bo 0) [I ((takeN y ei.num ei.text).state), I ((takeN y ei.num ei.text).iss), I ((takeN y ei.num ei.text).una), I ((takeN y ei.num ei.text).rcv), S ((takeN y ei.num ei.text).wait), I ((takeN y ei.num ei.text).sent), I ((takeN y ei.num ei.text).fin), Bo ((takeN y ei.num ei.text).peerFin), S ((takeN y ei.num ei.text).in_), .w (sl 2 Late.c (((takeN y ei.num ei.text).late).take i ++ (((takeN y ei.num ei.text).late).drop (i + 1)))) Xo18_14_1, Bo ((takeN y ei.num ei.text).owe), I ((takeN y ei.num ei.text).due), I ((takeN y ei.num ei.text).times)])]⟩ K := by
        intro Xo18_14_1
        exact RA.of hall (RA.finH Tell.e (by kernel_rfl) (hK Xo18_14_1 _ rfl (Le.of rfl)))
       have ro18_111111111111111110 : ∀ (Xo18_14_1 : Value), RA [] E B all 1 #[true, true, true, true, true, true, true, true, true, true, true, true, true, true, true, true, true, false] ⟨91, [(0, .obj (bo 0) [I ((takeN y ei.num ei.text).state), I ((takeN y ei.num ei.text).iss), I ((takeN y ei.num ei.text).una), I ((takeN y ei.num ei.text).rcv), S ((takeN y ei.num ei.text).wait), I ((takeN y ei.num ei.text).sent), I ((takeN y ei.num ei.text).fin), Bo ((takeN y ei.num ei.text).peerFin), S ((takeN y ei.num ei.text).in_), .u, Bo ((takeN y ei.num ei.text).owe), I ((takeN y ei.num ei.text).due), I ((takeN y ei.num ei.text).times)]), (88, .w (sl 2 Late.c (((takeN y ei.num ei.text).late).take i ++ (((takeN y ei.num ei.text).late).drop (i + 1)))) Xo18_14_1), (90, .pt 0 (bo 0) 9)]⟩ K := by
        intro Xo18_14_1
        refine RA.of hall (RA.stepH (L := [17]) Tell.e (by kernel_rfl) (by simp) (RA.each ?_ (RA.each0)))
        ·skip
         refine RO.store (d := .al 88 none 2 ((((takeN y ei.num ei.text).late).take i ++ (((takeN y ei.num ei.text).late).drop (i + 1))).length) Xo18_14_1 0) rfl rfl rfl rfl rfl rfl rfl rfl rfl (Nat.le_of_ble_eq_true rfl) rfl rfl ?_
         refine RA.le [(0, .obj (bo 0) [I ((takeN y ei.num ei.text).state), I ((takeN y ei.num ei.text).iss), I ((takeN y ei.num ei.text).una), I ((takeN y ei.num ei.text).rcv), S ((takeN y ei.num ei.text).wait), I ((takeN y ei.num ei.text).sent), I ((takeN y ei.num ei.text).fin), Bo ((takeN y ei.num ei.text).peerFin), S ((takeN y ei.num ei.text).in_), .al 88 none 2 ((((takeN y ei.num ei.text).late).take i ++ (((takeN y ei.num ei.text).late).drop (i + 1))).length) Xo18_14_1 0, Bo ((takeN y ei.num ei.text).owe), I ((takeN y ei.num ei.text).due), I ((takeN y ei.num ei.text).times)]), (88, .w (sl 2 Late.c (((takeN y ei.num ei.text).late).take i ++ (((takeN y ei.num ei.text).late).drop (i + 1)))) Xo18_14_1)] rfl (Le.of rfl) ?_
         refine RA.pullT (k := 0) (l := 88) (j := 9) 0 88 9 rfl rfl rfl (by decide) rfl rfl rfl ?_
         refine RA.le [(0, .obj (bo 0) [I ((takeN y ei.num ei.text).state), I ((takeN y ei.num ei.text).iss), I ((takeN y ei.num ei.text).una), I ((takeN y ei.num ei.text).rcv), S ((takeN y ei.num ei.text).wait), I ((takeN y ei.num ei.text).sent), I ((takeN y ei.num ei.text).fin), Bo ((takeN y ei.num ei.text).peerFin), S ((takeN y ei.num ei.text).in_), .w (sl 2 Late.c (((takeN y ei.num ei.text).late).take i ++ (((takeN y ei.num ei.text).late).drop (i + 1)))) Xo18_14_1, Bo ((takeN y ei.num ei.text).owe), I ((takeN y ei.num ei.text).due), I ((takeN y ei.num ei.text).times)])] rfl (Le.of rfl) ?_
         exact RA.to hall (RA.lr (ro18_111111111111111111 Xo18_14_1) rfl rfl)
       have ro18_111111111111110000 : RA [] E B all 4 #[true, true, true, true, true, true, true, true, true, true, true, true, true, true, false, false, false, false] ⟨91, [(0, .obj (bo 0) [I ((takeN y ei.num ei.text).state), I ((takeN y ei.num ei.text).iss), I ((takeN y ei.num ei.text).una), I ((takeN y ei.num ei.text).rcv), S ((takeN y ei.num ei.text).wait), I ((takeN y ei.num ei.text).sent), I ((takeN y ei.num ei.text).fin), Bo ((takeN y ei.num ei.text).peerFin), S ((takeN y ei.num ei.text).in_), .w (sl 2 Late.c ((takeN y ei.num ei.text).late)) (q16 9), Bo ((takeN y ei.num ei.text).owe), I ((takeN y ei.num ei.text).due), I ((takeN y ei.num ei.text).times)]), (74, .pt 0 (bo 0) 0), (78, .al 0 (some 9) 2 (((takeN y ei.num ei.text).late).length) (q16 9) 0), (80, .al 0 (some 9) 2 i (q16 9) 0), (87, .al 0 (some 9) 2 (((takeN y ei.num ei.text).late).length - (i + 1)) (q16 9) (i + 1))]⟩ K := by
        refine RA.of hall (RA.stepH (L := [14]) Tell.e (by kernel_rfl) (by simp) (RA.each ?_ (RA.each0)))
        ·skip
         refine RO.takeO 78 0 9 (by decide) rfl rfl rfl ?_
         refine RO.alias 80 78 none rfl ?_
         refine RO.alias 87 78 none rfl ?_
         refine RO.appendCR (c := Late.c) (l := (takeN y ei.num ei.text).late) (l2 := (((takeN y ei.num ei.text).late).drop (i + 1))) (q := i) rfl rfl rfl rfl rfl rfl rfl rfl rfl rfl (by rw [takeN_late]; omega) (.dropW rfl Late.len (by rw [takeN_late]; omega) nofun) (by decide) (Nat.le_of_ble_eq_true rfl) Late.len (fun _ => rfl) rfl (by have := hP.ok.2.1; simp only [takeN_late, maxLen, List.length_drop]; omega) (by have := hP.ok.2.1; simp only [takeN_late, List.length_drop]; omega) fun Xo18_14_1 => ?_
         refine RA.first (i := 15) (ls' := #[true, true, true, true, true, true, true, true, true, true, true, true, true, true, true, true, false, false]) Tell.e (by kernel_rfl) rfl rfl rfl (VF.p (V.nilP rfl rfl)) ?_
         refine RA.first (i := 16) (ls' := #[true, true, true, true, true, true, true, true, true, true, true, true, true, true, true, true, true, false]) Tell.e (by kernel_rfl) rfl rfl rfl (VF.p (V.field rfl rfl rfl rfl (by decide) rfl)) ?_
         exact RA.to hall (RA.lr (ro18_111111111111111110 Xo18_14_1) rfl rfl)
       have ro18_111101011111110000 : RA [] E B all 6 #[true, true, true, true, false, true, false, true, true, true, true, true, true, true, false, false, false, false] ⟨91, [(0, .obj (bo 0) [I ((takeN y ei.num ei.text).state), I ((takeN y ei.num ei.text).iss), I ((takeN y ei.num ei.text).una), I ((takeN y ei.num ei.text).rcv), S ((takeN y ei.num ei.text).wait), I ((takeN y ei.num ei.text).sent), I ((takeN y ei.num ei.text).fin), Bo ((takeN y ei.num ei.text).peerFin), S ((takeN y ei.num ei.text).in_), .w (sl 2 Late.c ((takeN y ei.num ei.text).late)) (q16 9), Bo ((takeN y ei.num ei.text).owe), I ((takeN y ei.num ei.text).due), I ((takeN y ei.num ei.text).times)]), (74, .pt 0 (bo 0) 0), (77, .pt 0 (bo 0) 9), (79, I (i : Int)), (87, .al 0 (some 9) 2 (((takeN y ei.num ei.text).late).length - (i + 1)) (q16 9) (i + 1))]⟩ K := by
        refine RA.of hall (RA.stepH (L := [4]) Tell.e (by kernel_rfl) (by simp) (RA.each ?_ (RA.each0)))
        ·skip
         refine RO.v rfl rfl (V.loadPrim (d := .al 0 (some 9) 2 (((takeN y ei.num ei.text).late).length) (q16 9) 0) rfl rfl (.inr ⟨_, rfl⟩) rfl rfl rfl) rfl ?_
         refine RA.first (i := 6) (ls' := #[true, true, true, true, true, true, true, true, true, true, true, true, true, true, false, false, false, false]) Tell.e (by kernel_rfl) rfl rfl rfl (VF.p (V.cutHi (m := i) rfl rfl rfl rfl rfl (.o rfl rfl) rfl (by rw [takeN_late]; omega))) ?_
         exact RA.to hall (RA.lr ro18_111111111111110000 rfl rfl)
       have ro18_111111111101100000 : RA [] E B all 6 #[true, true, true, true, true, true, true, true, true, true, false, true, true, false, false, false, false, false] ⟨91, [(0, .obj (bo 0) [I ((takeN y ei.num ei.text).state), I ((takeN y ei.num ei.text).iss), I ((takeN y ei.num ei.text).una), I ((takeN y ei.num ei.text).rcv), S ((takeN y ei.num ei.text).wait), I ((takeN y ei.num ei.text).sent), I ((takeN y ei.num ei.text).fin), Bo ((takeN y ei.num ei.text).peerFin), S ((takeN y ei.num ei.text).in_), .w (sl 2 Late.c ((takeN y ei.num ei.text).late)) (q16 9), Bo ((takeN y ei.num ei.text).owe), I ((takeN y ei.num ei.text).due), I ((takeN y ei.num ei.text).times)]), (74, .pt 0 (bo 0) 0), (78, .al 0 (some 9) 2 (((takeN y ei.num ei.text).late).length) (q16 9) 0), (80, .al 0 (some 9) 2 i (q16 9) 0), (83, .pt 0 (bo 0) 9), (86, I ((i + 1 : Nat) : Int))]⟩ K := by
        refine RA.of hall (RA.stepH (L := [10]) Tell.e (by kernel_rfl) (by simp) (RA.each ?_ (RA.each0)))
        ·skip
         refine RO.v rfl rfl (V.loadPrim (d := .al 0 (some 9) 2 (((takeN y ei.num ei.text).late).length) (q16 9) 0) rfl rfl (.inr ⟨_, rfl⟩) rfl rfl rfl) rfl ?_
         refine RA.first (i := 13) (ls' := #[true, true, true, true, true, true, true, true, true, true, true, true, true, true, false, false, false, false]) Tell.e (by kernel_rfl) rfl rfl rfl (VF.p (V.cutLo (m := (i + 1)) rfl rfl rfl rfl rfl (.o rfl rfl) rfl rfl (by rw [takeN_late]; omega))) ?_
         exact RA.to hall (RA.lr ro18_111111111111110000 rfl rfl)
       have ro18_111101011101100000 : RA [] E B all 8 #[true, true, true, true, false, true, false, true, true, true, false, true, true, false, false, false, false, false] ⟨91, [(0, .obj (bo 0) [I ((takeN y ei.num ei.text).state), I ((takeN y ei.num ei.text).iss), I ((takeN y ei.num ei.text).una), I ((takeN y ei.num ei.text).rcv), S ((takeN y ei.num ei.text).wait), I ((takeN y ei.num ei.text).sent), I ((takeN y ei.num ei.text).fin), Bo ((takeN y ei.num ei.text).peerFin), S ((takeN y ei.num ei.text).in_), .w (sl 2 Late.c ((takeN y ei.num ei.text).late)) (q16 9), Bo ((takeN y ei.num ei.text).owe), I ((takeN y ei.num ei.text).due), I ((takeN y ei.num ei.text).times)]), (74, .pt 0 (bo 0) 0), (77, .pt 0 (bo 0) 9), (79, I (i : Int)), (83, .pt 0 (bo 0) 9), (86, I ((i + 1 : Nat) : Int))]⟩ K := by
        refine RA.of hall (RA.stepH (L := [4, 10]) Tell.e (by kernel_rfl) (by simp) (RA.each ?_ (RA.each ?_ (RA.each0))))
        ·skip
         refine RO.v rfl rfl (V.loadPrim (d := .al 0 (some 9) 2 (((takeN y ei.num ei.text).late).length) (q16 9) 0) rfl rfl (.inr ⟨_, rfl⟩) rfl rfl rfl) rfl ?_
         refine RA.first (i := 6) (ls' := #[true, true, true, true, true, true, true, true, true, true, false, true, true, false, false, false, false, false]) Tell.e (by kernel_rfl) rfl rfl rfl (VF.p (V.cutHi (m := i) rfl rfl rfl rfl rfl (.o rfl rfl) rfl (by rw [takeN_late]; omega))) ?_
         exact RA.to hall (RA.lr ro18_111111111101100000 rfl rfl)
        ·skip
         refine RO.v rfl rfl (V.loadPrim (d := .al 0 (some 9) 2 (((takeN y ei.num ei.text).late).length) (q16 9) 0) rfl rfl (.inr ⟨_, rfl⟩) rfl rfl rfl) rfl ?_
         refine RA.first (i := 13) (ls' := #[true, true, true, true, false, true, false, true, true, true, true, true, true, true, false, false, false, false]) Tell.e (by kernel_rfl) rfl rfl rfl (VF.p (V.cutLo (m := (i + 1)) rfl rfl rfl rfl rfl (.o rfl rfl) rfl rfl (by rw [takeN_late]; omega))) ?_
         exact RA.to hall (RA.lr ro18_111101011111110000 rfl rfl)
       have ro18_S : RA [] E B all 18 #[false, false, false, false, false, false, false, false, false, false, false, false, false, false, false, false, false, false] ⟨91, [(0, .obj (bo 0) [I ((takeN y ei.num ei.text).state), I ((takeN y ei.num ei.text).iss), I ((takeN y ei.num ei.text).una), I ((takeN y ei.num ei.text).rcv), S ((takeN y ei.num ei.text).wait), I ((takeN y ei.num ei.text).sent), I ((takeN y ei.num ei.text).fin), Bo ((takeN y ei.num ei.text).peerFin), S ((takeN y ei.num ei.text).in_), .w (sl 2 Late.c ((takeN y ei.num ei.text).late)) (q16 9), Bo ((takeN y ei.num ei.text).owe), I ((takeN y ei.num ei.text).due), I ((takeN y ei.num ei.text).times)]), (4, I (i : Int))]⟩ K := by
        refine RA.of hall ?_
        refine RA.first (i := 0) (ls' := #[true, false, false, false, false, false, false, false, false, false, false, false, false, false, false, false, false, false]) Tell.e (by kernel_rfl) rfl rfl rfl (VF.p (V.mv (d := .pt 0 (bo 0) 0) rfl rfl)) ?_
        refine RA.first (i := 1) (ls' := #[true, true, false, false, false, false, false, false, false, false, false, false, false, false, false, false, false, false]) Tell.e (by kernel_rfl) rfl rfl rfl (VF.p (V.mv (d := .pt 0 (bo 0) 0) rfl rfl)) ?_
        refine RA.first (i := 2) (ls' := #[true, true, true, false, false, false, false, false, false, false, false, false, false, false, false, false, false, false]) Tell.e (by kernel_rfl) rfl rfl rfl (VF.p (V.nilP rfl rfl)) ?_
        refine RA.first (i := 3) (ls' := #[true, true, true, true, false, false, false, false, false, false, false, false, false, false, false, false, false, false]) Tell.e (by kernel_rfl) rfl rfl rfl (VF.p (V.field rfl rfl rfl rfl (by decide) rfl)) ?_
        refine RA.le [(0, .obj (bo 0) [I ((takeN y ei.num ei.text).state), I ((takeN y ei.num ei.text).iss), I ((takeN y ei.num ei.text).una), I ((takeN y ei.num ei.text).rcv), S ((takeN y ei.num ei.text).wait), I ((takeN y ei.num ei.text).sent), I ((takeN y ei.num ei.text).fin), Bo ((takeN y ei.num ei.text).peerFin), S ((takeN y ei.num ei.text).in_), .w (sl 2 Late.c ((takeN y ei.num ei.text).late)) (q16 9), Bo ((takeN y ei.num ei.text).owe), I ((takeN y ei.num ei.text).due), I ((takeN y ei.num ei.text).times)]), (4, I (i : Int)), (74, .pt 0 (bo 0) 0), (77, .pt 0 (bo 0) 9)] rfl (Le.of rfl) ?_
        refine RA.first (i := 5) (ls' := #[true, true, true, true, false, true, false, false, false, false, false, false, false, false, false, false, false, false]) Tell.e (by kernel_rfl) rfl rfl rfl (VF.p (V.mv (d := I (i : Int)) rfl rfl)) ?_
        refine RA.first (i := 7) (ls' := #[true, true, true, true, false, true, false, true, false, false, false, false, false, false, false, false, false, false]) Tell.e (by kernel_rfl) rfl rfl rfl (VF.p (V.mv (d := .pt 0 (bo 0) 0) rfl rfl)) ?_
        refine RA.first (i := 8) (ls' := #[true, true, true, true, false, true, false, true, true, false, false, false, false, false, false, false, false, false]) Tell.e (by kernel_rfl) rfl rfl rfl (VF.p (V.nilP rfl rfl)) ?_
        refine RA.first (i := 9) (ls' := #[true, true, true, true, false, true, false, true, true, true, false, false, false, false, false, false, false, false]) Tell.e (by kernel_rfl) rfl rfl rfl (VF.p (V.field rfl rfl rfl rfl (by decide) rfl)) ?_
        refine RA.le [(0, .obj (bo 0) [I ((takeN y ei.num ei.text).state), I ((takeN y ei.num ei.text).iss), I ((takeN y ei.num ei.text).una), I ((takeN y ei.num ei.text).rcv), S ((takeN y ei.num ei.text).wait), I ((takeN y ei.num ei.text).sent), I ((takeN y ei.num ei.text).fin), Bo ((takeN y ei.num ei.text).peerFin), S ((takeN y ei.num ei.text).in_), .w (sl 2 Late.c ((takeN y ei.num ei.text).late)) (q16 9), Bo ((takeN y ei.num ei.text).owe), I ((takeN y ei.num ei.text).due), I ((takeN y ei.num ei.text).times)]), (4, I (i : Int)), (74, .pt 0 (bo 0) 0), (77, .pt 0 (bo 0) 9), (79, I (i : Int)), (83, .pt 0 (bo 0) 9)] rfl (Le.of rfl) ?_
        refine RA.first (i := 11) (ls' := #[true, true, true, true, false, true, false, true, true, true, false, true, false, false, false, false, false, false]) Tell.e (by kernel_rfl) rfl rfl rfl (VF.p (V.mv (d := I (i : Int)) rfl rfl)) ?_
        refine RA.first (i := 12) (ls' := #[true, true, true, true, false, true, false, true, true, true, false, true, true, false, false, false, false, false]) Tell.e (by kernel_rfl) rfl rfl rfl (VF.p (V.inc rfl rfl rfl hii hl0)) ?_
        exact RA.to hall (RA.lr ro18_111101011101100000 rfl rfl)
       exact RA.start (by kernel_rfl) (by kernel_rfl) (RA.lr ro18_S rfl rfl)
      ·rintro Xo18_14_1
       refine CW.region ?_
       refine RW.v rfl (V.as (d := I (-1)) rfl rfl) ?_
       refine RW.nil ?_
       refine CW.le [(0, .obj (bo 0) [I ((takeN y ei.num ei.text).state), I ((takeN y ei.num ei.text).iss), I ((takeN y ei.num ei.text).una), I ((takeN y ei.num ei.text).rcv), S ((takeN y ei.num ei.text).wait), I ((takeN y ei.num ei.text).sent), I ((takeN y ei.num ei.text).fin), Bo ((takeN y ei.num ei.text).peerFin), S ((takeN y ei.num ei.text).in_), .w (sl 2 Late.c (((takeN y ei.num ei.text).late).take i ++ (((takeN y ei.num ei.text).late).drop (i + 1)))) Xo18_14_1, Bo ((takeN y ei.num ei.text).owe), I ((takeN y ei.num ei.text).due), I ((takeN y ei.num ei.text).times)]), (4, I (-1))] rfl (Le.of rfl) ?_
       refine CW.region ?_
       refine RW.v rfl (V.mv (d := I (-1)) rfl rfl) ?_
       refine RW.v rfl (V.arInt rfl rfl rfl rfl) ?_
       refine RW.v rfl (V.as (d := I (IntKind.i64.wrap ((-1) + 1))) rfl rfl) ?_
       refine RW.nil ?_
       exact ⟨(n - 1, 0, (⟨(takeN y ei.num ei.text).state, (takeN y ei.num ei.text).iss, (takeN y ei.num ei.text).una, (takeN y ei.num ei.text).rcv, (takeN y ei.num ei.text).wait, (takeN y ei.num ei.text).sent, (takeN y ei.num ei.text).fin, (takeN y ei.num ei.text).peerFin, (takeN y ei.num ei.text).in_, (((takeN y ei.num ei.text).late).take i ++ (((takeN y ei.num ei.text).late).drop (i + 1))), (takeN y ei.num ei.text).owe, (takeN y ei.num ei.text).due, (takeN y ei.num ei.text).times⟩ : Stream), _), by first | exact hP.mu hei | (simp only [takeN_late]; omega), (hP.go hei hcv), rfl, Le.c rfl <| Le.c rfl <| Le.e⟩
     ·skip
      have hnc : ¬ gap ei.num y.rcv < 32768 := by simpa using h17
      refine CW.skip ?_
      refine CW.le [(0, .obj (bo 0) [I ((takeN y ei.num ei.text).state), I ((takeN y ei.num ei.text).iss), I ((takeN y ei.num ei.text).una), I ((takeN y ei.num ei.text).rcv), S ((takeN y ei.num ei.text).wait), I ((takeN y ei.num ei.text).sent), I ((takeN y ei.num ei.text).fin), Bo ((takeN y ei.num ei.text).peerFin), S ((takeN y ei.num ei.text).in_), .w (sl 2 Late.c ((takeN y ei.num ei.text).late)) (q16 9), Bo ((takeN y ei.num ei.text).owe), I ((takeN y ei.num ei.text).due), I ((takeN y ei.num ei.text).times)]), (4, I (i : Int))] rfl (Le.of rfl) ?_
      refine CW.region ?_
      refine RW.v rfl (V.mv (d := I (i : Int)) rfl rfl) ?_
      refine RW.v rfl (V.inc rfl rfl rfl hii hl0) ?_
      refine RW.v rfl (V.as (d := I ((i + 1 : Nat) : Int)) rfl rfl) ?_
      refine RW.nil ?_
      exact ⟨(n, i + 1, (takeN y ei.num ei.text), _), by first | exact hP.mu hei | (simp only [takeN_late]; omega), (hP.stay hei hnc), rfl, Le.c rfl <| Le.c rfl <| Le.e⟩
    ·skip
     have hii : y.late.length ≤ i := by have := h13; simp at this; first | exact this | omega | (simp; done) | (simp; omega)
     have hdi : y.late.drop i = [] := List.drop_eq_nil_of_le hii
     refine CW.exit ?_
     exact Post.tup (by decide) RVs.e (AOs.obE (f := fun e => (Stream.c e).map .w) (e' := y) rfl (DT.v (DT.v (DT.v (DT.v (DT.v (DT.v (DT.v (DT.v (DT.v (DT.w (DT.v (DT.v (DT.v DT.e))))))))))))) (by have hd := hP.fin hii; rw [partN]; first | (rw [partT_no hs (hv10.symm.trans h11)]; exact hd) | (rw [partT_yes hs (hv10.symm.trans h11)]; exact hd)) (AOs.a rfl AOs.e))
  ·skip
   refine CW.skip ?_
   refine CW.le [(0, .obj (bo 0) [I ((takeN x s.num s.body).state), I ((takeN x s.num s.body).iss), I ((takeN x s.num s.body).una), I ((takeN x s.num s.body).rcv), S ((takeN x s.num s.body).wait), I ((takeN x s.num s.body).sent), I ((takeN x s.num s.body).fin), Bo ((takeN x s.num s.body).peerFin), S ((takeN x s.num s.body).in_), .w (sl 2 Late.c ((takeN x s.num s.body).late)) (q4 9), Bo ((takeN x s.num s.body).owe), I ((takeN x s.num s.body).due), I ((takeN x s.num s.body).times)])] rfl (Le.of rfl) ?_
   refine CW.seq ?_
   refine CW.region ?_
   refine RW.v rfl (V.as (d := I 0) rfl rfl) ?_
   refine RW.nil ?_
   refine CW.le [(0, .obj (bo 0) [I ((takeN x s.num s.body).state), I ((takeN x s.num s.body).iss), I ((takeN x s.num s.body).una), I ((takeN x s.num s.body).rcv), S ((takeN x s.num s.body).wait), I ((takeN x s.num s.body).sent), I ((takeN x s.num s.body).fin), Bo ((takeN x s.num s.body).peerFin), S ((takeN x s.num s.body).in_), .w (sl 2 Late.c ((takeN x s.num s.body).late)) (q4 9), Bo ((takeN x s.num s.body).owe), I ((takeN x s.num s.body).due), I ((takeN x s.num s.body).times)]), (4, I 0)] rfl (Le.of rfl) ?_
   refine CW.block ?_
   refine CW.loopI 91 (fun (zz : Nat × Nat × Stream × Value) => match zz with | (n, i, y, X) => [(0, .obj (bo 0) [I y.state, I y.iss, I y.una, I y.rcv, S y.wait, I y.sent, I y.fin, Bo y.peerFin, S y.in_, .w (sl 2 Late.c y.late) X, Bo y.owe, I y.due, I y.times]), (4, I (i : Int))]) (fun (zz : Nat × Nat × Stream × Value) => match zz with | (n, i, y, X) => DrP (takeN x s.num s.body) n i y) (fun (zz : Nat × Nat × Stream × Value) => match zz with | (n, i, y, X) => 100 * n + (y.late.length - i)) (9, 0, (takeN x s.num s.body), _) rfl (Le.c rfl <| Le.c rfl <| Le.e) (DrP.init (hx.a hs)) ?_
   rintro ⟨n, i, y, X⟩ hP
   have hl0 := hP.len
   have hb := hP.hi
   refine CW.seq ?_
   refine CW.seq ?_
   refine CW.region ?_
   refine RW.v rfl (V.mv (d := I (i : Int)) rfl rfl) ?_
   refine RW.v rfl (V.mv (d := .pt 0 (bo 0) 0) rfl rfl) ?_
   refine RW.v rfl (V.nilP rfl rfl) ?_
   refine RW.v rfl (V.field rfl rfl rfl rfl (by decide) rfl) ?_
   refine RW.v rfl (V.loadPrim (d := .al 0 (some 9) 2 y.late.length X 0) rfl rfl (.inr ⟨_, rfl⟩) rfl rfl rfl) ?_
   refine RW.v rfl (V.lenT (n := y.late.length) rfl rfl rfl (.alo (k := none) (i := 0) (j := 9) (sz := 2) (V := X) rfl rfl rfl nofun)) ?_
   refine RW.v rfl (V.cmpInt rfl rfl rfl rfl) ?_
   refine RW.nil ?_
   refine CW.le [(0, .obj (bo 0) [I y.state, I y.iss, I y.una, I y.rcv, S y.wait, I y.sent, I y.fin, Bo y.peerFin, S y.in_, .w (sl 2 Late.c y.late) X, Bo y.owe, I y.due, I y.times]), (4, I (i : Int)), (58, Bo (decide ((i : Int) < (y.late.length : Int))))] rfl (Le.of rfl) ?_
   refine CW.cond rfl (fun h19 => ?_) (fun h19 => ?_)
   ·skip
    have hii : i < y.late.length := by have := h19; simp at this; first | exact this | omega | (simp; done) | (simp; omega)
    obtain ⟨ei, hei⟩ : ∃ e, y.late[i]? = some e := ⟨_, List.getElem?_eq_getElem hii⟩
    have hdi := drop_get hei
    refine CW.skip ?_
    refine CW.le [(0, .obj (bo 0) [I y.state, I y.iss, I y.una, I y.rcv, S y.wait, I y.sent, I y.fin, Bo y.peerFin, S y.in_, .w (sl 2 Late.c y.late) X, Bo y.owe, I y.due, I y.times]), (4, I (i : Int))] rfl (Le.of rfl) ?_
    refine CW.seq ?_
    refine CW.block ?_
    refine CW.seq ?_
    refine CW.region ?_
    refine RW.v rfl (V.mv (d := .pt 0 (bo 0) 0) rfl rfl) ?_
    refine RW.v rfl (V.nilP rfl rfl) ?_
    refine RW.v rfl (V.field rfl rfl rfl rfl (by decide) rfl) ?_
    refine RW.v rfl (V.loadPrim (d := .al 0 (some 9) 2 y.late.length X 0) rfl rfl (.inr ⟨_, rfl⟩) rfl rfl rfl) ?_
    refine RW.v rfl (V.mv (d := I (i : Int)) rfl rfl) ?_
    refine RW.swapO 64 0 9 (by decide) rfl rfl rfl ?_
    refine RW.v rfl (V.indexW rfl rfl rfl rfl rfl rfl rfl hii) ?_
    refine RW.v rfl (V.loadAggF (m := i) rfl rfl rfl rfl rfl Late.len hei (vs := Late.vs ei) rfl (by decide)) ?_
    refine RW.alloc (ds := [I 0, S (⟨#[]⟩)]) rfl rfl rfl rfl fun b20 => ?_
    refine RW.storeAgg (es := ((Late.c ei).map .r)) rfl rfl rfl rfl rfl rfl rfl rfl (Nat.le_of_ble_eq_true rfl) rfl ?_
    refine RW.pullT (k := 0) (l := 64) (j := 9) 0 64 9 rfl rfl rfl (by decide) rfl rfl rfl ?_
    refine RW.nil ?_
    refine CW.le [(0, .obj (bo 0) [I y.state, I y.iss, I y.una, I y.rcv, S y.wait, I y.sent, I y.fin, Bo y.peerFin, S y.in_, .w (sl 2 Late.c y.late) X, Bo y.owe, I y.due, I y.times]), (4, I (i : Int)), (5, .obj b20 ((Late.c ei).map .r))] rfl (Le.of rfl) ?_
    refine CW.seq ?_
    refine CW.region ?_
    refine RW.v rfl (V.mv (d := .pt 0 (bo 0) 0) rfl rfl) ?_
    refine RW.v rfl (V.field rfl rfl rfl rfl (by decide) rfl) ?_
    refine RW.v rfl (V.loadPrim (d := I ei.num) rfl rfl (.inl rfl) rfl rfl rfl) ?_
    refine RW.v rfl (V.field rfl rfl rfl rfl (by decide) rfl) ?_
    refine RW.v rfl (V.loadPrim (d := S ei.text) rfl rfl (.inl rfl) rfl rfl rfl) ?_
    refine RW.callW (k := 0) (__impl_Stream__take_fn y ei.num ei.text (by have := (hP.text hei).2; omega) (hP.text hei).1) rfl rfl (Nat.le_of_ble_eq_true rfl) (by decide) (.here (AsW.ob (DT.v (DT.v (DT.v (DT.v (DT.v (DT.v (DT.v (DT.v (DT.v (DT.w (DT.v (DT.v (DT.v DT.e))))))))))))) rfl) (.cons (.one (.r .r)) (.cons (.one (.r .r)) (.nil)))) rfl fun g21 q22 => ?_
    refine RW.nil ?_
    refine CW.le [(0, .obj (bo 0) [I ((takeN y ei.num ei.text).state), I ((takeN y ei.num ei.text).iss), I ((takeN y ei.num ei.text).una), I ((takeN y ei.num ei.text).rcv), S ((takeN y ei.num ei.text).wait), I ((takeN y ei.num ei.text).sent), I ((takeN y ei.num ei.text).fin), Bo ((takeN y ei.num ei.text).peerFin), S ((takeN y ei.num ei.text).in_), .w (sl 2 Late.c ((takeN y ei.num ei.text).late)) (q22 9), Bo ((takeN y ei.num ei.text).owe), I ((takeN y ei.num ei.text).due), I ((takeN y ei.num ei.text).times)]), (4, I (i : Int)), (73, Bo (decide (gap ei.num y.rcv < 32768)))] rfl (Le.of rfl) ?_
    refine CW.cond rfl (fun h23 => ?_) (fun h23 => ?_)
    ·skip
     have hcv : gap ei.num y.rcv < 32768 := by simpa using h23
     refine CW.anyJ (fc := []) 91 (fun (Xo24_14_1 : Value) => [(0, .obj (bo 0) [I ((takeN y ei.num ei.text).state), I ((takeN y ei.num ei.text).iss), I ((takeN y ei.num ei.text).una), I ((takeN y ei.num ei.text).rcv), S ((takeN y ei.num ei.text).wait), I ((takeN y ei.num ei.text).sent), I ((takeN y ei.num ei.text).fin), Bo ((takeN y ei.num ei.text).peerFin), S ((takeN y ei.num ei.text).in_), .w (sl 2 Late.c (((takeN y ei.num ei.text).late).take i ++ (((takeN y ei.num ei.text).late).drop (i + 1)))) Xo24_14_1, Bo ((takeN y ei.num ei.text).owe), I ((takeN y ei.num ei.text).due), I ((takeN y ei.num ei.text).times)])]) (fun all hall K hK => ?_) ?_
     ·skip
      have ro24_111111111111111111 : ∀ (Xo24_14_1 : Value), RA [] E B all 0 #[true, true, true, true, true, true, true, true, true, true, true, true, true, true, true, true, true, true] ⟨91, [(0, .obj (bo 0) [I ((takeN y ei.num ei.text).state), I ((takeN y ei.num ei.text).iss), I ((takeN y ei.num ei.text).una), I ((takeN y ei.num ei.text).rcv), S ((takeN y ei.num ei.text).wait), I ((takeN y ei.num ei.text).sent), I ((takeN y ei.num ei.text).fin), Bo ((takeN y ei.num ei.text).peerFin), S ((takeN y ei.num ei.text).in_), .w (sl 2 Late.c (((takeN y ei.num ei.text).late).take i ++ (((takeN y ei.num ei.text).late).drop (i + 1)))) Xo24_14_1, Bo ((takeN y ei.num ei.text).owe), I ((takeN y ei.num ei.text).due), I ((takeN y ei.num ei.text).times)])]⟩ K := by
       intro Xo24_14_1
       exact RA.of hall (RA.finH Tell.e (by kernel_rfl) (hK Xo24_14_1 _ rfl (Le.of rfl)))
      have ro24_111111111111111110 : ∀ (Xo24_14_1 : Value), RA [] E B all 1 #[true, true, true, true, true, true, true, true, true, true, true, true, true, true, true, true, true, false] ⟨91, [(0, .obj (bo 0) [I ((takeN y ei.num ei.text).state), I ((takeN y ei.num ei.text).iss), I ((takeN y ei.num ei.text).una), I ((takeN y ei.num ei.text).rcv), S ((takeN y ei.num ei.text).wait), I ((takeN y ei.num ei.text).sent), I ((takeN y ei.num ei.text).fin), Bo ((takeN y ei.num ei.text).peerFin), S ((takeN y ei.num ei.text).in_), .u, Bo ((takeN y ei.num ei.text).owe), I ((takeN y ei.num ei.text).due), I ((takeN y ei.num ei.text).times)]), (88, .w (sl 2 Late.c (((takeN y ei.num ei.text).late).take i ++ (((takeN y ei.num ei.text).late).drop (i + 1)))) Xo24_14_1), (90, .pt 0 (bo 0) 9)]⟩ K := by
       intro Xo24_14_1
       refine RA.of hall (RA.stepH (L := [17]) Tell.e (by kernel_rfl) (by simp) (RA.each ?_ (RA.each0)))
       ·skip
        refine RO.store (d := .al 88 none 2 ((((takeN y ei.num ei.text).late).take i ++ (((takeN y ei.num ei.text).late).drop (i + 1))).length) Xo24_14_1 0) rfl rfl rfl rfl rfl rfl rfl rfl rfl (Nat.le_of_ble_eq_true rfl) rfl rfl ?_
        refine RA.le [(0, .obj (bo 0) [I ((takeN y ei.num ei.text).state), I ((takeN y ei.num ei.text).iss), I ((takeN y ei.num ei.text).una), I ((takeN y ei.num ei.text).rcv), S ((takeN y ei.num ei.text).wait), I ((takeN y ei.num ei.text).sent), I ((takeN y ei.num ei.text).fin), Bo ((takeN y ei.num ei.text).peerFin), S ((takeN y ei.num ei.text).in_), .al 88 none 2 ((((takeN y ei.num ei.text).late).take i ++ (((takeN y ei.num ei.text).late).drop (i + 1))).length) Xo24_14_1 0, Bo ((takeN y ei.num ei.text).owe), I ((takeN y ei.num ei.text).due), I ((takeN y ei.num ei.text).times)]), (88, .w (sl 2 Late.c (((takeN y ei.num ei.text).late).take i ++ (((takeN y ei.num ei.text).late).drop (i + 1)))) Xo24_14_1)] rfl (Le.of rfl) ?_
        refine RA.pullT (k := 0) (l := 88) (j := 9) 0 88 9 rfl rfl rfl (by decide) rfl rfl rfl ?_
        refine RA.le [(0, .obj (bo 0) [I ((takeN y ei.num ei.text).state), I ((takeN y ei.num ei.text).iss), I ((takeN y ei.num ei.text).una), I ((takeN y ei.num ei.text).rcv), S ((takeN y ei.num ei.text).wait), I ((takeN y ei.num ei.text).sent), I ((takeN y ei.num ei.text).fin), Bo ((takeN y ei.num ei.text).peerFin), S ((takeN y ei.num ei.text).in_), .w (sl 2 Late.c (((takeN y ei.num ei.text).late).take i ++ (((takeN y ei.num ei.text).late).drop (i + 1)))) Xo24_14_1, Bo ((takeN y ei.num ei.text).owe), I ((takeN y ei.num ei.text).due), I ((takeN y ei.num ei.text).times)])] rfl (Le.of rfl) ?_
        exact RA.to hall (RA.lr (ro24_111111111111111111 Xo24_14_1) rfl rfl)
      have ro24_111111111111110000 : RA [] E B all 4 #[true, true, true, true, true, true, true, true, true, true, true, true, true, true, false, false, false, false] ⟨91, [(0, .obj (bo 0) [I ((takeN y ei.num ei.text).state), I ((takeN y ei.num ei.text).iss), I ((takeN y ei.num ei.text).una), I ((takeN y ei.num ei.text).rcv), S ((takeN y ei.num ei.text).wait), I ((takeN y ei.num ei.text).sent), I ((takeN y ei.num ei.text).fin), Bo ((takeN y ei.num ei.text).peerFin), S ((takeN y ei.num ei.text).in_), .w (sl 2 Late.c ((takeN y ei.num ei.text).late)) (q22 9), Bo ((takeN y ei.num ei.text).owe), I ((takeN y ei.num ei.text).due), I ((takeN y ei.num ei.text).times)]), (74, .pt 0 (bo 0) 0), (78, .al 0 (some 9) 2 (((takeN y ei.num ei.text).late).length) (q22 9) 0), (80, .al 0 (some 9) 2 i (q22 9) 0), (87, .al 0 (some 9) 2 (((takeN y ei.num ei.text).late).length - (i + 1)) (q22 9) (i + 1))]⟩ K := by
       refine RA.of hall (RA.stepH (L := [14]) Tell.e (by kernel_rfl) (by simp) (RA.each ?_ (RA.each0)))
       ·skip
        refine RO.takeO 78 0 9 (by decide) rfl rfl rfl ?_
        refine RO.alias 80 78 none rfl ?_
        refine RO.alias 87 78 none rfl ?_
        refine RO.appendCR (c := Late.c) (l := (takeN y ei.num ei.text).late) (l2 := (((takeN y ei.num ei.text).late).drop (i + 1))) (q := i) rfl rfl rfl rfl rfl rfl rfl rfl rfl rfl (by rw [takeN_late]; omega) (.dropW rfl Late.len (by rw [takeN_late]; omega) nofun) (by decide) (Nat.le_of_ble_eq_true rfl) Late.len (fun _ => rfl) rfl (by have := hP.ok.2.1; simp only [takeN_late, maxLen, List.length_drop]; omega) (by have := hP.ok.2.1; simp only [takeN_late, List.length_drop]; omega) fun Xo24_14_1 => ?_
        refine RA.first (i := 15) (ls' := #[true, true, true, true, true, true, true, true, true, true, true, true, true, true, true, true, false, false]) Tell.e (by kernel_rfl) rfl rfl rfl (VF.p (V.nilP rfl rfl)) ?_
        refine RA.first (i := 16) (ls' := #[true, true, true, true, true, true, true, true, true, true, true, true, true, true, true, true, true, false]) Tell.e (by kernel_rfl) rfl rfl rfl (VF.p (V.field rfl rfl rfl rfl (by decide) rfl)) ?_
        exact RA.to hall (RA.lr (ro24_111111111111111110 Xo24_14_1) rfl rfl)
      have ro24_111101011111110000 : RA [] E B all 6 #[true, true, true, true, false, true, false, true, true, true, true, true, true, true, false, false, false, false] ⟨91, [(0, .obj (bo 0) [I ((takeN y ei.num ei.text).state), I ((takeN y ei.num ei.text).iss), I ((takeN y ei.num ei.text).una), I ((takeN y ei.num ei.text).rcv), S ((takeN y ei.num ei.text).wait), I ((takeN y ei.num ei.text).sent), I ((takeN y ei.num ei.text).fin), Bo ((takeN y ei.num ei.text).peerFin), S ((takeN y ei.num ei.text).in_), .w (sl 2 Late.c ((takeN y ei.num ei.text).late)) (q22 9), Bo ((takeN y ei.num ei.text).owe), I ((takeN y ei.num ei.text).due), I ((takeN y ei.num ei.text).times)]), (74, .pt 0 (bo 0) 0), (77, .pt 0 (bo 0) 9), (79, I (i : Int)), (87, .al 0 (some 9) 2 (((takeN y ei.num ei.text).late).length - (i + 1)) (q22 9) (i + 1))]⟩ K := by
       refine RA.of hall (RA.stepH (L := [4]) Tell.e (by kernel_rfl) (by simp) (RA.each ?_ (RA.each0)))
       ·skip
        refine RO.v rfl rfl (V.loadPrim (d := .al 0 (some 9) 2 (((takeN y ei.num ei.text).late).length) (q22 9) 0) rfl rfl (.inr ⟨_, rfl⟩) rfl rfl rfl) rfl ?_
        refine RA.first (i := 6) (ls' := #[true, true, true, true, true, true, true, true, true, true, true, true, true, true, false, false, false, false]) Tell.e (by kernel_rfl) rfl rfl rfl (VF.p (V.cutHi (m := i) rfl rfl rfl rfl rfl (.o rfl rfl) rfl (by rw [takeN_late]; omega))) ?_
        exact RA.to hall (RA.lr ro24_111111111111110000 rfl rfl)
      have ro24_111111111101100000 : RA [] E B all 6 #[true, true, true, true, true, true, true, true, true, true, false, true, true, false, false, false, false, false] ⟨91, [(0, .obj (bo 0) [I ((takeN y ei.num ei.text).state), I ((takeN y ei.num ei.text).iss), I ((takeN y ei.num ei.text).una), I ((takeN y ei.num ei.text).rcv), S ((takeN y ei.num ei.text).wait), I ((takeN y ei.num ei.text).sent), I ((takeN y ei.num ei.text).fin), Bo ((takeN y ei.num ei.text).peerFin), S ((takeN y ei.num ei.text).in_), .w (sl 2 Late.c ((takeN y ei.num ei.text).late)) (q22 9), Bo ((takeN y ei.num ei.text).owe), I ((takeN y ei.num ei.text).due), I ((takeN y ei.num ei.text).times)]), (74, .pt 0 (bo 0) 0), (78, .al 0 (some 9) 2 (((takeN y ei.num ei.text).late).length) (q22 9) 0), (80, .al 0 (some 9) 2 i (q22 9) 0), (83, .pt 0 (bo 0) 9), (86, I ((i + 1 : Nat) : Int))]⟩ K := by
       refine RA.of hall (RA.stepH (L := [10]) Tell.e (by kernel_rfl) (by simp) (RA.each ?_ (RA.each0)))
       ·skip
        refine RO.v rfl rfl (V.loadPrim (d := .al 0 (some 9) 2 (((takeN y ei.num ei.text).late).length) (q22 9) 0) rfl rfl (.inr ⟨_, rfl⟩) rfl rfl rfl) rfl ?_
        refine RA.first (i := 13) (ls' := #[true, true, true, true, true, true, true, true, true, true, true, true, true, true, false, false, false, false]) Tell.e (by kernel_rfl) rfl rfl rfl (VF.p (V.cutLo (m := (i + 1)) rfl rfl rfl rfl rfl (.o rfl rfl) rfl rfl (by rw [takeN_late]; omega))) ?_
        exact RA.to hall (RA.lr ro24_111111111111110000 rfl rfl)
      have ro24_111101011101100000 : RA [] E B all 8 #[true, true, true, true, false, true, false, true, true, true, false, true, true, false, false, false, false, false] ⟨91, [(0, .obj (bo 0) [I ((takeN y ei.num ei.text).state), I ((takeN y ei.num ei.text).iss), I ((takeN y ei.num ei.text).una), I ((takeN y ei.num ei.text).rcv), S ((takeN y ei.num ei.text).wait), I ((takeN y ei.num ei.text).sent), I ((takeN y ei.num ei.text).fin), Bo ((takeN y ei.num ei.text).peerFin), S ((takeN y ei.num ei.text).in_), .w (sl 2 Late.c ((takeN y ei.num ei.text).late)) (q22 9), Bo ((takeN y ei.num ei.text).owe), I ((takeN y ei.num ei.text).due), I ((takeN y ei.num ei.text).times)]), (74, .pt 0 (bo 0) 0), (77, .pt 0 (bo 0) 9), (79, I (i : Int)), (83, .pt 0 (bo 0) 9), (86, I ((i + 1 : Nat) : Int))]⟩ K := by
       refine RA.of hall (RA.stepH (L := [4, 10]) Tell.e (by kernel_rfl) (by simp) (RA.each ?_ (RA.each ?_ (RA.each0))))
       ·skip
        refine RO.v rfl rfl (V.loadPrim (d := .al 0 (some 9) 2 (((takeN y ei.num ei.text).late).length) (q22 9) 0) rfl rfl (.inr ⟨_, rfl⟩) rfl rfl rfl) rfl ?_
        refine RA.first (i := 6) (ls' := #[true, true, true, true, true, true, true, true, true, true, false, true, true, false, false, false, false, false]) Tell.e (by kernel_rfl) rfl rfl rfl (VF.p (V.cutHi (m := i) rfl rfl rfl rfl rfl (.o rfl rfl) rfl (by rw [takeN_late]; omega))) ?_
        exact RA.to hall (RA.lr ro24_111111111101100000 rfl rfl)
       ·skip
        refine RO.v rfl rfl (V.loadPrim (d := .al 0 (some 9) 2 (((takeN y ei.num ei.text).late).length) (q22 9) 0) rfl rfl (.inr ⟨_, rfl⟩) rfl rfl rfl) rfl ?_
        refine RA.first (i := 13) (ls' := #[true, true, true, true, false, true, false, true, true, true, true, true, true, true, false, false, false, false]) Tell.e (by kernel_rfl) rfl rfl rfl (VF.p (V.cutLo (m := (i + 1)) rfl rfl rfl rfl rfl (.o rfl rfl) rfl rfl (by rw [takeN_late]; omega))) ?_
        exact RA.to hall (RA.lr ro24_111101011111110000 rfl rfl)
      have ro24_S : RA [] E B all 18 #[false, false, false, false, false, false, false, false, false, false, false, false, false, false, false, false, false, false] ⟨91, [(0, .obj (bo 0) [I ((takeN y ei.num ei.text).state), I ((takeN y ei.num ei.text).iss), I ((takeN y ei.num ei.text).una), I ((takeN y ei.num ei.text).rcv), S ((takeN y ei.num ei.text).wait), I ((takeN y ei.num ei.text).sent), I ((takeN y ei.num ei.text).fin), Bo ((takeN y ei.num ei.text).peerFin), S ((takeN y ei.num ei.text).in_), .w (sl 2 Late.c ((takeN y ei.num ei.text).late)) (q22 9), Bo ((takeN y ei.num ei.text).owe), I ((takeN y ei.num ei.text).due), I ((takeN y ei.num ei.text).times)]), (4, I (i : Int))]⟩ K := by
       refine RA.of hall ?_
       refine RA.first (i := 0) (ls' := #[true, false, false, false, false, false, false, false, false, false, false, false, false, false, false, false, false, false]) Tell.e (by kernel_rfl) rfl rfl rfl (VF.p (V.mv (d := .pt 0 (bo 0) 0) rfl rfl)) ?_
       refine RA.first (i := 1) (ls' := #[true, true, false, false, false, false, false, false, false, false, false, false, false, false, false, false, false, false]) Tell.e (by kernel_rfl) rfl rfl rfl (VF.p (V.mv (d := .pt 0 (bo 0) 0) rfl rfl)) ?_
       refine RA.first (i := 2) (ls' := #[true, true, true, false, false, false, false, false, false, false, false, false, false, false, false, false, false, false]) Tell.e (by kernel_rfl) rfl rfl rfl (VF.p (V.nilP rfl rfl)) ?_
       refine RA.first (i := 3) (ls' := #[true, true, true, true, false, false, false, false, false, false, false, false, false, false, false, false, false, false]) Tell.e (by kernel_rfl) rfl rfl rfl (VF.p (V.field rfl rfl rfl rfl (by decide) rfl)) ?_
       refine RA.le [(0, .obj (bo 0) [I ((takeN y ei.num ei.text).state), I ((takeN y ei.num ei.text).iss), I ((takeN y ei.num ei.text).una), I ((takeN y ei.num ei.text).rcv), S ((takeN y ei.num ei.text).wait), I ((takeN y ei.num ei.text).sent), I ((takeN y ei.num ei.text).fin), Bo ((takeN y ei.num ei.text).peerFin), S ((takeN y ei.num ei.text).in_), .w (sl 2 Late.c ((takeN y ei.num ei.text).late)) (q22 9), Bo ((takeN y ei.num ei.text).owe), I ((takeN y ei.num ei.text).due), I ((takeN y ei.num ei.text).times)]), (4, I (i : Int)), (74, .pt 0 (bo 0) 0), (77, .pt 0 (bo 0) 9)] rfl (Le.of rfl) ?_
       refine RA.first (i := 5) (ls' := #[true, true, true, true, false, true, false, false, false, false, false, false, false, false, false, false, false, false]) Tell.e (by kernel_rfl) rfl rfl rfl (VF.p (V.mv (d := I (i : Int)) rfl rfl)) ?_
       refine RA.first (i := 7) (ls' := #[true, true, true, true, false, true, false, true, false, false, false, false, false, false, false, false, false, false]) Tell.e (by kernel_rfl) rfl rfl rfl (VF.p (V.mv (d := .pt 0 (bo 0) 0) rfl rfl)) ?_
       refine RA.first (i := 8) (ls' := #[true, true, true, true, false, true, false, true, true, false, false, false, false, false, false, false, false, false]) Tell.e (by kernel_rfl) rfl rfl rfl (VF.p (V.nilP rfl rfl)) ?_
       refine RA.first (i := 9) (ls' := #[true, true, true, true, false, true, false, true, true, true, false, false, false, false, false, false, false, false]) Tell.e (by kernel_rfl) rfl rfl rfl (VF.p (V.field rfl rfl rfl rfl (by decide) rfl)) ?_
       refine RA.le [(0, .obj (bo 0) [I ((takeN y ei.num ei.text).state), I ((takeN y ei.num ei.text).iss), I ((takeN y ei.num ei.text).una), I ((takeN y ei.num ei.text).rcv), S ((takeN y ei.num ei.text).wait), I ((takeN y ei.num ei.text).sent), I ((takeN y ei.num ei.text).fin), Bo ((takeN y ei.num ei.text).peerFin), S ((takeN y ei.num ei.text).in_), .w (sl 2 Late.c ((takeN y ei.num ei.text).late)) (q22 9), Bo ((takeN y ei.num ei.text).owe), I ((takeN y ei.num ei.text).due), I ((takeN y ei.num ei.text).times)]), (4, I (i : Int)), (74, .pt 0 (bo 0) 0), (77, .pt 0 (bo 0) 9), (79, I (i : Int)), (83, .pt 0 (bo 0) 9)] rfl (Le.of rfl) ?_
       refine RA.first (i := 11) (ls' := #[true, true, true, true, false, true, false, true, true, true, false, true, false, false, false, false, false, false]) Tell.e (by kernel_rfl) rfl rfl rfl (VF.p (V.mv (d := I (i : Int)) rfl rfl)) ?_
       refine RA.first (i := 12) (ls' := #[true, true, true, true, false, true, false, true, true, true, false, true, true, false, false, false, false, false]) Tell.e (by kernel_rfl) rfl rfl rfl (VF.p (V.inc rfl rfl rfl hii hl0)) ?_
       exact RA.to hall (RA.lr ro24_111101011101100000 rfl rfl)
      exact RA.start (by kernel_rfl) (by kernel_rfl) (RA.lr ro24_S rfl rfl)
     ·rintro Xo24_14_1
      refine CW.region ?_
      refine RW.v rfl (V.as (d := I (-1)) rfl rfl) ?_
      refine RW.nil ?_
      refine CW.le [(0, .obj (bo 0) [I ((takeN y ei.num ei.text).state), I ((takeN y ei.num ei.text).iss), I ((takeN y ei.num ei.text).una), I ((takeN y ei.num ei.text).rcv), S ((takeN y ei.num ei.text).wait), I ((takeN y ei.num ei.text).sent), I ((takeN y ei.num ei.text).fin), Bo ((takeN y ei.num ei.text).peerFin), S ((takeN y ei.num ei.text).in_), .w (sl 2 Late.c (((takeN y ei.num ei.text).late).take i ++ (((takeN y ei.num ei.text).late).drop (i + 1)))) Xo24_14_1, Bo ((takeN y ei.num ei.text).owe), I ((takeN y ei.num ei.text).due), I ((takeN y ei.num ei.text).times)]), (4, I (-1))] rfl (Le.of rfl) ?_
      refine CW.region ?_
      refine RW.v rfl (V.mv (d := I (-1)) rfl rfl) ?_
      refine RW.v rfl (V.arInt rfl rfl rfl rfl) ?_
      refine RW.v rfl (V.as (d := I (IntKind.i64.wrap ((-1) + 1))) rfl rfl) ?_
      refine RW.nil ?_
      exact ⟨(n - 1, 0, (⟨(takeN y ei.num ei.text).state, (takeN y ei.num ei.text).iss, (takeN y ei.num ei.text).una, (takeN y ei.num ei.text).rcv, (takeN y ei.num ei.text).wait, (takeN y ei.num ei.text).sent, (takeN y ei.num ei.text).fin, (takeN y ei.num ei.text).peerFin, (takeN y ei.num ei.text).in_, (((takeN y ei.num ei.text).late).take i ++ (((takeN y ei.num ei.text).late).drop (i + 1))), (takeN y ei.num ei.text).owe, (takeN y ei.num ei.text).due, (takeN y ei.num ei.text).times⟩ : Stream), _), by first | exact hP.mu hei | (simp only [takeN_late]; omega), (hP.go hei hcv), rfl, Le.c rfl <| Le.c rfl <| Le.e⟩
    ·skip
     have hnc : ¬ gap ei.num y.rcv < 32768 := by simpa using h23
     refine CW.skip ?_
     refine CW.le [(0, .obj (bo 0) [I ((takeN y ei.num ei.text).state), I ((takeN y ei.num ei.text).iss), I ((takeN y ei.num ei.text).una), I ((takeN y ei.num ei.text).rcv), S ((takeN y ei.num ei.text).wait), I ((takeN y ei.num ei.text).sent), I ((takeN y ei.num ei.text).fin), Bo ((takeN y ei.num ei.text).peerFin), S ((takeN y ei.num ei.text).in_), .w (sl 2 Late.c ((takeN y ei.num ei.text).late)) (q22 9), Bo ((takeN y ei.num ei.text).owe), I ((takeN y ei.num ei.text).due), I ((takeN y ei.num ei.text).times)]), (4, I (i : Int))] rfl (Le.of rfl) ?_
     refine CW.region ?_
     refine RW.v rfl (V.mv (d := I (i : Int)) rfl rfl) ?_
     refine RW.v rfl (V.inc rfl rfl rfl hii hl0) ?_
     refine RW.v rfl (V.as (d := I ((i + 1 : Nat) : Int)) rfl rfl) ?_
     refine RW.nil ?_
     exact ⟨(n, i + 1, (takeN y ei.num ei.text), _), by first | exact hP.mu hei | (simp only [takeN_late]; omega), (hP.stay hei hnc), rfl, Le.c rfl <| Le.c rfl <| Le.e⟩
   ·skip
    have hii : y.late.length ≤ i := by have := h19; simp at this; first | exact this | omega | (simp; done) | (simp; omega)
    have hdi : y.late.drop i = [] := List.drop_eq_nil_of_le hii
    refine CW.exit ?_
    exact Post.tup (by decide) RVs.e (AOs.obE (f := fun e => (Stream.c e).map .w) (e' := y) rfl (DT.v (DT.v (DT.v (DT.v (DT.v (DT.v (DT.v (DT.v (DT.v (DT.w (DT.v (DT.v (DT.v DT.e))))))))))))) (by have hd := hP.fin hii; rw [partN]; first | (rw [partT_no hs (hv10.symm.trans h11)]; exact hd) | (rw [partT_yes hs (hv10.symm.trans h11)]; exact hd)) (AOs.a rfl AOs.e))
set_option maxHeartbeats 4000000 in
theorem impl_StreamOk_fn (x : Stream) : Eng.Fn E.P 24 [.agg ((Stream.c x).map .r)] (.one (.one (.w (.v (.bool (streamOk x)))))) [.agg ((Stream.c x).map .r)] := by
 refine Eng.Fn.intro (E := E) (rvs := [.tmp 2]) Try.func24 rfl rfl rfl (by simp [outSlots, moved, rvSlot, sl]) ?_
 intro B g bo
 refine CW.le [(0, .agg ((Stream.c x).map .r))] rfl (Le.of rfl) ?_
 refine CW.seq ?_
 refine CW.region ?_
 refine RW.box (ds := ((Stream.c x).map .r)) rfl rfl rfl fun b1 => ?_
 refine RW.v rfl (V.as (d := Bo false) rfl rfl) ?_
 refine RW.nil ?_
 refine CW.le [(1, .obj b1 ((Stream.c x).map .r))] rfl (Le.of rfl) ?_
 refine CW.seq ?_
 refine CW.seq ?_
 refine CW.region ?_
 refine RW.v rfl (V.field rfl rfl rfl rfl (by decide) rfl) ?_
 refine RW.v rfl (V.loadPrim (d := .r (sl 2 Late.c x.late)) rfl rfl (.inr ⟨_, rfl⟩) rfl rfl rfl) ?_
 refine RW.v rfl (V.lenT (n := x.late.length) rfl rfl rfl .r) ?_
 refine RW.v rfl (V.mv (d := I 0) rfl rfl) ?_
 refine RW.nil ?_
 refine CW.le [(1, .obj b1 ((Stream.c x).map .r)), (8, .r (sl 2 Late.c x.late)), (9, I (x.late.length : Int)), (10, I 0)] rfl (Le.of rfl) ?_
 refine CW.block ?_
 refine CW.loopI 113 (fun (i : Nat) => [(1, .obj b1 ((Stream.c x).map .r)), (8, .r (sl 2 Late.c x.late)), (9, I (x.late.length : Int)), (10, I (i : Int))]) (fun (i : Nat) => i ≤ x.late.length ∧ (x.late.take i).all lateOk = true) (fun (i : Nat) => x.late.length - i) 0 rfl (Le.c rfl <| Le.c rfl <| Le.c rfl <| Le.c rfl <| Le.e) ⟨by omega, by simp⟩ ?_
 rintro i ⟨hb, hr⟩
 refine CW.bound (x := .tmp 8) (n := x.late.length) AsT.r (fun hl0 => ?_)
 refine CW.seq ?_
 refine CW.region ?_
 refine RW.v rfl (V.cmpInt rfl rfl rfl rfl) ?_
 refine RW.nil ?_
 refine CW.le [(1, .obj b1 ((Stream.c x).map .r)), (8, .r (sl 2 Late.c x.late)), (9, I (x.late.length : Int)), (10, I (i : Int)), (11, Bo (decide ((i : Int) < (x.late.length : Int))))] rfl (Le.of rfl) ?_
 refine CW.seq ?_
 refine CW.cond rfl (fun h2 => ?_) (fun h2 => ?_)
 ·skip
  have hii : i < x.late.length := by have := h2; simp at this; first | exact this | omega | (simp; done) | (simp; omega)
  obtain ⟨ei, hei⟩ : ∃ e, x.late[i]? = some e := ⟨_, List.getElem?_eq_getElem hii⟩
  have hdi := drop_get hei
  refine CW.skip ?_
  refine CW.le [(1, .obj b1 ((Stream.c x).map .r)), (8, .r (sl 2 Late.c x.late)), (9, I (x.late.length : Int)), (10, I (i : Int))] rfl (Le.of rfl) ?_
  refine CW.seq ?_
  refine CW.block ?_
  refine CW.seq ?_
  refine CW.region ?_
  refine RW.v rfl (V.indexS rfl rfl rfl rfl rfl rfl Late.len hei) ?_
  refine RW.v rfl (V.loadAggR rfl rfl rfl rfl (Nat.le_of_ble_eq_true rfl)) ?_
  refine RW.alloc (ds := [I 0, S (⟨#[]⟩)]) rfl rfl rfl rfl fun b3 => ?_
  refine RW.storeAgg (es := ((Late.c ei).map .r)) rfl rfl rfl rfl rfl rfl rfl rfl (Nat.le_of_ble_eq_true rfl) rfl ?_
  refine RW.nil ?_
  refine CW.le [(1, .obj b1 ((Stream.c x).map .r)), (4, .obj b3 ((Late.c ei).map .r)), (8, .r (sl 2 Late.c x.late)), (9, I (x.late.length : Int)), (10, I (i : Int))] rfl (Le.of rfl) ?_
  refine CW.seqJ 113 (fun (v4 : Bool) => [(1, .obj b1 ((Stream.c x).map .r)), (8, .r (sl 2 Late.c x.late)), (9, I (x.late.length : Int)), (10, I (i : Int)), (24, Bo v4)]) (fun v4 => v4 = ((!(inR (ei.text.size : Int) 1 8)) || (!(isWord ei.num)))) ?_ ?_
  ·refine CW.region ?_
   refine RW.v rfl (V.field rfl rfl rfl rfl (by decide) rfl) ?_
   refine RW.v rfl (V.loadPrim (d := S ei.text) rfl rfl (.inl rfl) rfl rfl rfl) ?_
   refine RW.v rfl (V.lenStr rfl (by kernel_rfl) rfl) ?_
   refine RW.call rfl (impl_within_fn (ei.text.size : Int) 1 8) rfl (.cons (.one (.r .r)) (.cons (.one (.r .r)) (.cons (.one (.r .r)) (.nil)))) fun g5 => ?_
   refine RW.v rfl (V.not rfl rfl) ?_
   refine RW.v rfl (V.mv (d := Bo (!(inR (ei.text.size : Int) 1 8))) rfl rfl) ?_
   refine RW.gv rfl rfl rfl rfl (fun h6 => V.field rfl rfl rfl rfl (by decide) rfl) (fun h6 => ?_) (fun h6 => ?_)
   ·skip
    refine RW.gt rfl rfl rfl rfl (V.loadPrim (d := I ei.num) rfl rfl (.inl rfl) rfl rfl rfl) ?_
    refine RW.gcall rfl rfl rfl rfl (impl_isWord_fn ei.num) rfl (.cons (.one (.r .r)) (.nil)) fun g7 => ?_
    refine RW.gt rfl rfl rfl rfl (V.not rfl rfl) ?_
    refine RW.v rfl (V.pickF (d := Bo (!(isWord ei.num))) rfl rfl rfl) ?_
    refine RW.nil ?_
    exact ⟨_, by first | rfl | (simp_all; done) | (simp_all; omega) | grind, rfl, Le.c rfl <| Le.c rfl <| Le.c rfl <| Le.c rfl <| Le.c rfl <| Le.e⟩
   ·skip
    refine RW.guardF rfl rfl rfl rfl ?_
    refine RW.guardF rfl rfl rfl rfl ?_
    refine RW.guardF rfl rfl rfl rfl ?_
    refine RW.v rfl (V.pickT (d := Bo true) rfl rfl rfl) ?_
    refine RW.nil ?_
    exact ⟨_, by first | rfl | (simp_all; done) | (simp_all; omega) | grind, rfl, Le.c rfl <| Le.c rfl <| Le.c rfl <| Le.c rfl <| Le.c rfl <| Le.e⟩
  ·intro v4 hv8
   refine CW.cond rfl (fun h9 => ?_) (fun h9 => ?_)
   ·skip
    refine CW.seq ?_
    refine CW.region ?_
    refine RW.v rfl (V.as (d := Bo false) rfl rfl) ?_
    refine RW.nil ?_
    refine CW.le [(2, Bo false)] rfl (Le.of rfl) ?_
    refine CW.ret ?_
    exact Post.one (RV.b rfl (by have := all_not (p := lateOk) hei (by first | (simp_all [lateOk]; done) | grind [lateOk]); simp [streamOk, this])) (AOs.a rfl AOs.e)
   ·skip
    refine CW.skip ?_
    refine CW.le [(1, .obj b1 ((Stream.c x).map .r)), (8, .r (sl 2 Late.c x.late)), (9, I (x.late.length : Int)), (10, I (i : Int))] rfl (Le.of rfl) ?_
    refine CW.region ?_
    refine RW.v rfl (V.inc rfl rfl rfl hii hl0) ?_
    refine RW.v rfl (V.mv (d := I ((i + 1 : Nat) : Int)) rfl rfl) ?_
    refine RW.nil ?_
    exact ⟨i + 1, by omega, ⟨by omega, all_snoc hr hei (by first | (simp_all [lateOk]; done) | grind [lateOk])⟩, rfl, Le.c rfl <| Le.c rfl <| Le.c rfl <| Le.c rfl <| Le.e⟩
 ·skip
  have hii : x.late.length ≤ i := by have := h2; simp at this; first | exact this | omega | (simp; done) | (simp; omega)
  have hdi : x.late.drop i = [] := List.drop_eq_nil_of_le hii
  refine CW.exit ?_
  refine CW.le [(1, .obj b1 ((Stream.c x).map .r))] rfl (Le.of rfl) ?_
  refine CW.seq ?_
  refine CW.seqJ 113 (fun (v10 : Bool) => [(1, .obj b1 ((Stream.c x).map .r)), (53, Bo v10)]) (fun v10 => v10 = (((((!(inR x.state 0 4)) || (!(isWord x.iss))) || (!(isWord x.una))) || (!(isWord x.rcv))) || decide ((x.wait.size : Int) > 200))) ?_ ?_
  ·refine CW.region ?_
   refine RW.v rfl (V.field rfl rfl rfl rfl (by decide) rfl) ?_
   refine RW.v rfl (V.loadPrim (d := I x.state) rfl rfl (.inl rfl) rfl rfl rfl) ?_
   refine RW.call rfl (impl_within_fn x.state 0 4) rfl (.cons (.one (.r .r)) (.cons (.one (.r .r)) (.cons (.one (.r .r)) (.nil)))) fun g11 => ?_
   refine RW.v rfl (V.not rfl rfl) ?_
   refine RW.v rfl (V.mv (d := Bo (!(inR x.state 0 4))) rfl rfl) ?_
   refine RW.gv rfl rfl rfl rfl (fun h12 => V.field rfl rfl rfl rfl (by decide) rfl) (fun h12 => ?_) (fun h12 => ?_)
   ·skip
    refine RW.gt rfl rfl rfl rfl (V.loadPrim (d := I x.iss) rfl rfl (.inl rfl) rfl rfl rfl) ?_
    refine RW.gcall rfl rfl rfl rfl (impl_isWord_fn x.iss) rfl (.cons (.one (.r .r)) (.nil)) fun g13 => ?_
    refine RW.gt rfl rfl rfl rfl (V.not rfl rfl) ?_
    refine RW.v rfl (V.pickF (d := Bo (!(isWord x.iss))) rfl rfl rfl) ?_
    refine RW.v rfl (V.mv (d := Bo (!(isWord x.iss))) rfl rfl) ?_
    refine RW.gv rfl rfl rfl rfl (fun h14 => V.field rfl rfl rfl rfl (by decide) rfl) (fun h14 => ?_) (fun h14 => ?_)
    ·skip
     refine RW.gt rfl rfl rfl rfl (V.loadPrim (d := I x.una) rfl rfl (.inl rfl) rfl rfl rfl) ?_
     refine RW.gcall rfl rfl rfl rfl (impl_isWord_fn x.una) rfl (.cons (.one (.r .r)) (.nil)) fun g15 => ?_
     refine RW.gt rfl rfl rfl rfl (V.not rfl rfl) ?_
     refine RW.v rfl (V.pickF (d := Bo (!(isWord x.una))) rfl rfl rfl) ?_
     refine RW.v rfl (V.mv (d := Bo (!(isWord x.una))) rfl rfl) ?_
     refine RW.gv rfl rfl rfl rfl (fun h16 => V.field rfl rfl rfl rfl (by decide) rfl) (fun h16 => ?_) (fun h16 => ?_)
     ·skip
      refine RW.gt rfl rfl rfl rfl (V.loadPrim (d := I x.rcv) rfl rfl (.inl rfl) rfl rfl rfl) ?_
      refine RW.gcall rfl rfl rfl rfl (impl_isWord_fn x.rcv) rfl (.cons (.one (.r .r)) (.nil)) fun g17 => ?_
      refine RW.gt rfl rfl rfl rfl (V.not rfl rfl) ?_
      refine RW.v rfl (V.pickF (d := Bo (!(isWord x.rcv))) rfl rfl rfl) ?_
      refine RW.v rfl (V.mv (d := Bo (!(isWord x.rcv))) rfl rfl) ?_
      refine RW.gv rfl rfl rfl rfl (fun h18 => V.field rfl rfl rfl rfl (by decide) rfl) (fun h18 => ?_) (fun h18 => ?_)
      ·skip
       refine RW.gt rfl rfl rfl rfl (V.loadPrim (d := S x.wait) rfl rfl (.inl rfl) rfl rfl rfl) ?_
       refine RW.gt rfl rfl rfl rfl (V.lenStr rfl (by kernel_rfl) rfl) ?_
       refine RW.gt rfl rfl rfl rfl (V.cmpInt rfl rfl rfl rfl) ?_
       refine RW.v rfl (V.pickF (d := Bo (decide ((x.wait.size : Int) > 200))) rfl rfl rfl) ?_
       refine RW.nil ?_
       exact ⟨_, by first | rfl | (simp_all; done) | (simp_all; omega) | grind, rfl, Le.c rfl <| Le.c rfl <| Le.e⟩
      ·skip
       refine RW.guardF rfl rfl rfl rfl ?_
       refine RW.guardF rfl rfl rfl rfl ?_
       refine RW.guardF rfl rfl rfl rfl ?_
       refine RW.v rfl (V.pickT (d := Bo true) rfl rfl rfl) ?_
       refine RW.nil ?_
       exact ⟨_, by first | rfl | (simp_all; done) | (simp_all; omega) | grind, rfl, Le.c rfl <| Le.c rfl <| Le.e⟩
     ·skip
      refine RW.guardF rfl rfl rfl rfl ?_
      refine RW.guardF rfl rfl rfl rfl ?_
      refine RW.guardF rfl rfl rfl rfl ?_
      refine RW.v rfl (V.pickT (d := Bo true) rfl rfl rfl) ?_
      refine RW.v rfl (V.mv (d := Bo true) rfl rfl) ?_
      refine RW.guardF rfl rfl rfl rfl ?_
      refine RW.guardF rfl rfl rfl rfl ?_
      refine RW.guardF rfl rfl rfl rfl ?_
      refine RW.guardF rfl rfl rfl rfl ?_
      refine RW.v rfl (V.pickT (d := Bo true) rfl rfl rfl) ?_
      refine RW.nil ?_
      exact ⟨_, by first | rfl | (simp_all; done) | (simp_all; omega) | grind, rfl, Le.c rfl <| Le.c rfl <| Le.e⟩
    ·skip
     refine RW.guardF rfl rfl rfl rfl ?_
     refine RW.guardF rfl rfl rfl rfl ?_
     refine RW.guardF rfl rfl rfl rfl ?_
     refine RW.v rfl (V.pickT (d := Bo true) rfl rfl rfl) ?_
     refine RW.v rfl (V.mv (d := Bo true) rfl rfl) ?_
     refine RW.guardF rfl rfl rfl rfl ?_
     refine RW.guardF rfl rfl rfl rfl ?_
     refine RW.guardF rfl rfl rfl rfl ?_
     refine RW.guardF rfl rfl rfl rfl ?_
     refine RW.v rfl (V.pickT (d := Bo true) rfl rfl rfl) ?_
     refine RW.v rfl (V.mv (d := Bo true) rfl rfl) ?_
     refine RW.guardF rfl rfl rfl rfl ?_
     refine RW.guardF rfl rfl rfl rfl ?_
     refine RW.guardF rfl rfl rfl rfl ?_
     refine RW.guardF rfl rfl rfl rfl ?_
     refine RW.v rfl (V.pickT (d := Bo true) rfl rfl rfl) ?_
     refine RW.nil ?_
     exact ⟨_, by first | rfl | (simp_all; done) | (simp_all; omega) | grind, rfl, Le.c rfl <| Le.c rfl <| Le.e⟩
   ·skip
    refine RW.guardF rfl rfl rfl rfl ?_
    refine RW.guardF rfl rfl rfl rfl ?_
    refine RW.guardF rfl rfl rfl rfl ?_
    refine RW.v rfl (V.pickT (d := Bo true) rfl rfl rfl) ?_
    refine RW.v rfl (V.mv (d := Bo true) rfl rfl) ?_
    refine RW.guardF rfl rfl rfl rfl ?_
    refine RW.guardF rfl rfl rfl rfl ?_
    refine RW.guardF rfl rfl rfl rfl ?_
    refine RW.guardF rfl rfl rfl rfl ?_
    refine RW.v rfl (V.pickT (d := Bo true) rfl rfl rfl) ?_
    refine RW.v rfl (V.mv (d := Bo true) rfl rfl) ?_
    refine RW.guardF rfl rfl rfl rfl ?_
    refine RW.guardF rfl rfl rfl rfl ?_
    refine RW.guardF rfl rfl rfl rfl ?_
    refine RW.guardF rfl rfl rfl rfl ?_
    refine RW.v rfl (V.pickT (d := Bo true) rfl rfl rfl) ?_
    refine RW.v rfl (V.mv (d := Bo true) rfl rfl) ?_
    refine RW.guardF rfl rfl rfl rfl ?_
    refine RW.guardF rfl rfl rfl rfl ?_
    refine RW.guardF rfl rfl rfl rfl ?_
    refine RW.guardF rfl rfl rfl rfl ?_
    refine RW.v rfl (V.pickT (d := Bo true) rfl rfl rfl) ?_
    refine RW.nil ?_
    exact ⟨_, by first | rfl | (simp_all; done) | (simp_all; omega) | grind, rfl, Le.c rfl <| Le.c rfl <| Le.e⟩
  ·intro v10 hv19
   refine CW.cond rfl (fun h20 => ?_) (fun h20 => ?_)
   ·skip
    refine CW.seq ?_
    refine CW.region ?_
    refine RW.v rfl (V.as (d := Bo false) rfl rfl) ?_
    refine RW.nil ?_
    refine CW.le [(2, Bo false)] rfl (Le.of rfl) ?_
    refine CW.ret ?_
    exact Post.one (RV.b rfl (by have ht : x.late.all lateOk = true := (by rw [← List.take_of_length_le hii]; exact hr); clear hr hdi; unfold streamOk emp; rw [ht]; first | (simp_all; done) | grind)) (AOs.a rfl AOs.e)
   ·skip
    refine CW.skip ?_
    refine CW.le [(1, .obj b1 ((Stream.c x).map .r))] rfl (Le.of rfl) ?_
    refine CW.seqJ 113 (fun (v21 : Bool) => [(1, .obj b1 ((Stream.c x).map .r)), (5, Bo v21)]) (fun v21 => v21 = (((inR x.fin 0 3) && ((x.fin != 2) || (x.sent == (x.wait.size : Int)))) && ((x.fin != 3) || (x.wait.toList == (⟨#[]⟩ : ByteArray).toList)))) ?_ ?_
    ·refine CW.region ?_
     refine RW.v rfl (V.field rfl rfl rfl rfl (by decide) rfl) ?_
     refine RW.v rfl (V.loadPrim (d := I x.fin) rfl rfl (.inl rfl) rfl rfl rfl) ?_
     refine RW.call rfl (impl_within_fn x.fin 0 3) rfl (.cons (.one (.r .r)) (.cons (.one (.r .r)) (.cons (.one (.r .r)) (.nil)))) fun g22 => ?_
     refine RW.v rfl (V.mv (d := Bo (inR x.fin 0 3)) rfl rfl) ?_
     refine RW.gv rfl rfl rfl rfl (fun h23 => V.field rfl rfl rfl rfl (by decide) rfl) (fun h23 => ?_) (fun h23 => ?_)
     ·skip
      refine RW.gt rfl rfl rfl rfl (V.loadPrim (d := I x.fin) rfl rfl (.inl rfl) rfl rfl rfl) ?_
      refine RW.gt rfl rfl rfl rfl (V.cmpInt rfl rfl rfl rfl) ?_
      refine RW.gt rfl rfl rfl rfl (V.mv (d := Bo (x.fin != 2)) rfl rfl) ?_
      refine RW.gv rfl rfl rfl rfl (fun h24 => V.field rfl rfl rfl rfl (by decide) rfl) (fun h24 => ?_) (fun h24 => ?_)
      ·skip
       refine RW.gt rfl rfl rfl rfl (V.loadPrim (d := I x.sent) rfl rfl (.inl rfl) rfl rfl rfl) ?_
       refine RW.gt rfl rfl rfl rfl (V.field rfl rfl rfl rfl (by decide) rfl) ?_
       refine RW.gt rfl rfl rfl rfl (V.loadPrim (d := S x.wait) rfl rfl (.inl rfl) rfl rfl rfl) ?_
       refine RW.gt rfl rfl rfl rfl (V.lenStr rfl (by kernel_rfl) rfl) ?_
       refine RW.gt rfl rfl rfl rfl (V.cmpInt rfl rfl rfl rfl) ?_
       refine RW.gt rfl rfl rfl rfl (V.pickF (d := Bo (x.sent == (x.wait.size : Int))) rfl rfl rfl) ?_
       refine RW.v rfl (V.pickT (d := Bo (x.sent == (x.wait.size : Int))) rfl rfl rfl) ?_
       refine RW.v rfl (V.mv (d := Bo (x.sent == (x.wait.size : Int))) rfl rfl) ?_
       refine RW.gv rfl rfl rfl rfl (fun h25 => V.field rfl rfl rfl rfl (by decide) rfl) (fun h25 => ?_) (fun h25 => ?_)
       ·skip
        refine RW.gt rfl rfl rfl rfl (V.loadPrim (d := I x.fin) rfl rfl (.inl rfl) rfl rfl rfl) ?_
        refine RW.gt rfl rfl rfl rfl (V.cmpInt rfl rfl rfl rfl) ?_
        refine RW.gt rfl rfl rfl rfl (V.mv (d := Bo (x.fin != 3)) rfl rfl) ?_
        refine RW.gv rfl rfl rfl rfl (fun h26 => V.field rfl rfl rfl rfl (by decide) rfl) (fun h26 => ?_) (fun h26 => ?_)
        ·skip
         refine RW.gt rfl rfl rfl rfl (V.loadPrim (d := S x.wait) rfl rfl (.inl rfl) rfl rfl rfl) ?_
         refine RW.gt rfl rfl rfl rfl (V.strCmp rfl rfl rfl rfl) ?_
         refine RW.gt rfl rfl rfl rfl (V.pickF (d := Bo (x.wait.toList == (⟨#[]⟩ : ByteArray).toList)) rfl rfl rfl) ?_
         refine RW.v rfl (V.pickT (d := Bo (x.wait.toList == (⟨#[]⟩ : ByteArray).toList)) rfl rfl rfl) ?_
         refine RW.v rfl (V.as (d := Bo (x.wait.toList == (⟨#[]⟩ : ByteArray).toList)) rfl rfl) ?_
         refine RW.nil ?_
         exact ⟨_, by first | rfl | (simp_all; done) | (simp_all; omega) | grind, rfl, Le.c rfl <| Le.c rfl <| Le.e⟩
        ·skip
         refine RW.guardF rfl rfl rfl rfl ?_
         refine RW.guardF rfl rfl rfl rfl ?_
         refine RW.gt rfl rfl rfl rfl (V.pickT (d := Bo true) rfl rfl rfl) ?_
         refine RW.v rfl (V.pickT (d := Bo true) rfl rfl rfl) ?_
         refine RW.v rfl (V.as (d := Bo true) rfl rfl) ?_
         refine RW.nil ?_
         exact ⟨_, by first | rfl | (simp_all; done) | (simp_all; omega) | grind, rfl, Le.c rfl <| Le.c rfl <| Le.e⟩
       ·skip
        refine RW.guardF rfl rfl rfl rfl ?_
        refine RW.guardF rfl rfl rfl rfl ?_
        refine RW.guardF rfl rfl rfl rfl ?_
        refine RW.guardU rfl rfl rfl rfl ?_
        refine RW.guardU rfl rfl rfl rfl ?_
        refine RW.guardU rfl rfl rfl rfl ?_
        refine RW.guardF rfl rfl rfl rfl ?_
        refine RW.v rfl (V.pickF (d := Bo false) rfl rfl rfl) ?_
        refine RW.v rfl (V.as (d := Bo false) rfl rfl) ?_
        refine RW.nil ?_
        exact ⟨_, by first | rfl | (simp_all; done) | (simp_all; omega) | grind, rfl, Le.c rfl <| Le.c rfl <| Le.e⟩
      ·skip
       refine RW.guardF rfl rfl rfl rfl ?_
       refine RW.guardF rfl rfl rfl rfl ?_
       refine RW.guardF rfl rfl rfl rfl ?_
       refine RW.guardF rfl rfl rfl rfl ?_
       refine RW.guardF rfl rfl rfl rfl ?_
       refine RW.gt rfl rfl rfl rfl (V.pickT (d := Bo true) rfl rfl rfl) ?_
       refine RW.v rfl (V.pickT (d := Bo true) rfl rfl rfl) ?_
       refine RW.v rfl (V.mv (d := Bo true) rfl rfl) ?_
       refine RW.gt rfl rfl rfl rfl (V.field rfl rfl rfl rfl (by decide) rfl) ?_
       refine RW.gt rfl rfl rfl rfl (V.loadPrim (d := I x.fin) rfl rfl (.inl rfl) rfl rfl rfl) ?_
       refine RW.gt rfl rfl rfl rfl (V.cmpInt rfl rfl rfl rfl) ?_
       refine RW.gt rfl rfl rfl rfl (V.mv (d := Bo (x.fin != 3)) rfl rfl) ?_
       refine RW.gv rfl rfl rfl rfl (fun h27 => V.field rfl rfl rfl rfl (by decide) rfl) (fun h27 => ?_) (fun h27 => ?_)
       ·skip
        refine RW.gt rfl rfl rfl rfl (V.loadPrim (d := S x.wait) rfl rfl (.inl rfl) rfl rfl rfl) ?_
        refine RW.gt rfl rfl rfl rfl (V.strCmp rfl rfl rfl rfl) ?_
        refine RW.gt rfl rfl rfl rfl (V.pickF (d := Bo (x.wait.toList == (⟨#[]⟩ : ByteArray).toList)) rfl rfl rfl) ?_
        refine RW.v rfl (V.pickT (d := Bo (x.wait.toList == (⟨#[]⟩ : ByteArray).toList)) rfl rfl rfl) ?_
        refine RW.v rfl (V.as (d := Bo (x.wait.toList == (⟨#[]⟩ : ByteArray).toList)) rfl rfl) ?_
        refine RW.nil ?_
        exact ⟨_, by first | rfl | (simp_all; done) | (simp_all; omega) | grind, rfl, Le.c rfl <| Le.c rfl <| Le.e⟩
       ·skip
        refine RW.guardF rfl rfl rfl rfl ?_
        refine RW.guardF rfl rfl rfl rfl ?_
        refine RW.gt rfl rfl rfl rfl (V.pickT (d := Bo true) rfl rfl rfl) ?_
        refine RW.v rfl (V.pickT (d := Bo true) rfl rfl rfl) ?_
        refine RW.v rfl (V.as (d := Bo true) rfl rfl) ?_
        refine RW.nil ?_
        exact ⟨_, by first | rfl | (simp_all; done) | (simp_all; omega) | grind, rfl, Le.c rfl <| Le.c rfl <| Le.e⟩
     ·skip
      refine RW.guardF rfl rfl rfl rfl ?_
      refine RW.guardF rfl rfl rfl rfl ?_
      refine RW.guardF rfl rfl rfl rfl ?_
      refine RW.guardU rfl rfl rfl rfl ?_
      refine RW.guardU rfl rfl rfl rfl ?_
      refine RW.guardU rfl rfl rfl rfl ?_
      refine RW.guardU rfl rfl rfl rfl ?_
      refine RW.guardU rfl rfl rfl rfl ?_
      refine RW.guardU rfl rfl rfl rfl ?_
      refine RW.guardF rfl rfl rfl rfl ?_
      refine RW.v rfl (V.pickF (d := Bo false) rfl rfl rfl) ?_
      refine RW.v rfl (V.mv (d := Bo false) rfl rfl) ?_
      refine RW.guardF rfl rfl rfl rfl ?_
      refine RW.guardF rfl rfl rfl rfl ?_
      refine RW.guardF rfl rfl rfl rfl ?_
      refine RW.guardF rfl rfl rfl rfl ?_
      refine RW.guardU rfl rfl rfl rfl ?_
      refine RW.guardU rfl rfl rfl rfl ?_
      refine RW.guardU rfl rfl rfl rfl ?_
      refine RW.guardF rfl rfl rfl rfl ?_
      refine RW.v rfl (V.pickF (d := Bo false) rfl rfl rfl) ?_
      refine RW.v rfl (V.as (d := Bo false) rfl rfl) ?_
      refine RW.nil ?_
      exact ⟨_, by first | rfl | (simp_all; done) | (simp_all; omega) | grind, rfl, Le.c rfl <| Le.c rfl <| Le.e⟩
    ·intro v21 hv28
     refine CW.seqJ 113 (fun (v29 : Bool) => [(1, .obj b1 ((Stream.c x).map .r)), (5, Bo v21), (6, Bo v29)]) (fun v29 => v29 = (decide ((x.in_.size : Int) ≤ 1000) && decide ((x.late.length : Int) ≤ 8))) ?_ ?_
     ·refine CW.region ?_
      refine RW.v rfl (V.field rfl rfl rfl rfl (by decide) rfl) ?_
      refine RW.v rfl (V.loadPrim (d := S x.in_) rfl rfl (.inl rfl) rfl rfl rfl) ?_
      refine RW.v rfl (V.lenStr rfl (by kernel_rfl) rfl) ?_
      refine RW.v rfl (V.cmpInt rfl rfl rfl rfl) ?_
      refine RW.v rfl (V.mv (d := Bo (decide ((x.in_.size : Int) ≤ 1000))) rfl rfl) ?_
      refine RW.gv rfl rfl rfl rfl (fun h30 => V.field rfl rfl rfl rfl (by decide) rfl) (fun h30 => ?_) (fun h30 => ?_)
      ·skip
       refine RW.gt rfl rfl rfl rfl (V.loadPrim (d := .r (sl 2 Late.c x.late)) rfl rfl (.inr ⟨_, rfl⟩) rfl rfl rfl) ?_
       refine RW.gt rfl rfl rfl rfl (V.lenT (n := x.late.length) rfl rfl rfl .r) ?_
       refine RW.gt rfl rfl rfl rfl (V.cmpInt rfl rfl rfl rfl) ?_
       refine RW.v rfl (V.pickT (d := Bo (decide ((x.late.length : Int) ≤ 8))) rfl rfl rfl) ?_
       refine RW.v rfl (V.as (d := Bo (decide ((x.late.length : Int) ≤ 8))) rfl rfl) ?_
       refine RW.nil ?_
       exact ⟨_, by first | rfl | (simp_all; done) | (simp_all; omega) | grind, rfl, Le.c rfl <| Le.c rfl <| Le.c rfl <| Le.e⟩
      ·skip
       refine RW.guardF rfl rfl rfl rfl ?_
       refine RW.guardF rfl rfl rfl rfl ?_
       refine RW.guardF rfl rfl rfl rfl ?_
       refine RW.v rfl (V.pickF (d := Bo false) rfl rfl rfl) ?_
       refine RW.v rfl (V.as (d := Bo false) rfl rfl) ?_
       refine RW.nil ?_
       exact ⟨_, by first | rfl | (simp_all; done) | (simp_all; omega) | grind, rfl, Le.c rfl <| Le.c rfl <| Le.c rfl <| Le.e⟩
     ·intro v29 hv31
      refine CW.seqJ 113 (fun (v32 : Bool) => [(2, Bo v32)]) (fun v32 => v32 = (((((inR x.sent 0 (mnI (x.wait.size : Int) 24)) && v21) && v29) && (inR x.due 0 1000000000)) && (inR x.times 0 12))) ?_ ?_
      ·refine CW.region ?_
       refine RW.v rfl (V.field rfl rfl rfl rfl (by decide) rfl) ?_
       refine RW.v rfl (V.loadPrim (d := I x.sent) rfl rfl (.inl rfl) rfl rfl rfl) ?_
       refine RW.v rfl (V.field rfl rfl rfl rfl (by decide) rfl) ?_
       refine RW.v rfl (V.loadPrim (d := S x.wait) rfl rfl (.inl rfl) rfl rfl rfl) ?_
       refine RW.v rfl (V.lenStr rfl (by kernel_rfl) rfl) ?_
       refine RW.v rfl (V.min2I rfl rfl rfl) ?_
       refine RW.call rfl (impl_within_fn x.sent 0 (mnI (x.wait.size : Int) 24)) rfl (.cons (.one (.r .r)) (.cons (.one (.r .r)) (.cons (.one (.r .r)) (.nil)))) fun g33 => ?_
       refine RW.v rfl (V.mv (d := Bo (inR x.sent 0 (mnI (x.wait.size : Int) 24))) rfl rfl) ?_
       refine RW.gv rfl rfl rfl rfl (fun h34 => V.mv (d := Bo v21) rfl rfl) (fun h34 => ?_) (fun h34 => ?_)
       ·skip
        refine RW.v rfl (V.pickT (d := Bo v21) rfl rfl rfl) ?_
        refine RW.v rfl (V.mv (d := Bo v21) rfl rfl) ?_
        refine RW.gv rfl rfl rfl rfl (fun h35 => V.mv (d := Bo v29) rfl rfl) (fun h35 => ?_) (fun h35 => ?_)
        ·skip
         refine RW.v rfl (V.pickT (d := Bo v29) rfl rfl rfl) ?_
         refine RW.v rfl (V.mv (d := Bo v29) rfl rfl) ?_
         refine RW.gv rfl rfl rfl rfl (fun h36 => V.field rfl rfl rfl rfl (by decide) rfl) (fun h36 => ?_) (fun h36 => ?_)
         ·skip
          refine RW.gt rfl rfl rfl rfl (V.loadPrim (d := I x.due) rfl rfl (.inl rfl) rfl rfl rfl) ?_
          refine RW.gcall rfl rfl rfl rfl (impl_within_fn x.due 0 1000000000) rfl (.cons (.one (.r .r)) (.cons (.one (.r .r)) (.cons (.one (.r .r)) (.nil)))) fun g37 => ?_
          refine RW.v rfl (V.pickT (d := Bo (inR x.due 0 1000000000)) rfl rfl rfl) ?_
          refine RW.v rfl (V.mv (d := Bo (inR x.due 0 1000000000)) rfl rfl) ?_
          refine RW.gv rfl rfl rfl rfl (fun h38 => V.field rfl rfl rfl rfl (by decide) rfl) (fun h38 => ?_) (fun h38 => ?_)
          ·skip
           refine RW.gt rfl rfl rfl rfl (V.loadPrim (d := I x.times) rfl rfl (.inl rfl) rfl rfl rfl) ?_
           refine RW.gcall rfl rfl rfl rfl (impl_within_fn x.times 0 12) rfl (.cons (.one (.r .r)) (.cons (.one (.r .r)) (.cons (.one (.r .r)) (.nil)))) fun g39 => ?_
           refine RW.v rfl (V.pickT (d := Bo (inR x.times 0 12)) rfl rfl rfl) ?_
           refine RW.v rfl (V.as (d := Bo (inR x.times 0 12)) rfl rfl) ?_
           refine RW.nil ?_
           exact ⟨_, by first | rfl | (simp_all; done) | (simp_all; omega) | grind, rfl, Le.c rfl <| Le.e⟩
          ·skip
           refine RW.guardF rfl rfl rfl rfl ?_
           refine RW.guardF rfl rfl rfl rfl ?_
           refine RW.v rfl (V.pickF (d := Bo false) rfl rfl rfl) ?_
           refine RW.v rfl (V.as (d := Bo false) rfl rfl) ?_
           refine RW.nil ?_
           exact ⟨_, by first | rfl | (simp_all; done) | (simp_all; omega) | grind, rfl, Le.c rfl <| Le.e⟩
         ·skip
          refine RW.guardF rfl rfl rfl rfl ?_
          refine RW.guardF rfl rfl rfl rfl ?_
          refine RW.v rfl (V.pickF (d := Bo false) rfl rfl rfl) ?_
          refine RW.v rfl (V.mv (d := Bo false) rfl rfl) ?_
          refine RW.guardF rfl rfl rfl rfl ?_
          refine RW.guardF rfl rfl rfl rfl ?_
          refine RW.guardF rfl rfl rfl rfl ?_
          refine RW.v rfl (V.pickF (d := Bo false) rfl rfl rfl) ?_
          refine RW.v rfl (V.as (d := Bo false) rfl rfl) ?_
          refine RW.nil ?_
          exact ⟨_, by first | rfl | (simp_all; done) | (simp_all; omega) | grind, rfl, Le.c rfl <| Le.e⟩
        ·skip
         refine RW.v rfl (V.pickF (d := Bo false) rfl rfl rfl) ?_
         refine RW.v rfl (V.mv (d := Bo false) rfl rfl) ?_
         refine RW.guardF rfl rfl rfl rfl ?_
         refine RW.guardF rfl rfl rfl rfl ?_
         refine RW.guardF rfl rfl rfl rfl ?_
         refine RW.v rfl (V.pickF (d := Bo false) rfl rfl rfl) ?_
         refine RW.v rfl (V.mv (d := Bo false) rfl rfl) ?_
         refine RW.guardF rfl rfl rfl rfl ?_
         refine RW.guardF rfl rfl rfl rfl ?_
         refine RW.guardF rfl rfl rfl rfl ?_
         refine RW.v rfl (V.pickF (d := Bo false) rfl rfl rfl) ?_
         refine RW.v rfl (V.as (d := Bo false) rfl rfl) ?_
         refine RW.nil ?_
         exact ⟨_, by first | rfl | (simp_all; done) | (simp_all; omega) | grind, rfl, Le.c rfl <| Le.e⟩
       ·skip
        refine RW.v rfl (V.pickF (d := Bo false) rfl rfl rfl) ?_
        refine RW.v rfl (V.mv (d := Bo false) rfl rfl) ?_
        refine RW.guardF rfl rfl rfl rfl ?_
        refine RW.v rfl (V.pickF (d := Bo false) rfl rfl rfl) ?_
        refine RW.v rfl (V.mv (d := Bo false) rfl rfl) ?_
        refine RW.guardF rfl rfl rfl rfl ?_
        refine RW.guardF rfl rfl rfl rfl ?_
        refine RW.guardF rfl rfl rfl rfl ?_
        refine RW.v rfl (V.pickF (d := Bo false) rfl rfl rfl) ?_
        refine RW.v rfl (V.mv (d := Bo false) rfl rfl) ?_
        refine RW.guardF rfl rfl rfl rfl ?_
        refine RW.guardF rfl rfl rfl rfl ?_
        refine RW.guardF rfl rfl rfl rfl ?_
        refine RW.v rfl (V.pickF (d := Bo false) rfl rfl rfl) ?_
        refine RW.v rfl (V.as (d := Bo false) rfl rfl) ?_
        refine RW.nil ?_
        exact ⟨_, by first | rfl | (simp_all; done) | (simp_all; omega) | grind, rfl, Le.c rfl <| Le.e⟩
      ·intro v32 hv40
       refine CW.ret ?_
       exact Post.one (RV.b rfl (by have ht : x.late.all lateOk = true := (by rw [← List.take_of_length_le hii]; exact hr); clear hr hdi; unfold streamOk emp; rw [ht]; first | (simp_all; done) | grind)) (AOs.a rfl AOs.e)
set_option maxHeartbeats 4000000 in
theorem impl_SegOk_fn (s : Seg) : Eng.Fn E.P 39 [.agg ((Seg.c s).map .r)] (.one (.one (.w (.v (.bool (segOk s)))))) [.agg ((Seg.c s).map .r)] := by
 refine Eng.Fn.intro (E := E) (rvs := [.tmp 2]) Try.func39 rfl rfl rfl (by simp [outSlots, moved, rvSlot, sl]) ?_
 intro B g bo
 refine CW.le [(0, .agg ((Seg.c s).map .r))] rfl (Le.of rfl) ?_
 refine CW.seq ?_
 refine CW.region ?_
 refine RW.box (ds := ((Seg.c s).map .r)) rfl rfl rfl fun b1 => ?_
 refine RW.v rfl (V.as (d := Bo false) rfl rfl) ?_
 refine RW.nil ?_
 refine CW.le [(1, .obj b1 ((Seg.c s).map .r))] rfl (Le.of rfl) ?_
 refine CW.seq ?_
 refine CW.seqJ 45 (fun (v2 : Bool) => [(1, .obj b1 ((Seg.c s).map .r)), (24, Bo v2)]) (fun v2 => v2 = ((((!(isWord s.num)) || (!(isWord s.ack))) || (!(inR s.flags 0 7))) || decide ((s.body.size : Int) > 8))) ?_ ?_
 ·refine CW.region ?_
  refine RW.v rfl (V.field rfl rfl rfl rfl (by decide) rfl) ?_
  refine RW.v rfl (V.loadPrim (d := I s.num) rfl rfl (.inl rfl) rfl rfl rfl) ?_
  refine RW.call rfl (impl_isWord_fn s.num) rfl (.cons (.one (.r .r)) (.nil)) fun g3 => ?_
  refine RW.v rfl (V.not rfl rfl) ?_
  refine RW.v rfl (V.mv (d := Bo (!(isWord s.num))) rfl rfl) ?_
  refine RW.gv rfl rfl rfl rfl (fun h4 => V.field rfl rfl rfl rfl (by decide) rfl) (fun h4 => ?_) (fun h4 => ?_)
  ·skip
   refine RW.gt rfl rfl rfl rfl (V.loadPrim (d := I s.ack) rfl rfl (.inl rfl) rfl rfl rfl) ?_
   refine RW.gcall rfl rfl rfl rfl (impl_isWord_fn s.ack) rfl (.cons (.one (.r .r)) (.nil)) fun g5 => ?_
   refine RW.gt rfl rfl rfl rfl (V.not rfl rfl) ?_
   refine RW.v rfl (V.pickF (d := Bo (!(isWord s.ack))) rfl rfl rfl) ?_
   refine RW.v rfl (V.mv (d := Bo (!(isWord s.ack))) rfl rfl) ?_
   refine RW.gv rfl rfl rfl rfl (fun h6 => V.field rfl rfl rfl rfl (by decide) rfl) (fun h6 => ?_) (fun h6 => ?_)
   ·skip
    refine RW.gt rfl rfl rfl rfl (V.loadPrim (d := I s.flags) rfl rfl (.inl rfl) rfl rfl rfl) ?_
    refine RW.gcall rfl rfl rfl rfl (impl_within_fn s.flags 0 7) rfl (.cons (.one (.r .r)) (.cons (.one (.r .r)) (.cons (.one (.r .r)) (.nil)))) fun g7 => ?_
    refine RW.gt rfl rfl rfl rfl (V.not rfl rfl) ?_
    refine RW.v rfl (V.pickF (d := Bo (!(inR s.flags 0 7))) rfl rfl rfl) ?_
    refine RW.v rfl (V.mv (d := Bo (!(inR s.flags 0 7))) rfl rfl) ?_
    refine RW.gv rfl rfl rfl rfl (fun h8 => V.field rfl rfl rfl rfl (by decide) rfl) (fun h8 => ?_) (fun h8 => ?_)
    ·skip
     refine RW.gt rfl rfl rfl rfl (V.loadPrim (d := S s.body) rfl rfl (.inl rfl) rfl rfl rfl) ?_
     refine RW.gt rfl rfl rfl rfl (V.lenStr rfl (by kernel_rfl) rfl) ?_
     refine RW.gt rfl rfl rfl rfl (V.cmpInt rfl rfl rfl rfl) ?_
     refine RW.v rfl (V.pickF (d := Bo (decide ((s.body.size : Int) > 8))) rfl rfl rfl) ?_
     refine RW.nil ?_
     exact ⟨_, by first | rfl | (simp_all; done) | (simp_all; omega) | grind, rfl, Le.c rfl <| Le.c rfl <| Le.e⟩
    ·skip
     refine RW.guardF rfl rfl rfl rfl ?_
     refine RW.guardF rfl rfl rfl rfl ?_
     refine RW.guardF rfl rfl rfl rfl ?_
     refine RW.v rfl (V.pickT (d := Bo true) rfl rfl rfl) ?_
     refine RW.nil ?_
     exact ⟨_, by first | rfl | (simp_all; done) | (simp_all; omega) | grind, rfl, Le.c rfl <| Le.c rfl <| Le.e⟩
   ·skip
    refine RW.guardF rfl rfl rfl rfl ?_
    refine RW.guardF rfl rfl rfl rfl ?_
    refine RW.guardF rfl rfl rfl rfl ?_
    refine RW.v rfl (V.pickT (d := Bo true) rfl rfl rfl) ?_
    refine RW.v rfl (V.mv (d := Bo true) rfl rfl) ?_
    refine RW.guardF rfl rfl rfl rfl ?_
    refine RW.guardF rfl rfl rfl rfl ?_
    refine RW.guardF rfl rfl rfl rfl ?_
    refine RW.guardF rfl rfl rfl rfl ?_
    refine RW.v rfl (V.pickT (d := Bo true) rfl rfl rfl) ?_
    refine RW.nil ?_
    exact ⟨_, by first | rfl | (simp_all; done) | (simp_all; omega) | grind, rfl, Le.c rfl <| Le.c rfl <| Le.e⟩
  ·skip
   refine RW.guardF rfl rfl rfl rfl ?_
   refine RW.guardF rfl rfl rfl rfl ?_
   refine RW.guardF rfl rfl rfl rfl ?_
   refine RW.v rfl (V.pickT (d := Bo true) rfl rfl rfl) ?_
   refine RW.v rfl (V.mv (d := Bo true) rfl rfl) ?_
   refine RW.guardF rfl rfl rfl rfl ?_
   refine RW.guardF rfl rfl rfl rfl ?_
   refine RW.guardF rfl rfl rfl rfl ?_
   refine RW.guardF rfl rfl rfl rfl ?_
   refine RW.v rfl (V.pickT (d := Bo true) rfl rfl rfl) ?_
   refine RW.v rfl (V.mv (d := Bo true) rfl rfl) ?_
   refine RW.guardF rfl rfl rfl rfl ?_
   refine RW.guardF rfl rfl rfl rfl ?_
   refine RW.guardF rfl rfl rfl rfl ?_
   refine RW.guardF rfl rfl rfl rfl ?_
   refine RW.v rfl (V.pickT (d := Bo true) rfl rfl rfl) ?_
   refine RW.nil ?_
   exact ⟨_, by first | rfl | (simp_all; done) | (simp_all; omega) | grind, rfl, Le.c rfl <| Le.c rfl <| Le.e⟩
 ·intro v2 hv9
  refine CW.cond rfl (fun h10 => ?_) (fun h10 => ?_)
  ·skip
   refine CW.seq ?_
   refine CW.region ?_
   refine RW.v rfl (V.as (d := Bo false) rfl rfl) ?_
   refine RW.nil ?_
   refine CW.le [(2, Bo false)] rfl (Le.of rfl) ?_
   refine CW.ret ?_
   exact Post.one (RV.b rfl (by by_cases hf : inR s.flags 0 7 = true; (have hb := bits_in hf; unfold segOk emp; first | (simp_all; done) | grind); (unfold segOk; first | (simp_all; done) | grind))) (AOs.a rfl AOs.e)
  ·skip
   refine CW.skip ?_
   refine CW.le [(1, .obj b1 ((Seg.c s).map .r))] rfl (Le.of rfl) ?_
   refine CW.seqJ 45 (fun (v11 : Bool) => [(2, Bo v11)]) (fun v11 => v11 = (((s.body.toList == (⟨#[]⟩ : ByteArray).toList) || ((andI s.flags 1) == 0)) && ((s.ack == 0) || ((andI s.flags 2) != 0)))) ?_ ?_
   ·refine CW.region ?_
    refine RW.v rfl (V.field rfl rfl rfl rfl (by decide) rfl) ?_
    refine RW.v rfl (V.loadPrim (d := S s.body) rfl rfl (.inl rfl) rfl rfl rfl) ?_
    refine RW.v rfl (V.strCmp rfl rfl rfl rfl) ?_
    refine RW.v rfl (V.mv (d := Bo (s.body.toList == (⟨#[]⟩ : ByteArray).toList)) rfl rfl) ?_
    refine RW.gv rfl rfl rfl rfl (fun h12 => V.field rfl rfl rfl rfl (by decide) rfl) (fun h12 => ?_) (fun h12 => ?_)
    ·skip
     refine RW.gt rfl rfl rfl rfl (V.loadPrim (d := I s.flags) rfl rfl (.inl rfl) rfl rfl rfl) ?_
     refine RW.gt rfl rfl rfl rfl (V.bits rfl rfl rfl rfl) ?_
     refine RW.gt rfl rfl rfl rfl (V.cmpInt rfl rfl rfl rfl) ?_
     refine RW.v rfl (V.pickF (d := Bo ((andI s.flags 1) == 0)) rfl rfl rfl) ?_
     refine RW.v rfl (V.mv (d := Bo ((andI s.flags 1) == 0)) rfl rfl) ?_
     refine RW.gv rfl rfl rfl rfl (fun h13 => V.field rfl rfl rfl rfl (by decide) rfl) (fun h13 => ?_) (fun h13 => ?_)
     ·skip
      refine RW.gt rfl rfl rfl rfl (V.loadPrim (d := I s.ack) rfl rfl (.inl rfl) rfl rfl rfl) ?_
      refine RW.gt rfl rfl rfl rfl (V.cmpInt rfl rfl rfl rfl) ?_
      refine RW.gt rfl rfl rfl rfl (V.mv (d := Bo (s.ack == 0)) rfl rfl) ?_
      refine RW.gv rfl rfl rfl rfl (fun h14 => V.field rfl rfl rfl rfl (by decide) rfl) (fun h14 => ?_) (fun h14 => ?_)
      ·skip
       refine RW.gt rfl rfl rfl rfl (V.loadPrim (d := I s.flags) rfl rfl (.inl rfl) rfl rfl rfl) ?_
       refine RW.gt rfl rfl rfl rfl (V.bits rfl rfl rfl rfl) ?_
       refine RW.gt rfl rfl rfl rfl (V.cmpInt rfl rfl rfl rfl) ?_
       refine RW.gt rfl rfl rfl rfl (V.pickF (d := Bo ((andI s.flags 2) != 0)) rfl rfl rfl) ?_
       refine RW.v rfl (V.pickT (d := Bo ((andI s.flags 2) != 0)) rfl rfl rfl) ?_
       refine RW.v rfl (V.as (d := Bo ((andI s.flags 2) != 0)) rfl rfl) ?_
       refine RW.nil ?_
       exact ⟨_, by first | rfl | (simp_all; done) | (simp_all; omega) | grind, rfl, Le.c rfl <| Le.e⟩
      ·skip
       refine RW.guardF rfl rfl rfl rfl ?_
       refine RW.guardF rfl rfl rfl rfl ?_
       refine RW.guardF rfl rfl rfl rfl ?_
       refine RW.gt rfl rfl rfl rfl (V.pickT (d := Bo true) rfl rfl rfl) ?_
       refine RW.v rfl (V.pickT (d := Bo true) rfl rfl rfl) ?_
       refine RW.v rfl (V.as (d := Bo true) rfl rfl) ?_
       refine RW.nil ?_
       exact ⟨_, by first | rfl | (simp_all; done) | (simp_all; omega) | grind, rfl, Le.c rfl <| Le.e⟩
     ·skip
      refine RW.guardF rfl rfl rfl rfl ?_
      refine RW.guardF rfl rfl rfl rfl ?_
      refine RW.guardF rfl rfl rfl rfl ?_
      refine RW.guardU rfl rfl rfl rfl ?_
      refine RW.guardU rfl rfl rfl rfl ?_
      refine RW.guardU rfl rfl rfl rfl ?_
      refine RW.guardU rfl rfl rfl rfl ?_
      refine RW.guardF rfl rfl rfl rfl ?_
      refine RW.v rfl (V.pickF (d := Bo false) rfl rfl rfl) ?_
      refine RW.v rfl (V.as (d := Bo false) rfl rfl) ?_
      refine RW.nil ?_
      exact ⟨_, by first | rfl | (simp_all; done) | (simp_all; omega) | grind, rfl, Le.c rfl <| Le.e⟩
    ·skip
     refine RW.guardF rfl rfl rfl rfl ?_
     refine RW.guardF rfl rfl rfl rfl ?_
     refine RW.guardF rfl rfl rfl rfl ?_
     refine RW.v rfl (V.pickT (d := Bo true) rfl rfl rfl) ?_
     refine RW.v rfl (V.mv (d := Bo true) rfl rfl) ?_
     refine RW.gt rfl rfl rfl rfl (V.field rfl rfl rfl rfl (by decide) rfl) ?_
     refine RW.gt rfl rfl rfl rfl (V.loadPrim (d := I s.ack) rfl rfl (.inl rfl) rfl rfl rfl) ?_
     refine RW.gt rfl rfl rfl rfl (V.cmpInt rfl rfl rfl rfl) ?_
     refine RW.gt rfl rfl rfl rfl (V.mv (d := Bo (s.ack == 0)) rfl rfl) ?_
     refine RW.gv rfl rfl rfl rfl (fun h15 => V.field rfl rfl rfl rfl (by decide) rfl) (fun h15 => ?_) (fun h15 => ?_)
     ·skip
      refine RW.gt rfl rfl rfl rfl (V.loadPrim (d := I s.flags) rfl rfl (.inl rfl) rfl rfl rfl) ?_
      refine RW.gt rfl rfl rfl rfl (V.bits rfl rfl rfl rfl) ?_
      refine RW.gt rfl rfl rfl rfl (V.cmpInt rfl rfl rfl rfl) ?_
      refine RW.gt rfl rfl rfl rfl (V.pickF (d := Bo ((andI s.flags 2) != 0)) rfl rfl rfl) ?_
      refine RW.v rfl (V.pickT (d := Bo ((andI s.flags 2) != 0)) rfl rfl rfl) ?_
      refine RW.v rfl (V.as (d := Bo ((andI s.flags 2) != 0)) rfl rfl) ?_
      refine RW.nil ?_
      exact ⟨_, by first | rfl | (simp_all; done) | (simp_all; omega) | grind, rfl, Le.c rfl <| Le.e⟩
     ·skip
      refine RW.guardF rfl rfl rfl rfl ?_
      refine RW.guardF rfl rfl rfl rfl ?_
      refine RW.guardF rfl rfl rfl rfl ?_
      refine RW.gt rfl rfl rfl rfl (V.pickT (d := Bo true) rfl rfl rfl) ?_
      refine RW.v rfl (V.pickT (d := Bo true) rfl rfl rfl) ?_
      refine RW.v rfl (V.as (d := Bo true) rfl rfl) ?_
      refine RW.nil ?_
      exact ⟨_, by first | rfl | (simp_all; done) | (simp_all; omega) | grind, rfl, Le.c rfl <| Le.e⟩
   ·intro v11 hv16
    refine CW.ret ?_
    exact Post.one (RV.b rfl (by by_cases hf : inR s.flags 0 7 = true; (have hb := bits_in hf; unfold segOk emp; first | (simp_all; done) | grind); (unfold segOk; first | (simp_all; done) | grind))) (AOs.a rfl AOs.e)
set_option maxHeartbeats 4000000 in
theorem __impl_Stream__reset_fn (x : Stream) : Eng.Fn E.P 70 [.ob ((Stream.c x).map .w)] (.tup []) [.ob ((Stream.c (resetN x)).map .w)] := by
 refine Eng.Fn.intro (E := E) (rvs := []) Try.func70 rfl rfl rfl (by simp [outSlots, moved, rvSlot, sl]) ?_
 intro B g bo
 refine CW.le [(0, .obj (bo 0) [I x.state, I x.iss, I x.una, I x.rcv, S x.wait, I x.sent, I x.fin, Bo x.peerFin, S x.in_, .w (sl 2 Late.c x.late) (g 0 9), Bo x.owe, I x.due, I x.times])] rfl (Le.of rfl) ?_
 refine CW.region ?_
 refine RW.v rfl (V.mv (d := .pt 0 (bo 0) 0) rfl rfl) ?_
 refine RW.v rfl (V.mv (d := .pt 0 (bo 0) 0) rfl rfl) ?_
 refine RW.v rfl (V.nilP rfl rfl) ?_
 refine RW.v rfl (V.field rfl rfl rfl rfl (by decide) rfl) ?_
 refine RW.store (d := I 0) rfl rfl rfl rfl rfl rfl rfl (Nat.le_of_ble_eq_true rfl) rfl rfl ?_
 refine RW.v rfl (V.nilP rfl rfl) ?_
 refine RW.v rfl (V.field rfl rfl rfl rfl (by decide) rfl) ?_
 refine RW.store (d := I 0) rfl rfl rfl rfl rfl rfl rfl (Nat.le_of_ble_eq_true rfl) rfl rfl ?_
 refine RW.nil ?_
 exact Post.tup (by decide) RVs.e (AOs.obE (f := fun e => (Stream.c e).map .w) (e' := (⟨x.state, x.iss, x.una, x.rcv, x.wait, x.sent, x.fin, x.peerFin, x.in_, x.late, x.owe, 0, 0⟩ : Stream)) rfl (DT.v (DT.v (DT.v (DT.v (DT.v (DT.v (DT.v (DT.v (DT.v (DT.w (DT.v (DT.v (DT.v DT.e))))))))))))) (by rfl) AOs.e)
set_option maxHeartbeats 4000000 in
theorem __impl_Stream__acked_fn (x : Stream) (a : Int) (hx : sentOk x) : Eng.Fn E.P 91 [.ob ((Stream.c x).map .w), .one (.r (.v (.int .i64 a)))] (.tup []) [.ob ((Stream.c (ackedN x a)).map .w), .one (.r (.v (.int .i64 a)))] := by
 refine Eng.Fn.intro (E := E) (rvs := []) Try.func91 rfl rfl rfl (by simp [outSlots, moved, rvSlot, sl]) ?_
 intro B g bo
 refine CW.le [(0, .obj (bo 0) [I x.state, I x.iss, I x.una, I x.rcv, S x.wait, I x.sent, I x.fin, Bo x.peerFin, S x.in_, .w (sl 2 Late.c x.late) (g 0 9), Bo x.owe, I x.due, I x.times]), (1, I a)] rfl (Le.of rfl) ?_
 refine CW.seq ?_
 refine CW.region ?_
 refine RW.v rfl (V.mv (d := .pt 0 (bo 0) 0) rfl rfl) ?_
 refine RW.v rfl (V.nilP rfl rfl) ?_
 refine RW.v rfl (V.field rfl rfl rfl rfl (by decide) rfl) ?_
 refine RW.v rfl (V.loadPrim (d := I x.una) rfl rfl (.inl rfl) rfl rfl rfl) ?_
 refine RW.v rfl (V.mv (d := I a) rfl rfl) ?_
 refine RW.call rfl (impl_Gap_fn x.una a) rfl (.cons (.one (.r .r)) (.cons (.one (.r .r)) (.nil))) fun g1 => ?_
 refine RW.v rfl (V.as (d := I (gap x.una a)) rfl rfl) ?_
 refine RW.nil ?_
 refine CW.le [(0, .obj (bo 0) [I x.state, I x.iss, I x.una, I x.rcv, S x.wait, I x.sent, I x.fin, Bo x.peerFin, S x.in_, .w (sl 2 Late.c x.late) (g 0 9), Bo x.owe, I x.due, I x.times]), (1, I a), (4, I (gap x.una a))] rfl (Le.of rfl) ?_
 refine CW.seq ?_
 refine CW.seq ?_
 refine CW.drawn (by kernel_rfl) ?_
 refine RQ.v rfl (V.mv (d := I (gap x.una a)) rfl rfl) ?_
 refine RQ.v rfl (V.mv (d := .pt 0 (bo 0) 0) rfl rfl) ?_
 refine RQ.v rfl (V.nilP rfl rfl) ?_
 refine RQ.v rfl (V.field rfl rfl rfl rfl (by decide) rfl) ?_
 refine RQ.v rfl (V.loadPrim (d := I x.sent) rfl rfl (.inl rfl) rfl rfl rfl) ?_
 refine RQ.v rfl (V.mv (d := .pt 0 (bo 0) 0) rfl rfl) ?_
 refine RQ.v rfl (V.nilP rfl rfl) ?_
 refine RQ.v rfl (V.field rfl rfl rfl rfl (by decide) rfl) ?_
 refine RQ.v rfl (V.loadPrim (d := I x.fin) rfl rfl (.inl rfl) rfl rfl rfl) ?_
 refine RQ.v rfl (V.cmpInt rfl rfl rfl rfl) ?_
 refine RQ.cons rfl (QOK.call (impl_flag_fn (x.fin == 2)) rfl (.cons (.one (.r .r)) (.nil)) ?_)
 refine RQ.v rfl (V.arInt rfl rfl rfl rfl) ?_
 refine RQ.cons rfl (QOK.call (impl_within_fn (gap x.una a) 1 (IntKind.i64.wrap (x.sent + (flagN (x.fin == 2))))) rfl (.cons (.one (.r .r)) (.cons (.one (.r .r)) (.cons (.one (.r .r)) (.nil)))) ?_)
 refine RQ.v rfl (V.not rfl rfl) ?_
 refine RQ.nil ?_
 refine CW.le [(0, .obj (bo 0) [I x.state, I x.iss, I x.una, I x.rcv, S x.wait, I x.sent, I x.fin, Bo x.peerFin, S x.in_, .w (sl 2 Late.c x.late) (g 0 9), Bo x.owe, I x.due, I x.times]), (1, I a), (4, I (gap x.una a)), (25, Bo (!(inR (gap x.una a) 1 (IntKind.i64.wrap (x.sent + (flagN (x.fin == 2)))))))] rfl (Le.of rfl) ?_
 refine CW.cond rfl (fun h2 => ?_) (fun h2 => ?_)
 ·skip
  refine CW.ret ?_
  exact Post.tup (by decide) RVs.e (AOs.obE (f := fun e => (Stream.c e).map .w) (e' := x) rfl (DT.v (DT.v (DT.v (DT.v (DT.v (DT.v (DT.v (DT.v (DT.v (DT.w (DT.v (DT.v (DT.v DT.e))))))))))))) (by first | (simp_all [ackedN]; done) | (unfold ackedN; simp_all; done) | (unfold ackedN; grind)) (AOs.r AOs.e))
 ·skip
  refine CW.skip ?_
  refine CW.le [(0, .obj (bo 0) [I x.state, I x.iss, I x.una, I x.rcv, S x.wait, I x.sent, I x.fin, Bo x.peerFin, S x.in_, .w (sl 2 Late.c x.late) (g 0 9), Bo x.owe, I x.due, I x.times]), (1, I a), (4, I (gap x.una a))] rfl (Le.of rfl) ?_
  refine CW.seq ?_
  refine CW.seq ?_
  refine CW.region ?_
  refine RW.v rfl (V.mv (d := I (gap x.una a)) rfl rfl) ?_
  refine RW.v rfl (V.mv (d := .pt 0 (bo 0) 0) rfl rfl) ?_
  refine RW.v rfl (V.nilP rfl rfl) ?_
  refine RW.v rfl (V.field rfl rfl rfl rfl (by decide) rfl) ?_
  refine RW.v rfl (V.loadPrim (d := I x.sent) rfl rfl (.inl rfl) rfl rfl rfl) ?_
  refine RW.v rfl (V.cmpInt rfl rfl rfl rfl) ?_
  refine RW.nil ?_
  refine CW.le [(0, .obj (bo 0) [I x.state, I x.iss, I x.una, I x.rcv, S x.wait, I x.sent, I x.fin, Bo x.peerFin, S x.in_, .w (sl 2 Late.c x.late) (g 0 9), Bo x.owe, I x.due, I x.times]), (1, I a), (4, I (gap x.una a)), (31, Bo (decide ((gap x.una a) > x.sent)))] rfl (Le.of rfl) ?_
  refine CW.cond rfl (fun h3 => ?_) (fun h3 => ?_)
  ·skip
   refine CW.region ?_
   refine RW.v rfl (V.mv (d := .pt 0 (bo 0) 0) rfl rfl) ?_
   refine RW.v rfl (V.nilP rfl rfl) ?_
   refine RW.v rfl (V.field rfl rfl rfl rfl (by decide) rfl) ?_
   refine RW.store (d := I 3) rfl rfl rfl rfl rfl rfl rfl (Nat.le_of_ble_eq_true rfl) rfl rfl ?_
   refine RW.nil ?_
   refine CW.le [(0, .obj (bo 0) [I x.state, I x.iss, I x.una, I x.rcv, S x.wait, I x.sent, I 3, Bo x.peerFin, S x.in_, .w (sl 2 Late.c x.late) (g 0 9), Bo x.owe, I x.due, I x.times]), (1, I a), (4, I (gap x.una a))] rfl (Le.of rfl) ?_
   refine CW.seq ?_
   refine CW.region ?_
   refine RW.v rfl (V.mv (d := I (gap x.una a)) rfl rfl) ?_
   refine RW.v rfl (V.mv (d := .pt 0 (bo 0) 0) rfl rfl) ?_
   refine RW.v rfl (V.nilP rfl rfl) ?_
   refine RW.v rfl (V.field rfl rfl rfl rfl (by decide) rfl) ?_
   refine RW.v rfl (V.loadPrim (d := I x.sent) rfl rfl (.inl rfl) rfl rfl rfl) ?_
   refine RW.v rfl (V.min2I rfl rfl rfl) ?_
   refine RW.v rfl (V.as (d := I (mnI (gap x.una a) x.sent)) rfl rfl) ?_
   refine RW.nil ?_
   refine CW.le [(0, .obj (bo 0) [I x.state, I x.iss, I x.una, I x.rcv, S x.wait, I x.sent, I 3, Bo x.peerFin, S x.in_, .w (sl 2 Late.c x.late) (g 0 9), Bo x.owe, I x.due, I x.times]), (1, I a), (5, I (mnI (gap x.una a) x.sent))] rfl (Le.of rfl) ?_
   refine CW.seq ?_
   refine CW.region ?_
   refine RW.v rfl (V.mv (d := .pt 0 (bo 0) 0) rfl rfl) ?_
   refine RW.v rfl (V.mv (d := .pt 0 (bo 0) 0) rfl rfl) ?_
   refine RW.v rfl (V.nilP rfl rfl) ?_
   refine RW.v rfl (V.field rfl rfl rfl rfl (by decide) rfl) ?_
   refine RW.v rfl (V.loadPrim (d := S x.wait) rfl rfl (.inl rfl) rfl rfl rfl) ?_
   refine RW.v rfl (V.mv (d := I (mnI (gap x.una a) x.sent)) rfl rfl) ?_
   refine RW.v rfl (V.strSlice (l := (mnI (gap x.una a) x.sent)) (h := (x.wait.size : Int)) rfl (by kernel_rfl) rfl (.inr ⟨_, _, rfl, rfl⟩) (.inl ⟨rfl, rfl⟩) (ack_slice hx (by have := h2; simp at this; exact this))) ?_
   refine RW.v rfl (V.nilP rfl rfl) ?_
   refine RW.v rfl (V.field rfl rfl rfl rfl (by decide) rfl) ?_
   refine RW.store (d := S (x.wait.extract (mnI (gap x.una a) x.sent).toNat (x.wait.size : Int).toNat)) rfl rfl rfl rfl rfl rfl rfl (Nat.le_of_ble_eq_true rfl) rfl rfl ?_
   refine RW.nil ?_
   refine CW.le [(0, .obj (bo 0) [I x.state, I x.iss, I x.una, I x.rcv, S (x.wait.extract (mnI (gap x.una a) x.sent).toNat (x.wait.size : Int).toNat), I x.sent, I 3, Bo x.peerFin, S x.in_, .w (sl 2 Late.c x.late) (g 0 9), Bo x.owe, I x.due, I x.times]), (1, I a), (5, I (mnI (gap x.una a) x.sent))] rfl (Le.of rfl) ?_
   refine CW.seq ?_
   refine CW.region ?_
   refine RW.v rfl (V.mv (d := .pt 0 (bo 0) 0) rfl rfl) ?_
   refine RW.v rfl (V.nilP rfl rfl) ?_
   refine RW.v rfl (V.field rfl rfl rfl rfl (by decide) rfl) ?_
   refine RW.v rfl (V.loadPrim (d := I x.sent) rfl rfl (.inl rfl) rfl rfl rfl) ?_
   refine RW.v rfl (V.mv (d := I (mnI (gap x.una a) x.sent)) rfl rfl) ?_
   refine RW.v rfl (V.arInt rfl rfl rfl rfl) ?_
   refine RW.v rfl (V.nilP rfl rfl) ?_
   refine RW.v rfl (V.field rfl rfl rfl rfl (by decide) rfl) ?_
   refine RW.store (d := I (IntKind.i64.wrap (x.sent - (mnI (gap x.una a) x.sent)))) rfl rfl rfl rfl rfl rfl rfl (Nat.le_of_ble_eq_true rfl) rfl rfl ?_
   refine RW.nil ?_
   refine CW.le [(0, .obj (bo 0) [I x.state, I x.iss, I x.una, I x.rcv, S (x.wait.extract (mnI (gap x.una a) x.sent).toNat (x.wait.size : Int).toNat), I (IntKind.i64.wrap (x.sent - (mnI (gap x.una a) x.sent))), I 3, Bo x.peerFin, S x.in_, .w (sl 2 Late.c x.late) (g 0 9), Bo x.owe, I x.due, I x.times]), (1, I a)] rfl (Le.of rfl) ?_
   refine CW.seq ?_
   refine CW.region ?_
   refine RW.v rfl (V.mv (d := .pt 0 (bo 0) 0) rfl rfl) ?_
   refine RW.v rfl (V.mv (d := I a) rfl rfl) ?_
   refine RW.v rfl (V.nilP rfl rfl) ?_
   refine RW.v rfl (V.field rfl rfl rfl rfl (by decide) rfl) ?_
   refine RW.store (d := I a) rfl rfl rfl rfl rfl rfl rfl (Nat.le_of_ble_eq_true rfl) rfl rfl ?_
   refine RW.nil ?_
   refine CW.le [(0, .obj (bo 0) [I x.state, I x.iss, I a, I x.rcv, S (x.wait.extract (mnI (gap x.una a) x.sent).toNat (x.wait.size : Int).toNat), I (IntKind.i64.wrap (x.sent - (mnI (gap x.una a) x.sent))), I 3, Bo x.peerFin, S x.in_, .w (sl 2 Late.c x.late) (g 0 9), Bo x.owe, I x.due, I x.times])] rfl (Le.of rfl) ?_
   refine CW.region ?_
   refine RW.v rfl (V.mv (d := .pt 0 (bo 0) 0) rfl rfl) ?_
   refine RW.v rfl (V.nilP rfl rfl) ?_
   refine RW.v rfl (V.field rfl rfl rfl rfl (by decide) rfl) ?_
   refine RW.store (d := I 0) rfl rfl rfl rfl rfl rfl rfl (Nat.le_of_ble_eq_true rfl) rfl rfl ?_
   refine RW.nil ?_
   exact Post.tup (by decide) RVs.e (AOs.obE (f := fun e => (Stream.c e).map .w) (e' := (⟨x.state, x.iss, a, x.rcv, (x.wait.extract (mnI (gap x.una a) x.sent).toNat (x.wait.size : Int).toNat), (IntKind.i64.wrap (x.sent - (mnI (gap x.una a) x.sent))), 3, x.peerFin, x.in_, x.late, x.owe, x.due, 0⟩ : Stream)) rfl (DT.v (DT.v (DT.v (DT.v (DT.v (DT.v (DT.v (DT.v (DT.v (DT.w (DT.v (DT.v (DT.v DT.e))))))))))))) (by first | (simp_all [ackedN]; done) | (unfold ackedN; simp_all; done) | (unfold ackedN; grind)) (AOs.r AOs.e))
  ·skip
   refine CW.skip ?_
   refine CW.le [(0, .obj (bo 0) [I x.state, I x.iss, I x.una, I x.rcv, S x.wait, I x.sent, I x.fin, Bo x.peerFin, S x.in_, .w (sl 2 Late.c x.late) (g 0 9), Bo x.owe, I x.due, I x.times]), (1, I a), (4, I (gap x.una a))] rfl (Le.of rfl) ?_
   refine CW.seq ?_
   refine CW.region ?_
   refine RW.v rfl (V.mv (d := I (gap x.una a)) rfl rfl) ?_
   refine RW.v rfl (V.mv (d := .pt 0 (bo 0) 0) rfl rfl) ?_
   refine RW.v rfl (V.nilP rfl rfl) ?_
   refine RW.v rfl (V.field rfl rfl rfl rfl (by decide) rfl) ?_
   refine RW.v rfl (V.loadPrim (d := I x.sent) rfl rfl (.inl rfl) rfl rfl rfl) ?_
   refine RW.v rfl (V.min2I rfl rfl rfl) ?_
   refine RW.v rfl (V.as (d := I (mnI (gap x.una a) x.sent)) rfl rfl) ?_
   refine RW.nil ?_
   refine CW.le [(0, .obj (bo 0) [I x.state, I x.iss, I x.una, I x.rcv, S x.wait, I x.sent, I x.fin, Bo x.peerFin, S x.in_, .w (sl 2 Late.c x.late) (g 0 9), Bo x.owe, I x.due, I x.times]), (1, I a), (5, I (mnI (gap x.una a) x.sent))] rfl (Le.of rfl) ?_
   refine CW.seq ?_
   refine CW.region ?_
   refine RW.v rfl (V.mv (d := .pt 0 (bo 0) 0) rfl rfl) ?_
   refine RW.v rfl (V.mv (d := .pt 0 (bo 0) 0) rfl rfl) ?_
   refine RW.v rfl (V.nilP rfl rfl) ?_
   refine RW.v rfl (V.field rfl rfl rfl rfl (by decide) rfl) ?_
   refine RW.v rfl (V.loadPrim (d := S x.wait) rfl rfl (.inl rfl) rfl rfl rfl) ?_
   refine RW.v rfl (V.mv (d := I (mnI (gap x.una a) x.sent)) rfl rfl) ?_
   refine RW.v rfl (V.strSlice (l := (mnI (gap x.una a) x.sent)) (h := (x.wait.size : Int)) rfl (by kernel_rfl) rfl (.inr ⟨_, _, rfl, rfl⟩) (.inl ⟨rfl, rfl⟩) (ack_slice hx (by have := h2; simp at this; exact this))) ?_
   refine RW.v rfl (V.nilP rfl rfl) ?_
   refine RW.v rfl (V.field rfl rfl rfl rfl (by decide) rfl) ?_
   refine RW.store (d := S (x.wait.extract (mnI (gap x.una a) x.sent).toNat (x.wait.size : Int).toNat)) rfl rfl rfl rfl rfl rfl rfl (Nat.le_of_ble_eq_true rfl) rfl rfl ?_
   refine RW.nil ?_
   refine CW.le [(0, .obj (bo 0) [I x.state, I x.iss, I x.una, I x.rcv, S (x.wait.extract (mnI (gap x.una a) x.sent).toNat (x.wait.size : Int).toNat), I x.sent, I x.fin, Bo x.peerFin, S x.in_, .w (sl 2 Late.c x.late) (g 0 9), Bo x.owe, I x.due, I x.times]), (1, I a), (5, I (mnI (gap x.una a) x.sent))] rfl (Le.of rfl) ?_
   refine CW.seq ?_
   refine CW.region ?_
   refine RW.v rfl (V.mv (d := .pt 0 (bo 0) 0) rfl rfl) ?_
   refine RW.v rfl (V.nilP rfl rfl) ?_
   refine RW.v rfl (V.field rfl rfl rfl rfl (by decide) rfl) ?_
   refine RW.v rfl (V.loadPrim (d := I x.sent) rfl rfl (.inl rfl) rfl rfl rfl) ?_
   refine RW.v rfl (V.mv (d := I (mnI (gap x.una a) x.sent)) rfl rfl) ?_
   refine RW.v rfl (V.arInt rfl rfl rfl rfl) ?_
   refine RW.v rfl (V.nilP rfl rfl) ?_
   refine RW.v rfl (V.field rfl rfl rfl rfl (by decide) rfl) ?_
   refine RW.store (d := I (IntKind.i64.wrap (x.sent - (mnI (gap x.una a) x.sent)))) rfl rfl rfl rfl rfl rfl rfl (Nat.le_of_ble_eq_true rfl) rfl rfl ?_
   refine RW.nil ?_
   refine CW.le [(0, .obj (bo 0) [I x.state, I x.iss, I x.una, I x.rcv, S (x.wait.extract (mnI (gap x.una a) x.sent).toNat (x.wait.size : Int).toNat), I (IntKind.i64.wrap (x.sent - (mnI (gap x.una a) x.sent))), I x.fin, Bo x.peerFin, S x.in_, .w (sl 2 Late.c x.late) (g 0 9), Bo x.owe, I x.due, I x.times]), (1, I a)] rfl (Le.of rfl) ?_
   refine CW.seq ?_
   refine CW.region ?_
   refine RW.v rfl (V.mv (d := .pt 0 (bo 0) 0) rfl rfl) ?_
   refine RW.v rfl (V.mv (d := I a) rfl rfl) ?_
   refine RW.v rfl (V.nilP rfl rfl) ?_
   refine RW.v rfl (V.field rfl rfl rfl rfl (by decide) rfl) ?_
   refine RW.store (d := I a) rfl rfl rfl rfl rfl rfl rfl (Nat.le_of_ble_eq_true rfl) rfl rfl ?_
   refine RW.nil ?_
   refine CW.le [(0, .obj (bo 0) [I x.state, I x.iss, I a, I x.rcv, S (x.wait.extract (mnI (gap x.una a) x.sent).toNat (x.wait.size : Int).toNat), I (IntKind.i64.wrap (x.sent - (mnI (gap x.una a) x.sent))), I x.fin, Bo x.peerFin, S x.in_, .w (sl 2 Late.c x.late) (g 0 9), Bo x.owe, I x.due, I x.times])] rfl (Le.of rfl) ?_
   refine CW.region ?_
   refine RW.v rfl (V.mv (d := .pt 0 (bo 0) 0) rfl rfl) ?_
   refine RW.v rfl (V.nilP rfl rfl) ?_
   refine RW.v rfl (V.field rfl rfl rfl rfl (by decide) rfl) ?_
   refine RW.store (d := I 0) rfl rfl rfl rfl rfl rfl rfl (Nat.le_of_ble_eq_true rfl) rfl rfl ?_
   refine RW.nil ?_
   exact Post.tup (by decide) RVs.e (AOs.obE (f := fun e => (Stream.c e).map .w) (e' := (⟨x.state, x.iss, a, x.rcv, (x.wait.extract (mnI (gap x.una a) x.sent).toNat (x.wait.size : Int).toNat), (IntKind.i64.wrap (x.sent - (mnI (gap x.una a) x.sent))), x.fin, x.peerFin, x.in_, x.late, x.owe, x.due, 0⟩ : Stream)) rfl (DT.v (DT.v (DT.v (DT.v (DT.v (DT.v (DT.v (DT.v (DT.v (DT.w (DT.v (DT.v (DT.v DT.e))))))))))))) (by first | (simp_all [ackedN]; done) | (unfold ackedN; simp_all; done) | (unfold ackedN; grind)) (AOs.r AOs.e))
set_option maxHeartbeats 4000000 in
theorem __impl_Stream__hearOpen_fn (x : Stream) (s : Seg) (hx : sentOk x) (hp : partIn x) (hs : segOk s = true) : Eng.Fn E.P 71 [.ob ((Stream.c x).map .w), .agg ((Seg.c s).map .r)] (.tup []) [.ob ((Stream.c (hearOpenN x s)).map .w), .agg ((Seg.c s).map .r)] := by
 refine Eng.Fn.intro (E := E) (rvs := []) Try.func71 rfl rfl rfl (by simp [outSlots, moved, rvSlot, sl]) ?_
 intro B g bo
 refine CW.le [(0, .obj (bo 0) [I x.state, I x.iss, I x.una, I x.rcv, S x.wait, I x.sent, I x.fin, Bo x.peerFin, S x.in_, .w (sl 2 Late.c x.late) (g 0 9), Bo x.owe, I x.due, I x.times]), (1, .agg ((Seg.c s).map .r))] rfl (Le.of rfl) ?_
 have hbt := bits_in (segOk_flags hs)
 have hb8 := segOk_body hs
 refine CW.seq ?_
 refine CW.region ?_
 refine RW.box (ds := ((Seg.c s).map .r)) rfl rfl rfl fun b1 => ?_
 refine RW.nil ?_
 refine CW.le [(0, .obj (bo 0) [I x.state, I x.iss, I x.una, I x.rcv, S x.wait, I x.sent, I x.fin, Bo x.peerFin, S x.in_, .w (sl 2 Late.c x.late) (g 0 9), Bo x.owe, I x.due, I x.times]), (3, .obj b1 ((Seg.c s).map .r))] rfl (Le.of rfl) ?_
 refine CW.seq ?_
 refine CW.seq ?_
 refine CW.region ?_
 refine RW.v rfl (V.field rfl rfl rfl rfl (by decide) rfl) ?_
 refine RW.v rfl (V.loadPrim (d := I s.flags) rfl rfl (.inl rfl) rfl rfl rfl) ?_
 refine RW.v rfl (V.bits rfl rfl rfl rfl) ?_
 refine RW.v rfl (V.cmpInt rfl rfl rfl rfl) ?_
 refine RW.nil ?_
 refine CW.le [(0, .obj (bo 0) [I x.state, I x.iss, I x.una, I x.rcv, S x.wait, I x.sent, I x.fin, Bo x.peerFin, S x.in_, .w (sl 2 Late.c x.late) (g 0 9), Bo x.owe, I x.due, I x.times]), (3, .obj b1 ((Seg.c s).map .r)), (7, Bo ((andI s.flags 2) != 0))] rfl (Le.of rfl) ?_
 refine CW.cond rfl (fun h2 => ?_) (fun h2 => ?_)
 ·skip
  refine CW.region ?_
  refine RW.v rfl (V.mv (d := .pt 0 (bo 0) 0) rfl rfl) ?_
  refine RW.v rfl (V.field rfl rfl rfl rfl (by decide) rfl) ?_
  refine RW.v rfl (V.loadPrim (d := I s.ack) rfl rfl (.inl rfl) rfl rfl rfl) ?_
  refine RW.callW (k := 0) (__impl_Stream__acked_fn x s.ack hx) rfl rfl (Nat.le_of_ble_eq_true rfl) (by decide) (.here (AsW.ob (DT.v (DT.v (DT.v (DT.v (DT.v (DT.v (DT.v (DT.v (DT.v (DT.w (DT.v (DT.v (DT.v DT.e))))))))))))) rfl) (.cons (.one (.r .r)) (.nil))) rfl fun g3 q4 => ?_
  refine RW.nil ?_
  refine CW.le [(0, .obj (bo 0) [I ((ackedN x s.ack).state), I ((ackedN x s.ack).iss), I ((ackedN x s.ack).una), I ((ackedN x s.ack).rcv), S ((ackedN x s.ack).wait), I ((ackedN x s.ack).sent), I ((ackedN x s.ack).fin), Bo ((ackedN x s.ack).peerFin), S ((ackedN x s.ack).in_), .w (sl 2 Late.c ((ackedN x s.ack).late)) (q4 9), Bo ((ackedN x s.ack).owe), I ((ackedN x s.ack).due), I ((ackedN x s.ack).times)]), (3, .obj b1 ((Seg.c s).map .r))] rfl (Le.of rfl) ?_
  refine CW.seq ?_
  refine CW.seq ?_
  refine CW.region ?_
  refine RW.v rfl (V.field rfl rfl rfl rfl (by decide) rfl) ?_
  refine RW.v rfl (V.loadPrim (d := S s.body) rfl rfl (.inl rfl) rfl rfl rfl) ?_
  refine RW.v rfl (V.strCmp rfl rfl rfl rfl) ?_
  refine RW.nil ?_
  refine CW.le [(0, .obj (bo 0) [I ((ackedN x s.ack).state), I ((ackedN x s.ack).iss), I ((ackedN x s.ack).una), I ((ackedN x s.ack).rcv), S ((ackedN x s.ack).wait), I ((ackedN x s.ack).sent), I ((ackedN x s.ack).fin), Bo ((ackedN x s.ack).peerFin), S ((ackedN x s.ack).in_), .w (sl 2 Late.c ((ackedN x s.ack).late)) (q4 9), Bo ((ackedN x s.ack).owe), I ((ackedN x s.ack).due), I ((ackedN x s.ack).times)]), (3, .obj b1 ((Seg.c s).map .r)), (14, Bo (!(s.body.toList == (⟨#[]⟩ : ByteArray).toList)))] rfl (Le.of rfl) ?_
  refine CW.cond rfl (fun h5 => ?_) (fun h5 => ?_)
  ·skip
   refine CW.seq ?_
   refine CW.region ?_
   refine RW.v rfl (V.mv (d := .pt 0 (bo 0) 0) rfl rfl) ?_
   refine RW.v rfl (V.nilP rfl rfl) ?_
   refine RW.v rfl (V.field rfl rfl rfl rfl (by decide) rfl) ?_
   refine RW.store (d := Bo true) rfl rfl rfl rfl rfl rfl rfl (Nat.le_of_ble_eq_true rfl) rfl rfl ?_
   refine RW.nil ?_
   refine CW.le [(0, .obj (bo 0) [I ((ackedN x s.ack).state), I ((ackedN x s.ack).iss), I ((ackedN x s.ack).una), I ((ackedN x s.ack).rcv), S ((ackedN x s.ack).wait), I ((ackedN x s.ack).sent), I ((ackedN x s.ack).fin), Bo ((ackedN x s.ack).peerFin), S ((ackedN x s.ack).in_), .w (sl 2 Late.c ((ackedN x s.ack).late)) (q4 9), Bo true, I ((ackedN x s.ack).due), I ((ackedN x s.ack).times)]), (3, .obj b1 ((Seg.c s).map .r))] rfl (Le.of rfl) ?_
   refine CW.region ?_
   refine RW.v rfl (V.mv (d := .pt 0 (bo 0) 0) rfl rfl) ?_
   refine RW.v rfl (V.loadAgg rfl rfl rfl rfl rfl (Nat.le_of_ble_eq_true rfl)) ?_
   refine RW.callW (k := 0) (__impl_Stream__part_fn (⟨(ackedN x s.ack).state, (ackedN x s.ack).iss, (ackedN x s.ack).una, (ackedN x s.ack).rcv, (ackedN x s.ack).wait, (ackedN x s.ack).sent, (ackedN x s.ack).fin, (ackedN x s.ack).peerFin, (ackedN x s.ack).in_, (ackedN x s.ack).late, true, (ackedN x s.ack).due, (ackedN x s.ack).times⟩ : Stream) s (by first | exact hp | exact ackedN_part hp _) hb8) rfl rfl (Nat.le_of_ble_eq_true rfl) (by decide) (.here (AsW.ob (DT.v (DT.v (DT.v (DT.v (DT.v (DT.v (DT.v (DT.v (DT.v (DT.w (DT.v (DT.v (DT.v DT.e))))))))))))) rfl) (.cons (.agg (.cons (.r .r) (.cons (.r .r) (.cons (.r .r) (.cons (.r .r) (.nil)))))) (.nil))) rfl fun g6 q7 => ?_
   refine RW.nil ?_
   refine CW.le [(0, .obj (bo 0) [I ((partN (⟨(ackedN x s.ack).state, (ackedN x s.ack).iss, (ackedN x s.ack).una, (ackedN x s.ack).rcv, (ackedN x s.ack).wait, (ackedN x s.ack).sent, (ackedN x s.ack).fin, (ackedN x s.ack).peerFin, (ackedN x s.ack).in_, (ackedN x s.ack).late, true, (ackedN x s.ack).due, (ackedN x s.ack).times⟩ : Stream) s).state), I ((partN (⟨(ackedN x s.ack).state, (ackedN x s.ack).iss, (ackedN x s.ack).una, (ackedN x s.ack).rcv, (ackedN x s.ack).wait, (ackedN x s.ack).sent, (ackedN x s.ack).fin, (ackedN x s.ack).peerFin, (ackedN x s.ack).in_, (ackedN x s.ack).late, true, (ackedN x s.ack).due, (ackedN x s.ack).times⟩ : Stream) s).iss), I ((partN (⟨(ackedN x s.ack).state, (ackedN x s.ack).iss, (ackedN x s.ack).una, (ackedN x s.ack).rcv, (ackedN x s.ack).wait, (ackedN x s.ack).sent, (ackedN x s.ack).fin, (ackedN x s.ack).peerFin, (ackedN x s.ack).in_, (ackedN x s.ack).late, true, (ackedN x s.ack).due, (ackedN x s.ack).times⟩ : Stream) s).una), I ((partN (⟨(ackedN x s.ack).state, (ackedN x s.ack).iss, (ackedN x s.ack).una, (ackedN x s.ack).rcv, (ackedN x s.ack).wait, (ackedN x s.ack).sent, (ackedN x s.ack).fin, (ackedN x s.ack).peerFin, (ackedN x s.ack).in_, (ackedN x s.ack).late, true, (ackedN x s.ack).due, (ackedN x s.ack).times⟩ : Stream) s).rcv), S ((partN (⟨(ackedN x s.ack).state, (ackedN x s.ack).iss, (ackedN x s.ack).una, (ackedN x s.ack).rcv, (ackedN x s.ack).wait, (ackedN x s.ack).sent, (ackedN x s.ack).fin, (ackedN x s.ack).peerFin, (ackedN x s.ack).in_, (ackedN x s.ack).late, true, (ackedN x s.ack).due, (ackedN x s.ack).times⟩ : Stream) s).wait), I ((partN (⟨(ackedN x s.ack).state, (ackedN x s.ack).iss, (ackedN x s.ack).una, (ackedN x s.ack).rcv, (ackedN x s.ack).wait, (ackedN x s.ack).sent, (ackedN x s.ack).fin, (ackedN x s.ack).peerFin, (ackedN x s.ack).in_, (ackedN x s.ack).late, true, (ackedN x s.ack).due, (ackedN x s.ack).times⟩ : Stream) s).sent), I ((partN (⟨(ackedN x s.ack).state, (ackedN x s.ack).iss, (ackedN x s.ack).una, (ackedN x s.ack).rcv, (ackedN x s.ack).wait, (ackedN x s.ack).sent, (ackedN x s.ack).fin, (ackedN x s.ack).peerFin, (ackedN x s.ack).in_, (ackedN x s.ack).late, true, (ackedN x s.ack).due, (ackedN x s.ack).times⟩ : Stream) s).fin), Bo ((partN (⟨(ackedN x s.ack).state, (ackedN x s.ack).iss, (ackedN x s.ack).una, (ackedN x s.ack).rcv, (ackedN x s.ack).wait, (ackedN x s.ack).sent, (ackedN x s.ack).fin, (ackedN x s.ack).peerFin, (ackedN x s.ack).in_, (ackedN x s.ack).late, true, (ackedN x s.ack).due, (ackedN x s.ack).times⟩ : Stream) s).peerFin), S ((partN (⟨(ackedN x s.ack).state, (ackedN x s.ack).iss, (ackedN x s.ack).una, (ackedN x s.ack).rcv, (ackedN x s.ack).wait, (ackedN x s.ack).sent, (ackedN x s.ack).fin, (ackedN x s.ack).peerFin, (ackedN x s.ack).in_, (ackedN x s.ack).late, true, (ackedN x s.ack).due, (ackedN x s.ack).times⟩ : Stream) s).in_), .w (sl 2 Late.c ((partN (⟨(ackedN x s.ack).state, (ackedN x s.ack).iss, (ackedN x s.ack).una, (ackedN x s.ack).rcv, (ackedN x s.ack).wait, (ackedN x s.ack).sent, (ackedN x s.ack).fin, (ackedN x s.ack).peerFin, (ackedN x s.ack).in_, (ackedN x s.ack).late, true, (ackedN x s.ack).due, (ackedN x s.ack).times⟩ : Stream) s).late)) (q7 9), Bo ((partN (⟨(ackedN x s.ack).state, (ackedN x s.ack).iss, (ackedN x s.ack).una, (ackedN x s.ack).rcv, (ackedN x s.ack).wait, (ackedN x s.ack).sent, (ackedN x s.ack).fin, (ackedN x s.ack).peerFin, (ackedN x s.ack).in_, (ackedN x s.ack).late, true, (ackedN x s.ack).due, (ackedN x s.ack).times⟩ : Stream) s).owe), I ((partN (⟨(ackedN x s.ack).state, (ackedN x s.ack).iss, (ackedN x s.ack).una, (ackedN x s.ack).rcv, (ackedN x s.ack).wait, (ackedN x s.ack).sent, (ackedN x s.ack).fin, (ackedN x s.ack).peerFin, (ackedN x s.ack).in_, (ackedN x s.ack).late, true, (ackedN x s.ack).due, (ackedN x s.ack).times⟩ : Stream) s).due), I ((partN (⟨(ackedN x s.ack).state, (ackedN x s.ack).iss, (ackedN x s.ack).una, (ackedN x s.ack).rcv, (ackedN x s.ack).wait, (ackedN x s.ack).sent, (ackedN x s.ack).fin, (ackedN x s.ack).peerFin, (ackedN x s.ack).in_, (ackedN x s.ack).late, true, (ackedN x s.ack).due, (ackedN x s.ack).times⟩ : Stream) s).times)]), (3, .obj b1 ((Seg.c s).map .r))] rfl (Le.of rfl) ?_
   refine CW.seq ?_
   refine CW.seq ?_
   refine CW.region ?_
   refine RW.v rfl (V.field rfl rfl rfl rfl (by decide) rfl) ?_
   refine RW.v rfl (V.loadPrim (d := I s.flags) rfl rfl (.inl rfl) rfl rfl rfl) ?_
   refine RW.v rfl (V.bits rfl rfl rfl rfl) ?_
   refine RW.v rfl (V.cmpInt rfl rfl rfl rfl) ?_
   refine RW.nil ?_
   refine CW.le [(0, .obj (bo 0) [I ((partN (⟨(ackedN x s.ack).state, (ackedN x s.ack).iss, (ackedN x s.ack).una, (ackedN x s.ack).rcv, (ackedN x s.ack).wait, (ackedN x s.ack).sent, (ackedN x s.ack).fin, (ackedN x s.ack).peerFin, (ackedN x s.ack).in_, (ackedN x s.ack).late, true, (ackedN x s.ack).due, (ackedN x s.ack).times⟩ : Stream) s).state), I ((partN (⟨(ackedN x s.ack).state, (ackedN x s.ack).iss, (ackedN x s.ack).una, (ackedN x s.ack).rcv, (ackedN x s.ack).wait, (ackedN x s.ack).sent, (ackedN x s.ack).fin, (ackedN x s.ack).peerFin, (ackedN x s.ack).in_, (ackedN x s.ack).late, true, (ackedN x s.ack).due, (ackedN x s.ack).times⟩ : Stream) s).iss), I ((partN (⟨(ackedN x s.ack).state, (ackedN x s.ack).iss, (ackedN x s.ack).una, (ackedN x s.ack).rcv, (ackedN x s.ack).wait, (ackedN x s.ack).sent, (ackedN x s.ack).fin, (ackedN x s.ack).peerFin, (ackedN x s.ack).in_, (ackedN x s.ack).late, true, (ackedN x s.ack).due, (ackedN x s.ack).times⟩ : Stream) s).una), I ((partN (⟨(ackedN x s.ack).state, (ackedN x s.ack).iss, (ackedN x s.ack).una, (ackedN x s.ack).rcv, (ackedN x s.ack).wait, (ackedN x s.ack).sent, (ackedN x s.ack).fin, (ackedN x s.ack).peerFin, (ackedN x s.ack).in_, (ackedN x s.ack).late, true, (ackedN x s.ack).due, (ackedN x s.ack).times⟩ : Stream) s).rcv), S ((partN (⟨(ackedN x s.ack).state, (ackedN x s.ack).iss, (ackedN x s.ack).una, (ackedN x s.ack).rcv, (ackedN x s.ack).wait, (ackedN x s.ack).sent, (ackedN x s.ack).fin, (ackedN x s.ack).peerFin, (ackedN x s.ack).in_, (ackedN x s.ack).late, true, (ackedN x s.ack).due, (ackedN x s.ack).times⟩ : Stream) s).wait), I ((partN (⟨(ackedN x s.ack).state, (ackedN x s.ack).iss, (ackedN x s.ack).una, (ackedN x s.ack).rcv, (ackedN x s.ack).wait, (ackedN x s.ack).sent, (ackedN x s.ack).fin, (ackedN x s.ack).peerFin, (ackedN x s.ack).in_, (ackedN x s.ack).late, true, (ackedN x s.ack).due, (ackedN x s.ack).times⟩ : Stream) s).sent), I ((partN (⟨(ackedN x s.ack).state, (ackedN x s.ack).iss, (ackedN x s.ack).una, (ackedN x s.ack).rcv, (ackedN x s.ack).wait, (ackedN x s.ack).sent, (ackedN x s.ack).fin, (ackedN x s.ack).peerFin, (ackedN x s.ack).in_, (ackedN x s.ack).late, true, (ackedN x s.ack).due, (ackedN x s.ack).times⟩ : Stream) s).fin), Bo ((partN (⟨(ackedN x s.ack).state, (ackedN x s.ack).iss, (ackedN x s.ack).una, (ackedN x s.ack).rcv, (ackedN x s.ack).wait, (ackedN x s.ack).sent, (ackedN x s.ack).fin, (ackedN x s.ack).peerFin, (ackedN x s.ack).in_, (ackedN x s.ack).late, true, (ackedN x s.ack).due, (ackedN x s.ack).times⟩ : Stream) s).peerFin), S ((partN (⟨(ackedN x s.ack).state, (ackedN x s.ack).iss, (ackedN x s.ack).una, (ackedN x s.ack).rcv, (ackedN x s.ack).wait, (ackedN x s.ack).sent, (ackedN x s.ack).fin, (ackedN x s.ack).peerFin, (ackedN x s.ack).in_, (ackedN x s.ack).late, true, (ackedN x s.ack).due, (ackedN x s.ack).times⟩ : Stream) s).in_), .w (sl 2 Late.c ((partN (⟨(ackedN x s.ack).state, (ackedN x s.ack).iss, (ackedN x s.ack).una, (ackedN x s.ack).rcv, (ackedN x s.ack).wait, (ackedN x s.ack).sent, (ackedN x s.ack).fin, (ackedN x s.ack).peerFin, (ackedN x s.ack).in_, (ackedN x s.ack).late, true, (ackedN x s.ack).due, (ackedN x s.ack).times⟩ : Stream) s).late)) (q7 9), Bo ((partN (⟨(ackedN x s.ack).state, (ackedN x s.ack).iss, (ackedN x s.ack).una, (ackedN x s.ack).rcv, (ackedN x s.ack).wait, (ackedN x s.ack).sent, (ackedN x s.ack).fin, (ackedN x s.ack).peerFin, (ackedN x s.ack).in_, (ackedN x s.ack).late, true, (ackedN x s.ack).due, (ackedN x s.ack).times⟩ : Stream) s).owe), I ((partN (⟨(ackedN x s.ack).state, (ackedN x s.ack).iss, (ackedN x s.ack).una, (ackedN x s.ack).rcv, (ackedN x s.ack).wait, (ackedN x s.ack).sent, (ackedN x s.ack).fin, (ackedN x s.ack).peerFin, (ackedN x s.ack).in_, (ackedN x s.ack).late, true, (ackedN x s.ack).due, (ackedN x s.ack).times⟩ : Stream) s).due), I ((partN (⟨(ackedN x s.ack).state, (ackedN x s.ack).iss, (ackedN x s.ack).una, (ackedN x s.ack).rcv, (ackedN x s.ack).wait, (ackedN x s.ack).sent, (ackedN x s.ack).fin, (ackedN x s.ack).peerFin, (ackedN x s.ack).in_, (ackedN x s.ack).late, true, (ackedN x s.ack).due, (ackedN x s.ack).times⟩ : Stream) s).times)]), (3, .obj b1 ((Seg.c s).map .r)), (24, Bo ((andI s.flags 4) == 0))] rfl (Le.of rfl) ?_
   refine CW.cond rfl (fun h8 => ?_) (fun h8 => ?_)
   ·skip
    refine CW.ret ?_
    exact Post.tup (by decide) RVs.e (AOs.obE (f := fun e => (Stream.c e).map .w) (e' := (partN (⟨(ackedN x s.ack).state, (ackedN x s.ack).iss, (ackedN x s.ack).una, (ackedN x s.ack).rcv, (ackedN x s.ack).wait, (ackedN x s.ack).sent, (ackedN x s.ack).fin, (ackedN x s.ack).peerFin, (ackedN x s.ack).in_, (ackedN x s.ack).late, true, (ackedN x s.ack).due, (ackedN x s.ack).times⟩ : Stream) s)) rfl (DT.v (DT.v (DT.v (DT.v (DT.v (DT.v (DT.v (DT.v (DT.v (DT.w (DT.v (DT.v (DT.v DT.e))))))))))))) (by unfold hearOpenN finN emp; first | (simp_all; done) | grind) (AOs.a rfl AOs.e))
   ·skip
    refine CW.skip ?_
    refine CW.le [(0, .obj (bo 0) [I ((partN (⟨(ackedN x s.ack).state, (ackedN x s.ack).iss, (ackedN x s.ack).una, (ackedN x s.ack).rcv, (ackedN x s.ack).wait, (ackedN x s.ack).sent, (ackedN x s.ack).fin, (ackedN x s.ack).peerFin, (ackedN x s.ack).in_, (ackedN x s.ack).late, true, (ackedN x s.ack).due, (ackedN x s.ack).times⟩ : Stream) s).state), I ((partN (⟨(ackedN x s.ack).state, (ackedN x s.ack).iss, (ackedN x s.ack).una, (ackedN x s.ack).rcv, (ackedN x s.ack).wait, (ackedN x s.ack).sent, (ackedN x s.ack).fin, (ackedN x s.ack).peerFin, (ackedN x s.ack).in_, (ackedN x s.ack).late, true, (ackedN x s.ack).due, (ackedN x s.ack).times⟩ : Stream) s).iss), I ((partN (⟨(ackedN x s.ack).state, (ackedN x s.ack).iss, (ackedN x s.ack).una, (ackedN x s.ack).rcv, (ackedN x s.ack).wait, (ackedN x s.ack).sent, (ackedN x s.ack).fin, (ackedN x s.ack).peerFin, (ackedN x s.ack).in_, (ackedN x s.ack).late, true, (ackedN x s.ack).due, (ackedN x s.ack).times⟩ : Stream) s).una), I ((partN (⟨(ackedN x s.ack).state, (ackedN x s.ack).iss, (ackedN x s.ack).una, (ackedN x s.ack).rcv, (ackedN x s.ack).wait, (ackedN x s.ack).sent, (ackedN x s.ack).fin, (ackedN x s.ack).peerFin, (ackedN x s.ack).in_, (ackedN x s.ack).late, true, (ackedN x s.ack).due, (ackedN x s.ack).times⟩ : Stream) s).rcv), S ((partN (⟨(ackedN x s.ack).state, (ackedN x s.ack).iss, (ackedN x s.ack).una, (ackedN x s.ack).rcv, (ackedN x s.ack).wait, (ackedN x s.ack).sent, (ackedN x s.ack).fin, (ackedN x s.ack).peerFin, (ackedN x s.ack).in_, (ackedN x s.ack).late, true, (ackedN x s.ack).due, (ackedN x s.ack).times⟩ : Stream) s).wait), I ((partN (⟨(ackedN x s.ack).state, (ackedN x s.ack).iss, (ackedN x s.ack).una, (ackedN x s.ack).rcv, (ackedN x s.ack).wait, (ackedN x s.ack).sent, (ackedN x s.ack).fin, (ackedN x s.ack).peerFin, (ackedN x s.ack).in_, (ackedN x s.ack).late, true, (ackedN x s.ack).due, (ackedN x s.ack).times⟩ : Stream) s).sent), I ((partN (⟨(ackedN x s.ack).state, (ackedN x s.ack).iss, (ackedN x s.ack).una, (ackedN x s.ack).rcv, (ackedN x s.ack).wait, (ackedN x s.ack).sent, (ackedN x s.ack).fin, (ackedN x s.ack).peerFin, (ackedN x s.ack).in_, (ackedN x s.ack).late, true, (ackedN x s.ack).due, (ackedN x s.ack).times⟩ : Stream) s).fin), Bo ((partN (⟨(ackedN x s.ack).state, (ackedN x s.ack).iss, (ackedN x s.ack).una, (ackedN x s.ack).rcv, (ackedN x s.ack).wait, (ackedN x s.ack).sent, (ackedN x s.ack).fin, (ackedN x s.ack).peerFin, (ackedN x s.ack).in_, (ackedN x s.ack).late, true, (ackedN x s.ack).due, (ackedN x s.ack).times⟩ : Stream) s).peerFin), S ((partN (⟨(ackedN x s.ack).state, (ackedN x s.ack).iss, (ackedN x s.ack).una, (ackedN x s.ack).rcv, (ackedN x s.ack).wait, (ackedN x s.ack).sent, (ackedN x s.ack).fin, (ackedN x s.ack).peerFin, (ackedN x s.ack).in_, (ackedN x s.ack).late, true, (ackedN x s.ack).due, (ackedN x s.ack).times⟩ : Stream) s).in_), .w (sl 2 Late.c ((partN (⟨(ackedN x s.ack).state, (ackedN x s.ack).iss, (ackedN x s.ack).una, (ackedN x s.ack).rcv, (ackedN x s.ack).wait, (ackedN x s.ack).sent, (ackedN x s.ack).fin, (ackedN x s.ack).peerFin, (ackedN x s.ack).in_, (ackedN x s.ack).late, true, (ackedN x s.ack).due, (ackedN x s.ack).times⟩ : Stream) s).late)) (q7 9), Bo ((partN (⟨(ackedN x s.ack).state, (ackedN x s.ack).iss, (ackedN x s.ack).una, (ackedN x s.ack).rcv, (ackedN x s.ack).wait, (ackedN x s.ack).sent, (ackedN x s.ack).fin, (ackedN x s.ack).peerFin, (ackedN x s.ack).in_, (ackedN x s.ack).late, true, (ackedN x s.ack).due, (ackedN x s.ack).times⟩ : Stream) s).owe), I ((partN (⟨(ackedN x s.ack).state, (ackedN x s.ack).iss, (ackedN x s.ack).una, (ackedN x s.ack).rcv, (ackedN x s.ack).wait, (ackedN x s.ack).sent, (ackedN x s.ack).fin, (ackedN x s.ack).peerFin, (ackedN x s.ack).in_, (ackedN x s.ack).late, true, (ackedN x s.ack).due, (ackedN x s.ack).times⟩ : Stream) s).due), I ((partN (⟨(ackedN x s.ack).state, (ackedN x s.ack).iss, (ackedN x s.ack).una, (ackedN x s.ack).rcv, (ackedN x s.ack).wait, (ackedN x s.ack).sent, (ackedN x s.ack).fin, (ackedN x s.ack).peerFin, (ackedN x s.ack).in_, (ackedN x s.ack).late, true, (ackedN x s.ack).due, (ackedN x s.ack).times⟩ : Stream) s).times)]), (3, .obj b1 ((Seg.c s).map .r))] rfl (Le.of rfl) ?_
    refine CW.seq ?_
    refine CW.region ?_
    refine RW.v rfl (V.mv (d := .pt 0 (bo 0) 0) rfl rfl) ?_
    refine RW.v rfl (V.nilP rfl rfl) ?_
    refine RW.v rfl (V.field rfl rfl rfl rfl (by decide) rfl) ?_
    refine RW.store (d := Bo true) rfl rfl rfl rfl rfl rfl rfl (Nat.le_of_ble_eq_true rfl) rfl rfl ?_
    refine RW.nil ?_
    refine CW.le [(0, .obj (bo 0) [I ((partN (⟨(ackedN x s.ack).state, (ackedN x s.ack).iss, (ackedN x s.ack).una, (ackedN x s.ack).rcv, (ackedN x s.ack).wait, (ackedN x s.ack).sent, (ackedN x s.ack).fin, (ackedN x s.ack).peerFin, (ackedN x s.ack).in_, (ackedN x s.ack).late, true, (ackedN x s.ack).due, (ackedN x s.ack).times⟩ : Stream) s).state), I ((partN (⟨(ackedN x s.ack).state, (ackedN x s.ack).iss, (ackedN x s.ack).una, (ackedN x s.ack).rcv, (ackedN x s.ack).wait, (ackedN x s.ack).sent, (ackedN x s.ack).fin, (ackedN x s.ack).peerFin, (ackedN x s.ack).in_, (ackedN x s.ack).late, true, (ackedN x s.ack).due, (ackedN x s.ack).times⟩ : Stream) s).iss), I ((partN (⟨(ackedN x s.ack).state, (ackedN x s.ack).iss, (ackedN x s.ack).una, (ackedN x s.ack).rcv, (ackedN x s.ack).wait, (ackedN x s.ack).sent, (ackedN x s.ack).fin, (ackedN x s.ack).peerFin, (ackedN x s.ack).in_, (ackedN x s.ack).late, true, (ackedN x s.ack).due, (ackedN x s.ack).times⟩ : Stream) s).una), I ((partN (⟨(ackedN x s.ack).state, (ackedN x s.ack).iss, (ackedN x s.ack).una, (ackedN x s.ack).rcv, (ackedN x s.ack).wait, (ackedN x s.ack).sent, (ackedN x s.ack).fin, (ackedN x s.ack).peerFin, (ackedN x s.ack).in_, (ackedN x s.ack).late, true, (ackedN x s.ack).due, (ackedN x s.ack).times⟩ : Stream) s).rcv), S ((partN (⟨(ackedN x s.ack).state, (ackedN x s.ack).iss, (ackedN x s.ack).una, (ackedN x s.ack).rcv, (ackedN x s.ack).wait, (ackedN x s.ack).sent, (ackedN x s.ack).fin, (ackedN x s.ack).peerFin, (ackedN x s.ack).in_, (ackedN x s.ack).late, true, (ackedN x s.ack).due, (ackedN x s.ack).times⟩ : Stream) s).wait), I ((partN (⟨(ackedN x s.ack).state, (ackedN x s.ack).iss, (ackedN x s.ack).una, (ackedN x s.ack).rcv, (ackedN x s.ack).wait, (ackedN x s.ack).sent, (ackedN x s.ack).fin, (ackedN x s.ack).peerFin, (ackedN x s.ack).in_, (ackedN x s.ack).late, true, (ackedN x s.ack).due, (ackedN x s.ack).times⟩ : Stream) s).sent), I ((partN (⟨(ackedN x s.ack).state, (ackedN x s.ack).iss, (ackedN x s.ack).una, (ackedN x s.ack).rcv, (ackedN x s.ack).wait, (ackedN x s.ack).sent, (ackedN x s.ack).fin, (ackedN x s.ack).peerFin, (ackedN x s.ack).in_, (ackedN x s.ack).late, true, (ackedN x s.ack).due, (ackedN x s.ack).times⟩ : Stream) s).fin), Bo ((partN (⟨(ackedN x s.ack).state, (ackedN x s.ack).iss, (ackedN x s.ack).una, (ackedN x s.ack).rcv, (ackedN x s.ack).wait, (ackedN x s.ack).sent, (ackedN x s.ack).fin, (ackedN x s.ack).peerFin, (ackedN x s.ack).in_, (ackedN x s.ack).late, true, (ackedN x s.ack).due, (ackedN x s.ack).times⟩ : Stream) s).peerFin), S ((partN (⟨(ackedN x s.ack).state, (ackedN x s.ack).iss, (ackedN x s.ack).una, (ackedN x s.ack).rcv, (ackedN x s.ack).wait, (ackedN x s.ack).sent, (ackedN x s.ack).fin, (ackedN x s.ack).peerFin, (ackedN x s.ack).in_, (ackedN x s.ack).late, true, (ackedN x s.ack).due, (ackedN x s.ack).times⟩ : Stream) s).in_), .w (sl 2 Late.c ((partN (⟨(ackedN x s.ack).state, (ackedN x s.ack).iss, (ackedN x s.ack).una, (ackedN x s.ack).rcv, (ackedN x s.ack).wait, (ackedN x s.ack).sent, (ackedN x s.ack).fin, (ackedN x s.ack).peerFin, (ackedN x s.ack).in_, (ackedN x s.ack).late, true, (ackedN x s.ack).due, (ackedN x s.ack).times⟩ : Stream) s).late)) (q7 9), Bo true, I ((partN (⟨(ackedN x s.ack).state, (ackedN x s.ack).iss, (ackedN x s.ack).una, (ackedN x s.ack).rcv, (ackedN x s.ack).wait, (ackedN x s.ack).sent, (ackedN x s.ack).fin, (ackedN x s.ack).peerFin, (ackedN x s.ack).in_, (ackedN x s.ack).late, true, (ackedN x s.ack).due, (ackedN x s.ack).times⟩ : Stream) s).due), I ((partN (⟨(ackedN x s.ack).state, (ackedN x s.ack).iss, (ackedN x s.ack).una, (ackedN x s.ack).rcv, (ackedN x s.ack).wait, (ackedN x s.ack).sent, (ackedN x s.ack).fin, (ackedN x s.ack).peerFin, (ackedN x s.ack).in_, (ackedN x s.ack).late, true, (ackedN x s.ack).due, (ackedN x s.ack).times⟩ : Stream) s).times)]), (3, .obj b1 ((Seg.c s).map .r))] rfl (Le.of rfl) ?_
    refine CW.seqJ 57 (fun (v9 : Bool) => [(0, .obj (bo 0) [I ((partN (⟨(ackedN x s.ack).state, (ackedN x s.ack).iss, (ackedN x s.ack).una, (ackedN x s.ack).rcv, (ackedN x s.ack).wait, (ackedN x s.ack).sent, (ackedN x s.ack).fin, (ackedN x s.ack).peerFin, (ackedN x s.ack).in_, (ackedN x s.ack).late, true, (ackedN x s.ack).due, (ackedN x s.ack).times⟩ : Stream) s).state), I ((partN (⟨(ackedN x s.ack).state, (ackedN x s.ack).iss, (ackedN x s.ack).una, (ackedN x s.ack).rcv, (ackedN x s.ack).wait, (ackedN x s.ack).sent, (ackedN x s.ack).fin, (ackedN x s.ack).peerFin, (ackedN x s.ack).in_, (ackedN x s.ack).late, true, (ackedN x s.ack).due, (ackedN x s.ack).times⟩ : Stream) s).iss), I ((partN (⟨(ackedN x s.ack).state, (ackedN x s.ack).iss, (ackedN x s.ack).una, (ackedN x s.ack).rcv, (ackedN x s.ack).wait, (ackedN x s.ack).sent, (ackedN x s.ack).fin, (ackedN x s.ack).peerFin, (ackedN x s.ack).in_, (ackedN x s.ack).late, true, (ackedN x s.ack).due, (ackedN x s.ack).times⟩ : Stream) s).una), I ((partN (⟨(ackedN x s.ack).state, (ackedN x s.ack).iss, (ackedN x s.ack).una, (ackedN x s.ack).rcv, (ackedN x s.ack).wait, (ackedN x s.ack).sent, (ackedN x s.ack).fin, (ackedN x s.ack).peerFin, (ackedN x s.ack).in_, (ackedN x s.ack).late, true, (ackedN x s.ack).due, (ackedN x s.ack).times⟩ : Stream) s).rcv), S ((partN (⟨(ackedN x s.ack).state, (ackedN x s.ack).iss, (ackedN x s.ack).una, (ackedN x s.ack).rcv, (ackedN x s.ack).wait, (ackedN x s.ack).sent, (ackedN x s.ack).fin, (ackedN x s.ack).peerFin, (ackedN x s.ack).in_, (ackedN x s.ack).late, true, (ackedN x s.ack).due, (ackedN x s.ack).times⟩ : Stream) s).wait), I ((partN (⟨(ackedN x s.ack).state, (ackedN x s.ack).iss, (ackedN x s.ack).una, (ackedN x s.ack).rcv, (ackedN x s.ack).wait, (ackedN x s.ack).sent, (ackedN x s.ack).fin, (ackedN x s.ack).peerFin, (ackedN x s.ack).in_, (ackedN x s.ack).late, true, (ackedN x s.ack).due, (ackedN x s.ack).times⟩ : Stream) s).sent), I ((partN (⟨(ackedN x s.ack).state, (ackedN x s.ack).iss, (ackedN x s.ack).una, (ackedN x s.ack).rcv, (ackedN x s.ack).wait, (ackedN x s.ack).sent, (ackedN x s.ack).fin, (ackedN x s.ack).peerFin, (ackedN x s.ack).in_, (ackedN x s.ack).late, true, (ackedN x s.ack).due, (ackedN x s.ack).times⟩ : Stream) s).fin), Bo ((partN (⟨(ackedN x s.ack).state, (ackedN x s.ack).iss, (ackedN x s.ack).una, (ackedN x s.ack).rcv, (ackedN x s.ack).wait, (ackedN x s.ack).sent, (ackedN x s.ack).fin, (ackedN x s.ack).peerFin, (ackedN x s.ack).in_, (ackedN x s.ack).late, true, (ackedN x s.ack).due, (ackedN x s.ack).times⟩ : Stream) s).peerFin), S ((partN (⟨(ackedN x s.ack).state, (ackedN x s.ack).iss, (ackedN x s.ack).una, (ackedN x s.ack).rcv, (ackedN x s.ack).wait, (ackedN x s.ack).sent, (ackedN x s.ack).fin, (ackedN x s.ack).peerFin, (ackedN x s.ack).in_, (ackedN x s.ack).late, true, (ackedN x s.ack).due, (ackedN x s.ack).times⟩ : Stream) s).in_), .w (sl 2 Late.c ((partN (⟨(ackedN x s.ack).state, (ackedN x s.ack).iss, (ackedN x s.ack).una, (ackedN x s.ack).rcv, (ackedN x s.ack).wait, (ackedN x s.ack).sent, (ackedN x s.ack).fin, (ackedN x s.ack).peerFin, (ackedN x s.ack).in_, (ackedN x s.ack).late, true, (ackedN x s.ack).due, (ackedN x s.ack).times⟩ : Stream) s).late)) (q7 9), Bo true, I ((partN (⟨(ackedN x s.ack).state, (ackedN x s.ack).iss, (ackedN x s.ack).una, (ackedN x s.ack).rcv, (ackedN x s.ack).wait, (ackedN x s.ack).sent, (ackedN x s.ack).fin, (ackedN x s.ack).peerFin, (ackedN x s.ack).in_, (ackedN x s.ack).late, true, (ackedN x s.ack).due, (ackedN x s.ack).times⟩ : Stream) s).due), I ((partN (⟨(ackedN x s.ack).state, (ackedN x s.ack).iss, (ackedN x s.ack).una, (ackedN x s.ack).rcv, (ackedN x s.ack).wait, (ackedN x s.ack).sent, (ackedN x s.ack).fin, (ackedN x s.ack).peerFin, (ackedN x s.ack).in_, (ackedN x s.ack).late, true, (ackedN x s.ack).due, (ackedN x s.ack).times⟩ : Stream) s).times)]), (45, Bo v9)]) (fun v9 => v9 = (((addNum s.num (s.body.size : Int)) == (partN (⟨(ackedN x s.ack).state, (ackedN x s.ack).iss, (ackedN x s.ack).una, (ackedN x s.ack).rcv, (ackedN x s.ack).wait, (ackedN x s.ack).sent, (ackedN x s.ack).fin, (ackedN x s.ack).peerFin, (ackedN x s.ack).in_, (ackedN x s.ack).late, true, (ackedN x s.ack).due, (ackedN x s.ack).times⟩ : Stream) s).rcv) && (!(partN (⟨(ackedN x s.ack).state, (ackedN x s.ack).iss, (ackedN x s.ack).una, (ackedN x s.ack).rcv, (ackedN x s.ack).wait, (ackedN x s.ack).sent, (ackedN x s.ack).fin, (ackedN x s.ack).peerFin, (ackedN x s.ack).in_, (ackedN x s.ack).late, true, (ackedN x s.ack).due, (ackedN x s.ack).times⟩ : Stream) s).peerFin))) ?_ ?_
    ·refine CW.drawn (by kernel_rfl) ?_
     refine RQ.v rfl (V.field rfl rfl rfl rfl (by decide) rfl) ?_
     refine RQ.v rfl (V.loadPrim (d := I s.num) rfl rfl (.inl rfl) rfl rfl rfl) ?_
     refine RQ.v rfl (V.field rfl rfl rfl rfl (by decide) rfl) ?_
     refine RQ.v rfl (V.loadPrim (d := S s.body) rfl rfl (.inl rfl) rfl rfl rfl) ?_
     refine RQ.v rfl (V.lenStr rfl (by kernel_rfl) rfl) ?_
     refine RQ.cons rfl (QOK.call (impl_AddNum_fn s.num (s.body.size : Int)) rfl (.cons (.one (.r .r)) (.cons (.one (.r .r)) (.nil))) ?_)
     refine RQ.v rfl (V.mv (d := .pt 0 (bo 0) 0) rfl rfl) ?_
     refine RQ.v rfl (V.nilP rfl rfl) ?_
     refine RQ.v rfl (V.field rfl rfl rfl rfl (by decide) rfl) ?_
     refine RQ.v rfl (V.loadPrim (d := I ((partN (⟨(ackedN x s.ack).state, (ackedN x s.ack).iss, (ackedN x s.ack).una, (ackedN x s.ack).rcv, (ackedN x s.ack).wait, (ackedN x s.ack).sent, (ackedN x s.ack).fin, (ackedN x s.ack).peerFin, (ackedN x s.ack).in_, (ackedN x s.ack).late, true, (ackedN x s.ack).due, (ackedN x s.ack).times⟩ : Stream) s).rcv)) rfl rfl (.inl rfl) rfl rfl rfl) ?_
     refine RQ.v rfl (V.cmpInt rfl rfl rfl rfl) ?_
     refine RQ.v rfl (V.mv (d := Bo ((addNum s.num (s.body.size : Int)) == (partN (⟨(ackedN x s.ack).state, (ackedN x s.ack).iss, (ackedN x s.ack).una, (ackedN x s.ack).rcv, (ackedN x s.ack).wait, (ackedN x s.ack).sent, (ackedN x s.ack).fin, (ackedN x s.ack).peerFin, (ackedN x s.ack).in_, (ackedN x s.ack).late, true, (ackedN x s.ack).due, (ackedN x s.ack).times⟩ : Stream) s).rcv)) rfl rfl) ?_
     refine RQ.gv rfl rfl rfl rfl (fun h10 => V.mv (d := .pt 0 (bo 0) 0) rfl rfl) (fun h10 => ?_) (fun h10 => ?_)
     ·skip
      refine RQ.gt rfl rfl rfl rfl (V.nilP rfl rfl) ?_
      refine RQ.gt rfl rfl rfl rfl (V.field rfl rfl rfl rfl (by decide) rfl) ?_
      refine RQ.gt rfl rfl rfl rfl (V.loadPrim (d := Bo ((partN (⟨(ackedN x s.ack).state, (ackedN x s.ack).iss, (ackedN x s.ack).una, (ackedN x s.ack).rcv, (ackedN x s.ack).wait, (ackedN x s.ack).sent, (ackedN x s.ack).fin, (ackedN x s.ack).peerFin, (ackedN x s.ack).in_, (ackedN x s.ack).late, true, (ackedN x s.ack).due, (ackedN x s.ack).times⟩ : Stream) s).peerFin)) rfl rfl (.inl rfl) rfl rfl rfl) ?_
      refine RQ.gt rfl rfl rfl rfl (V.not rfl rfl) ?_
      refine RQ.v rfl (V.pickT (d := Bo (!(partN (⟨(ackedN x s.ack).state, (ackedN x s.ack).iss, (ackedN x s.ack).una, (ackedN x s.ack).rcv, (ackedN x s.ack).wait, (ackedN x s.ack).sent, (ackedN x s.ack).fin, (ackedN x s.ack).peerFin, (ackedN x s.ack).in_, (ackedN x s.ack).late, true, (ackedN x s.ack).due, (ackedN x s.ack).times⟩ : Stream) s).peerFin)) rfl rfl rfl) ?_
      refine RQ.nil ?_
      exact ⟨_, by first | rfl | (simp_all; done) | (simp_all; omega) | grind, rfl, Le.c rfl <| Le.c rfl <| Le.e⟩
     ·skip
      refine RQ.guardF rfl rfl rfl rfl ?_
      refine RQ.guardF rfl rfl rfl rfl ?_
      refine RQ.guardF rfl rfl rfl rfl ?_
      refine RQ.guardF rfl rfl rfl rfl ?_
      refine RQ.v rfl (V.pickF (d := Bo false) rfl rfl rfl) ?_
      refine RQ.nil ?_
      exact ⟨_, by first | rfl | (simp_all; done) | (simp_all; omega) | grind, rfl, Le.c rfl <| Le.c rfl <| Le.e⟩
    ·intro v9 hv11
     refine CW.cond rfl (fun h12 => ?_) (fun h12 => ?_)
     ·skip
      refine CW.region ?_
      refine RW.v rfl (V.mv (d := .pt 0 (bo 0) 0) rfl rfl) ?_
      refine RW.v rfl (V.mv (d := .pt 0 (bo 0) 0) rfl rfl) ?_
      refine RW.v rfl (V.mv (d := .pt 0 (bo 0) 0) rfl rfl) ?_
      refine RW.v rfl (V.nilP rfl rfl) ?_
      refine RW.v rfl (V.field rfl rfl rfl rfl (by decide) rfl) ?_
      refine RW.v rfl (V.loadPrim (d := I ((partN (⟨(ackedN x s.ack).state, (ackedN x s.ack).iss, (ackedN x s.ack).una, (ackedN x s.ack).rcv, (ackedN x s.ack).wait, (ackedN x s.ack).sent, (ackedN x s.ack).fin, (ackedN x s.ack).peerFin, (ackedN x s.ack).in_, (ackedN x s.ack).late, true, (ackedN x s.ack).due, (ackedN x s.ack).times⟩ : Stream) s).rcv)) rfl rfl (.inl rfl) rfl rfl rfl) ?_
      refine RW.call rfl (impl_AddNum_fn ((partN (⟨(ackedN x s.ack).state, (ackedN x s.ack).iss, (ackedN x s.ack).una, (ackedN x s.ack).rcv, (ackedN x s.ack).wait, (ackedN x s.ack).sent, (ackedN x s.ack).fin, (ackedN x s.ack).peerFin, (ackedN x s.ack).in_, (ackedN x s.ack).late, true, (ackedN x s.ack).due, (ackedN x s.ack).times⟩ : Stream) s).rcv) 1) rfl (.cons (.one (.r .r)) (.cons (.one (.r .r)) (.nil))) fun g13 => ?_
      refine RW.v rfl (V.nilP rfl rfl) ?_
      refine RW.v rfl (V.field rfl rfl rfl rfl (by decide) rfl) ?_
      refine RW.store (d := Bo true) rfl rfl rfl rfl rfl rfl rfl (Nat.le_of_ble_eq_true rfl) rfl rfl ?_
      refine RW.v rfl (V.nilP rfl rfl) ?_
      refine RW.v rfl (V.field rfl rfl rfl rfl (by decide) rfl) ?_
      refine RW.store (d := I (addNum ((partN (⟨(ackedN x s.ack).state, (ackedN x s.ack).iss, (ackedN x s.ack).una, (ackedN x s.ack).rcv, (ackedN x s.ack).wait, (ackedN x s.ack).sent, (ackedN x s.ack).fin, (ackedN x s.ack).peerFin, (ackedN x s.ack).in_, (ackedN x s.ack).late, true, (ackedN x s.ack).due, (ackedN x s.ack).times⟩ : Stream) s).rcv) 1)) rfl rfl rfl rfl rfl rfl rfl (Nat.le_of_ble_eq_true rfl) rfl rfl ?_
      refine RW.nil ?_
      exact Post.tup (by decide) RVs.e (AOs.obE (f := fun e => (Stream.c e).map .w) (e' := (⟨(partN (⟨(ackedN x s.ack).state, (ackedN x s.ack).iss, (ackedN x s.ack).una, (ackedN x s.ack).rcv, (ackedN x s.ack).wait, (ackedN x s.ack).sent, (ackedN x s.ack).fin, (ackedN x s.ack).peerFin, (ackedN x s.ack).in_, (ackedN x s.ack).late, true, (ackedN x s.ack).due, (ackedN x s.ack).times⟩ : Stream) s).state, (partN (⟨(ackedN x s.ack).state, (ackedN x s.ack).iss, (ackedN x s.ack).una, (ackedN x s.ack).rcv, (ackedN x s.ack).wait, (ackedN x s.ack).sent, (ackedN x s.ack).fin, (ackedN x s.ack).peerFin, (ackedN x s.ack).in_, (ackedN x s.ack).late, true, (ackedN x s.ack).due, (ackedN x s.ack).times⟩ : Stream) s).iss, (partN (⟨(ackedN x s.ack).state, (ackedN x s.ack).iss, (ackedN x s.ack).una, (ackedN x s.ack).rcv, (ackedN x s.ack).wait, (ackedN x s.ack).sent, (ackedN x s.ack).fin, (ackedN x s.ack).peerFin, (ackedN x s.ack).in_, (ackedN x s.ack).late, true, (ackedN x s.ack).due, (ackedN x s.ack).times⟩ : Stream) s).una, (addNum ((partN (⟨(ackedN x s.ack).state, (ackedN x s.ack).iss, (ackedN x s.ack).una, (ackedN x s.ack).rcv, (ackedN x s.ack).wait, (ackedN x s.ack).sent, (ackedN x s.ack).fin, (ackedN x s.ack).peerFin, (ackedN x s.ack).in_, (ackedN x s.ack).late, true, (ackedN x s.ack).due, (ackedN x s.ack).times⟩ : Stream) s).rcv) 1), (partN (⟨(ackedN x s.ack).state, (ackedN x s.ack).iss, (ackedN x s.ack).una, (ackedN x s.ack).rcv, (ackedN x s.ack).wait, (ackedN x s.ack).sent, (ackedN x s.ack).fin, (ackedN x s.ack).peerFin, (ackedN x s.ack).in_, (ackedN x s.ack).late, true, (ackedN x s.ack).due, (ackedN x s.ack).times⟩ : Stream) s).wait, (partN (⟨(ackedN x s.ack).state, (ackedN x s.ack).iss, (ackedN x s.ack).una, (ackedN x s.ack).rcv, (ackedN x s.ack).wait, (ackedN x s.ack).sent, (ackedN x s.ack).fin, (ackedN x s.ack).peerFin, (ackedN x s.ack).in_, (ackedN x s.ack).late, true, (ackedN x s.ack).due, (ackedN x s.ack).times⟩ : Stream) s).sent, (partN (⟨(ackedN x s.ack).state, (ackedN x s.ack).iss, (ackedN x s.ack).una, (ackedN x s.ack).rcv, (ackedN x s.ack).wait, (ackedN x s.ack).sent, (ackedN x s.ack).fin, (ackedN x s.ack).peerFin, (ackedN x s.ack).in_, (ackedN x s.ack).late, true, (ackedN x s.ack).due, (ackedN x s.ack).times⟩ : Stream) s).fin, true, (partN (⟨(ackedN x s.ack).state, (ackedN x s.ack).iss, (ackedN x s.ack).una, (ackedN x s.ack).rcv, (ackedN x s.ack).wait, (ackedN x s.ack).sent, (ackedN x s.ack).fin, (ackedN x s.ack).peerFin, (ackedN x s.ack).in_, (ackedN x s.ack).late, true, (ackedN x s.ack).due, (ackedN x s.ack).times⟩ : Stream) s).in_, (partN (⟨(ackedN x s.ack).state, (ackedN x s.ack).iss, (ackedN x s.ack).una, (ackedN x s.ack).rcv, (ackedN x s.ack).wait, (ackedN x s.ack).sent, (ackedN x s.ack).fin, (ackedN x s.ack).peerFin, (ackedN x s.ack).in_, (ackedN x s.ack).late, true, (ackedN x s.ack).due, (ackedN x s.ack).times⟩ : Stream) s).late, true, (partN (⟨(ackedN x s.ack).state, (ackedN x s.ack).iss, (ackedN x s.ack).una, (ackedN x s.ack).rcv, (ackedN x s.ack).wait, (ackedN x s.ack).sent, (ackedN x s.ack).fin, (ackedN x s.ack).peerFin, (ackedN x s.ack).in_, (ackedN x s.ack).late, true, (ackedN x s.ack).due, (ackedN x s.ack).times⟩ : Stream) s).due, (partN (⟨(ackedN x s.ack).state, (ackedN x s.ack).iss, (ackedN x s.ack).una, (ackedN x s.ack).rcv, (ackedN x s.ack).wait, (ackedN x s.ack).sent, (ackedN x s.ack).fin, (ackedN x s.ack).peerFin, (ackedN x s.ack).in_, (ackedN x s.ack).late, true, (ackedN x s.ack).due, (ackedN x s.ack).times⟩ : Stream) s).times⟩ : Stream)) rfl (DT.v (DT.v (DT.v (DT.v (DT.v (DT.v (DT.v (DT.v (DT.v (DT.w (DT.v (DT.v (DT.v DT.e))))))))))))) (by unfold hearOpenN finN emp; first | (simp_all; done) | grind) (AOs.a rfl AOs.e))
     ·skip
      refine CW.skip ?_
      exact Post.tup (by decide) RVs.e (AOs.obE (f := fun e => (Stream.c e).map .w) (e' := (⟨(partN (⟨(ackedN x s.ack).state, (ackedN x s.ack).iss, (ackedN x s.ack).una, (ackedN x s.ack).rcv, (ackedN x s.ack).wait, (ackedN x s.ack).sent, (ackedN x s.ack).fin, (ackedN x s.ack).peerFin, (ackedN x s.ack).in_, (ackedN x s.ack).late, true, (ackedN x s.ack).due, (ackedN x s.ack).times⟩ : Stream) s).state, (partN (⟨(ackedN x s.ack).state, (ackedN x s.ack).iss, (ackedN x s.ack).una, (ackedN x s.ack).rcv, (ackedN x s.ack).wait, (ackedN x s.ack).sent, (ackedN x s.ack).fin, (ackedN x s.ack).peerFin, (ackedN x s.ack).in_, (ackedN x s.ack).late, true, (ackedN x s.ack).due, (ackedN x s.ack).times⟩ : Stream) s).iss, (partN (⟨(ackedN x s.ack).state, (ackedN x s.ack).iss, (ackedN x s.ack).una, (ackedN x s.ack).rcv, (ackedN x s.ack).wait, (ackedN x s.ack).sent, (ackedN x s.ack).fin, (ackedN x s.ack).peerFin, (ackedN x s.ack).in_, (ackedN x s.ack).late, true, (ackedN x s.ack).due, (ackedN x s.ack).times⟩ : Stream) s).una, (partN (⟨(ackedN x s.ack).state, (ackedN x s.ack).iss, (ackedN x s.ack).una, (ackedN x s.ack).rcv, (ackedN x s.ack).wait, (ackedN x s.ack).sent, (ackedN x s.ack).fin, (ackedN x s.ack).peerFin, (ackedN x s.ack).in_, (ackedN x s.ack).late, true, (ackedN x s.ack).due, (ackedN x s.ack).times⟩ : Stream) s).rcv, (partN (⟨(ackedN x s.ack).state, (ackedN x s.ack).iss, (ackedN x s.ack).una, (ackedN x s.ack).rcv, (ackedN x s.ack).wait, (ackedN x s.ack).sent, (ackedN x s.ack).fin, (ackedN x s.ack).peerFin, (ackedN x s.ack).in_, (ackedN x s.ack).late, true, (ackedN x s.ack).due, (ackedN x s.ack).times⟩ : Stream) s).wait, (partN (⟨(ackedN x s.ack).state, (ackedN x s.ack).iss, (ackedN x s.ack).una, (ackedN x s.ack).rcv, (ackedN x s.ack).wait, (ackedN x s.ack).sent, (ackedN x s.ack).fin, (ackedN x s.ack).peerFin, (ackedN x s.ack).in_, (ackedN x s.ack).late, true, (ackedN x s.ack).due, (ackedN x s.ack).times⟩ : Stream) s).sent, (partN (⟨(ackedN x s.ack).state, (ackedN x s.ack).iss, (ackedN x s.ack).una, (ackedN x s.ack).rcv, (ackedN x s.ack).wait, (ackedN x s.ack).sent, (ackedN x s.ack).fin, (ackedN x s.ack).peerFin, (ackedN x s.ack).in_, (ackedN x s.ack).late, true, (ackedN x s.ack).due, (ackedN x s.ack).times⟩ : Stream) s).fin, (partN (⟨(ackedN x s.ack).state, (ackedN x s.ack).iss, (ackedN x s.ack).una, (ackedN x s.ack).rcv, (ackedN x s.ack).wait, (ackedN x s.ack).sent, (ackedN x s.ack).fin, (ackedN x s.ack).peerFin, (ackedN x s.ack).in_, (ackedN x s.ack).late, true, (ackedN x s.ack).due, (ackedN x s.ack).times⟩ : Stream) s).peerFin, (partN (⟨(ackedN x s.ack).state, (ackedN x s.ack).iss, (ackedN x s.ack).una, (ackedN x s.ack).rcv, (ackedN x s.ack).wait, (ackedN x s.ack).sent, (ackedN x s.ack).fin, (ackedN x s.ack).peerFin, (ackedN x s.ack).in_, (ackedN x s.ack).late, true, (ackedN x s.ack).due, (ackedN x s.ack).times⟩ : Stream) s).in_, (partN (⟨(ackedN x s.ack).state, (ackedN x s.ack).iss, (ackedN x s.ack).una, (ackedN x s.ack).rcv, (ackedN x s.ack).wait, (ackedN x s.ack).sent, (ackedN x s.ack).fin, (ackedN x s.ack).peerFin, (ackedN x s.ack).in_, (ackedN x s.ack).late, true, (ackedN x s.ack).due, (ackedN x s.ack).times⟩ : Stream) s).late, true, (partN (⟨(ackedN x s.ack).state, (ackedN x s.ack).iss, (ackedN x s.ack).una, (ackedN x s.ack).rcv, (ackedN x s.ack).wait, (ackedN x s.ack).sent, (ackedN x s.ack).fin, (ackedN x s.ack).peerFin, (ackedN x s.ack).in_, (ackedN x s.ack).late, true, (ackedN x s.ack).due, (ackedN x s.ack).times⟩ : Stream) s).due, (partN (⟨(ackedN x s.ack).state, (ackedN x s.ack).iss, (ackedN x s.ack).una, (ackedN x s.ack).rcv, (ackedN x s.ack).wait, (ackedN x s.ack).sent, (ackedN x s.ack).fin, (ackedN x s.ack).peerFin, (ackedN x s.ack).in_, (ackedN x s.ack).late, true, (ackedN x s.ack).due, (ackedN x s.ack).times⟩ : Stream) s).times⟩ : Stream)) rfl (DT.v (DT.v (DT.v (DT.v (DT.v (DT.v (DT.v (DT.v (DT.v (DT.w (DT.v (DT.v (DT.v DT.e))))))))))))) (by unfold hearOpenN finN emp; first | (simp_all; done) | grind) (AOs.a rfl AOs.e))
  ·skip
   refine CW.skip ?_
   refine CW.le [(0, .obj (bo 0) [I ((ackedN x s.ack).state), I ((ackedN x s.ack).iss), I ((ackedN x s.ack).una), I ((ackedN x s.ack).rcv), S ((ackedN x s.ack).wait), I ((ackedN x s.ack).sent), I ((ackedN x s.ack).fin), Bo ((ackedN x s.ack).peerFin), S ((ackedN x s.ack).in_), .w (sl 2 Late.c ((ackedN x s.ack).late)) (q4 9), Bo ((ackedN x s.ack).owe), I ((ackedN x s.ack).due), I ((ackedN x s.ack).times)]), (3, .obj b1 ((Seg.c s).map .r))] rfl (Le.of rfl) ?_
   refine CW.seq ?_
   refine CW.seq ?_
   refine CW.region ?_
   refine RW.v rfl (V.field rfl rfl rfl rfl (by decide) rfl) ?_
   refine RW.v rfl (V.loadPrim (d := I s.flags) rfl rfl (.inl rfl) rfl rfl rfl) ?_
   refine RW.v rfl (V.bits rfl rfl rfl rfl) ?_
   refine RW.v rfl (V.cmpInt rfl rfl rfl rfl) ?_
   refine RW.nil ?_
   refine CW.le [(0, .obj (bo 0) [I ((ackedN x s.ack).state), I ((ackedN x s.ack).iss), I ((ackedN x s.ack).una), I ((ackedN x s.ack).rcv), S ((ackedN x s.ack).wait), I ((ackedN x s.ack).sent), I ((ackedN x s.ack).fin), Bo ((ackedN x s.ack).peerFin), S ((ackedN x s.ack).in_), .w (sl 2 Late.c ((ackedN x s.ack).late)) (q4 9), Bo ((ackedN x s.ack).owe), I ((ackedN x s.ack).due), I ((ackedN x s.ack).times)]), (3, .obj b1 ((Seg.c s).map .r)), (24, Bo ((andI s.flags 4) == 0))] rfl (Le.of rfl) ?_
   refine CW.cond rfl (fun h14 => ?_) (fun h14 => ?_)
   ·skip
    refine CW.ret ?_
    exact Post.tup (by decide) RVs.e (AOs.obE (f := fun e => (Stream.c e).map .w) (e' := (ackedN x s.ack)) rfl (DT.v (DT.v (DT.v (DT.v (DT.v (DT.v (DT.v (DT.v (DT.v (DT.w (DT.v (DT.v (DT.v DT.e))))))))))))) (by unfold hearOpenN finN emp; first | (simp_all; done) | grind) (AOs.a rfl AOs.e))
   ·skip
    refine CW.skip ?_
    refine CW.le [(0, .obj (bo 0) [I ((ackedN x s.ack).state), I ((ackedN x s.ack).iss), I ((ackedN x s.ack).una), I ((ackedN x s.ack).rcv), S ((ackedN x s.ack).wait), I ((ackedN x s.ack).sent), I ((ackedN x s.ack).fin), Bo ((ackedN x s.ack).peerFin), S ((ackedN x s.ack).in_), .w (sl 2 Late.c ((ackedN x s.ack).late)) (q4 9), Bo ((ackedN x s.ack).owe), I ((ackedN x s.ack).due), I ((ackedN x s.ack).times)]), (3, .obj b1 ((Seg.c s).map .r))] rfl (Le.of rfl) ?_
    refine CW.seq ?_
    refine CW.region ?_
    refine RW.v rfl (V.mv (d := .pt 0 (bo 0) 0) rfl rfl) ?_
    refine RW.v rfl (V.nilP rfl rfl) ?_
    refine RW.v rfl (V.field rfl rfl rfl rfl (by decide) rfl) ?_
    refine RW.store (d := Bo true) rfl rfl rfl rfl rfl rfl rfl (Nat.le_of_ble_eq_true rfl) rfl rfl ?_
    refine RW.nil ?_
    refine CW.le [(0, .obj (bo 0) [I ((ackedN x s.ack).state), I ((ackedN x s.ack).iss), I ((ackedN x s.ack).una), I ((ackedN x s.ack).rcv), S ((ackedN x s.ack).wait), I ((ackedN x s.ack).sent), I ((ackedN x s.ack).fin), Bo ((ackedN x s.ack).peerFin), S ((ackedN x s.ack).in_), .w (sl 2 Late.c ((ackedN x s.ack).late)) (q4 9), Bo true, I ((ackedN x s.ack).due), I ((ackedN x s.ack).times)]), (3, .obj b1 ((Seg.c s).map .r))] rfl (Le.of rfl) ?_
    refine CW.seqJ 57 (fun (v15 : Bool) => [(0, .obj (bo 0) [I ((ackedN x s.ack).state), I ((ackedN x s.ack).iss), I ((ackedN x s.ack).una), I ((ackedN x s.ack).rcv), S ((ackedN x s.ack).wait), I ((ackedN x s.ack).sent), I ((ackedN x s.ack).fin), Bo ((ackedN x s.ack).peerFin), S ((ackedN x s.ack).in_), .w (sl 2 Late.c ((ackedN x s.ack).late)) (q4 9), Bo true, I ((ackedN x s.ack).due), I ((ackedN x s.ack).times)]), (45, Bo v15)]) (fun v15 => v15 = (((addNum s.num (s.body.size : Int)) == (ackedN x s.ack).rcv) && (!(ackedN x s.ack).peerFin))) ?_ ?_
    ·refine CW.drawn (by kernel_rfl) ?_
     refine RQ.v rfl (V.field rfl rfl rfl rfl (by decide) rfl) ?_
     refine RQ.v rfl (V.loadPrim (d := I s.num) rfl rfl (.inl rfl) rfl rfl rfl) ?_
     refine RQ.v rfl (V.field rfl rfl rfl rfl (by decide) rfl) ?_
     refine RQ.v rfl (V.loadPrim (d := S s.body) rfl rfl (.inl rfl) rfl rfl rfl) ?_
     refine RQ.v rfl (V.lenStr rfl (by kernel_rfl) rfl) ?_
     refine RQ.cons rfl (QOK.call (impl_AddNum_fn s.num (s.body.size : Int)) rfl (.cons (.one (.r .r)) (.cons (.one (.r .r)) (.nil))) ?_)
     refine RQ.v rfl (V.mv (d := .pt 0 (bo 0) 0) rfl rfl) ?_
     refine RQ.v rfl (V.nilP rfl rfl) ?_
     refine RQ.v rfl (V.field rfl rfl rfl rfl (by decide) rfl) ?_
     refine RQ.v rfl (V.loadPrim (d := I ((ackedN x s.ack).rcv)) rfl rfl (.inl rfl) rfl rfl rfl) ?_
     refine RQ.v rfl (V.cmpInt rfl rfl rfl rfl) ?_
     refine RQ.v rfl (V.mv (d := Bo ((addNum s.num (s.body.size : Int)) == (ackedN x s.ack).rcv)) rfl rfl) ?_
     refine RQ.gv rfl rfl rfl rfl (fun h16 => V.mv (d := .pt 0 (bo 0) 0) rfl rfl) (fun h16 => ?_) (fun h16 => ?_)
     ·skip
      refine RQ.gt rfl rfl rfl rfl (V.nilP rfl rfl) ?_
      refine RQ.gt rfl rfl rfl rfl (V.field rfl rfl rfl rfl (by decide) rfl) ?_
      refine RQ.gt rfl rfl rfl rfl (V.loadPrim (d := Bo ((ackedN x s.ack).peerFin)) rfl rfl (.inl rfl) rfl rfl rfl) ?_
      refine RQ.gt rfl rfl rfl rfl (V.not rfl rfl) ?_
      refine RQ.v rfl (V.pickT (d := Bo (!(ackedN x s.ack).peerFin)) rfl rfl rfl) ?_
      refine RQ.nil ?_
      exact ⟨_, by first | rfl | (simp_all; done) | (simp_all; omega) | grind, rfl, Le.c rfl <| Le.c rfl <| Le.e⟩
     ·skip
      refine RQ.guardF rfl rfl rfl rfl ?_
      refine RQ.guardF rfl rfl rfl rfl ?_
      refine RQ.guardF rfl rfl rfl rfl ?_
      refine RQ.guardF rfl rfl rfl rfl ?_
      refine RQ.v rfl (V.pickF (d := Bo false) rfl rfl rfl) ?_
      refine RQ.nil ?_
      exact ⟨_, by first | rfl | (simp_all; done) | (simp_all; omega) | grind, rfl, Le.c rfl <| Le.c rfl <| Le.e⟩
    ·intro v15 hv17
     refine CW.cond rfl (fun h18 => ?_) (fun h18 => ?_)
     ·skip
      refine CW.region ?_
      refine RW.v rfl (V.mv (d := .pt 0 (bo 0) 0) rfl rfl) ?_
      refine RW.v rfl (V.mv (d := .pt 0 (bo 0) 0) rfl rfl) ?_
      refine RW.v rfl (V.mv (d := .pt 0 (bo 0) 0) rfl rfl) ?_
      refine RW.v rfl (V.nilP rfl rfl) ?_
      refine RW.v rfl (V.field rfl rfl rfl rfl (by decide) rfl) ?_
      refine RW.v rfl (V.loadPrim (d := I ((ackedN x s.ack).rcv)) rfl rfl (.inl rfl) rfl rfl rfl) ?_
      refine RW.call rfl (impl_AddNum_fn ((ackedN x s.ack).rcv) 1) rfl (.cons (.one (.r .r)) (.cons (.one (.r .r)) (.nil))) fun g19 => ?_
      refine RW.v rfl (V.nilP rfl rfl) ?_
      refine RW.v rfl (V.field rfl rfl rfl rfl (by decide) rfl) ?_
      refine RW.store (d := Bo true) rfl rfl rfl rfl rfl rfl rfl (Nat.le_of_ble_eq_true rfl) rfl rfl ?_
      refine RW.v rfl (V.nilP rfl rfl) ?_
      refine RW.v rfl (V.field rfl rfl rfl rfl (by decide) rfl) ?_
      refine RW.store (d := I (addNum ((ackedN x s.ack).rcv) 1)) rfl rfl rfl rfl rfl rfl rfl (Nat.le_of_ble_eq_true rfl) rfl rfl ?_
      refine RW.nil ?_
      exact Post.tup (by decide) RVs.e (AOs.obE (f := fun e => (Stream.c e).map .w) (e' := (⟨(ackedN x s.ack).state, (ackedN x s.ack).iss, (ackedN x s.ack).una, (addNum ((ackedN x s.ack).rcv) 1), (ackedN x s.ack).wait, (ackedN x s.ack).sent, (ackedN x s.ack).fin, true, (ackedN x s.ack).in_, (ackedN x s.ack).late, true, (ackedN x s.ack).due, (ackedN x s.ack).times⟩ : Stream)) rfl (DT.v (DT.v (DT.v (DT.v (DT.v (DT.v (DT.v (DT.v (DT.v (DT.w (DT.v (DT.v (DT.v DT.e))))))))))))) (by unfold hearOpenN finN emp; first | (simp_all; done) | grind) (AOs.a rfl AOs.e))
     ·skip
      refine CW.skip ?_
      exact Post.tup (by decide) RVs.e (AOs.obE (f := fun e => (Stream.c e).map .w) (e' := (⟨(ackedN x s.ack).state, (ackedN x s.ack).iss, (ackedN x s.ack).una, (ackedN x s.ack).rcv, (ackedN x s.ack).wait, (ackedN x s.ack).sent, (ackedN x s.ack).fin, (ackedN x s.ack).peerFin, (ackedN x s.ack).in_, (ackedN x s.ack).late, true, (ackedN x s.ack).due, (ackedN x s.ack).times⟩ : Stream)) rfl (DT.v (DT.v (DT.v (DT.v (DT.v (DT.v (DT.v (DT.v (DT.v (DT.w (DT.v (DT.v (DT.v DT.e))))))))))))) (by unfold hearOpenN finN emp; first | (simp_all; done) | grind) (AOs.a rfl AOs.e))
 ·skip
  refine CW.skip ?_
  refine CW.le [(0, .obj (bo 0) [I x.state, I x.iss, I x.una, I x.rcv, S x.wait, I x.sent, I x.fin, Bo x.peerFin, S x.in_, .w (sl 2 Late.c x.late) (g 0 9), Bo x.owe, I x.due, I x.times]), (3, .obj b1 ((Seg.c s).map .r))] rfl (Le.of rfl) ?_
  refine CW.seq ?_
  refine CW.seq ?_
  refine CW.region ?_
  refine RW.v rfl (V.field rfl rfl rfl rfl (by decide) rfl) ?_
  refine RW.v rfl (V.loadPrim (d := S s.body) rfl rfl (.inl rfl) rfl rfl rfl) ?_
  refine RW.v rfl (V.strCmp rfl rfl rfl rfl) ?_
  refine RW.nil ?_
  refine CW.le [(0, .obj (bo 0) [I x.state, I x.iss, I x.una, I x.rcv, S x.wait, I x.sent, I x.fin, Bo x.peerFin, S x.in_, .w (sl 2 Late.c x.late) (g 0 9), Bo x.owe, I x.due, I x.times]), (3, .obj b1 ((Seg.c s).map .r)), (14, Bo (!(s.body.toList == (⟨#[]⟩ : ByteArray).toList)))] rfl (Le.of rfl) ?_
  refine CW.cond rfl (fun h20 => ?_) (fun h20 => ?_)
  ·skip
   refine CW.seq ?_
   refine CW.region ?_
   refine RW.v rfl (V.mv (d := .pt 0 (bo 0) 0) rfl rfl) ?_
   refine RW.v rfl (V.nilP rfl rfl) ?_
   refine RW.v rfl (V.field rfl rfl rfl rfl (by decide) rfl) ?_
   refine RW.store (d := Bo true) rfl rfl rfl rfl rfl rfl rfl (Nat.le_of_ble_eq_true rfl) rfl rfl ?_
   refine RW.nil ?_
   refine CW.le [(0, .obj (bo 0) [I x.state, I x.iss, I x.una, I x.rcv, S x.wait, I x.sent, I x.fin, Bo x.peerFin, S x.in_, .w (sl 2 Late.c x.late) (g 0 9), Bo true, I x.due, I x.times]), (3, .obj b1 ((Seg.c s).map .r))] rfl (Le.of rfl) ?_
   refine CW.region ?_
   refine RW.v rfl (V.mv (d := .pt 0 (bo 0) 0) rfl rfl) ?_
   refine RW.v rfl (V.loadAgg rfl rfl rfl rfl rfl (Nat.le_of_ble_eq_true rfl)) ?_
   refine RW.callW (k := 0) (__impl_Stream__part_fn (⟨x.state, x.iss, x.una, x.rcv, x.wait, x.sent, x.fin, x.peerFin, x.in_, x.late, true, x.due, x.times⟩ : Stream) s (by first | exact hp | exact ackedN_part hp _) hb8) rfl rfl (Nat.le_of_ble_eq_true rfl) (by decide) (.here (AsW.ob (DT.v (DT.v (DT.v (DT.v (DT.v (DT.v (DT.v (DT.v (DT.v (DT.w (DT.v (DT.v (DT.v DT.e))))))))))))) rfl) (.cons (.agg (.cons (.r .r) (.cons (.r .r) (.cons (.r .r) (.cons (.r .r) (.nil)))))) (.nil))) rfl fun g21 q22 => ?_
   refine RW.nil ?_
   refine CW.le [(0, .obj (bo 0) [I ((partN (⟨x.state, x.iss, x.una, x.rcv, x.wait, x.sent, x.fin, x.peerFin, x.in_, x.late, true, x.due, x.times⟩ : Stream) s).state), I ((partN (⟨x.state, x.iss, x.una, x.rcv, x.wait, x.sent, x.fin, x.peerFin, x.in_, x.late, true, x.due, x.times⟩ : Stream) s).iss), I ((partN (⟨x.state, x.iss, x.una, x.rcv, x.wait, x.sent, x.fin, x.peerFin, x.in_, x.late, true, x.due, x.times⟩ : Stream) s).una), I ((partN (⟨x.state, x.iss, x.una, x.rcv, x.wait, x.sent, x.fin, x.peerFin, x.in_, x.late, true, x.due, x.times⟩ : Stream) s).rcv), S ((partN (⟨x.state, x.iss, x.una, x.rcv, x.wait, x.sent, x.fin, x.peerFin, x.in_, x.late, true, x.due, x.times⟩ : Stream) s).wait), I ((partN (⟨x.state, x.iss, x.una, x.rcv, x.wait, x.sent, x.fin, x.peerFin, x.in_, x.late, true, x.due, x.times⟩ : Stream) s).sent), I ((partN (⟨x.state, x.iss, x.una, x.rcv, x.wait, x.sent, x.fin, x.peerFin, x.in_, x.late, true, x.due, x.times⟩ : Stream) s).fin), Bo ((partN (⟨x.state, x.iss, x.una, x.rcv, x.wait, x.sent, x.fin, x.peerFin, x.in_, x.late, true, x.due, x.times⟩ : Stream) s).peerFin), S ((partN (⟨x.state, x.iss, x.una, x.rcv, x.wait, x.sent, x.fin, x.peerFin, x.in_, x.late, true, x.due, x.times⟩ : Stream) s).in_), .w (sl 2 Late.c ((partN (⟨x.state, x.iss, x.una, x.rcv, x.wait, x.sent, x.fin, x.peerFin, x.in_, x.late, true, x.due, x.times⟩ : Stream) s).late)) (q22 9), Bo ((partN (⟨x.state, x.iss, x.una, x.rcv, x.wait, x.sent, x.fin, x.peerFin, x.in_, x.late, true, x.due, x.times⟩ : Stream) s).owe), I ((partN (⟨x.state, x.iss, x.una, x.rcv, x.wait, x.sent, x.fin, x.peerFin, x.in_, x.late, true, x.due, x.times⟩ : Stream) s).due), I ((partN (⟨x.state, x.iss, x.una, x.rcv, x.wait, x.sent, x.fin, x.peerFin, x.in_, x.late, true, x.due, x.times⟩ : Stream) s).times)]), (3, .obj b1 ((Seg.c s).map .r))] rfl (Le.of rfl) ?_
   refine CW.seq ?_
   refine CW.seq ?_
   refine CW.region ?_
   refine RW.v rfl (V.field rfl rfl rfl rfl (by decide) rfl) ?_
   refine RW.v rfl (V.loadPrim (d := I s.flags) rfl rfl (.inl rfl) rfl rfl rfl) ?_
   refine RW.v rfl (V.bits rfl rfl rfl rfl) ?_
   refine RW.v rfl (V.cmpInt rfl rfl rfl rfl) ?_
   refine RW.nil ?_
   refine CW.le [(0, .obj (bo 0) [I ((partN (⟨x.state, x.iss, x.una, x.rcv, x.wait, x.sent, x.fin, x.peerFin, x.in_, x.late, true, x.due, x.times⟩ : Stream) s).state), I ((partN (⟨x.state, x.iss, x.una, x.rcv, x.wait, x.sent, x.fin, x.peerFin, x.in_, x.late, true, x.due, x.times⟩ : Stream) s).iss), I ((partN (⟨x.state, x.iss, x.una, x.rcv, x.wait, x.sent, x.fin, x.peerFin, x.in_, x.late, true, x.due, x.times⟩ : Stream) s).una), I ((partN (⟨x.state, x.iss, x.una, x.rcv, x.wait, x.sent, x.fin, x.peerFin, x.in_, x.late, true, x.due, x.times⟩ : Stream) s).rcv), S ((partN (⟨x.state, x.iss, x.una, x.rcv, x.wait, x.sent, x.fin, x.peerFin, x.in_, x.late, true, x.due, x.times⟩ : Stream) s).wait), I ((partN (⟨x.state, x.iss, x.una, x.rcv, x.wait, x.sent, x.fin, x.peerFin, x.in_, x.late, true, x.due, x.times⟩ : Stream) s).sent), I ((partN (⟨x.state, x.iss, x.una, x.rcv, x.wait, x.sent, x.fin, x.peerFin, x.in_, x.late, true, x.due, x.times⟩ : Stream) s).fin), Bo ((partN (⟨x.state, x.iss, x.una, x.rcv, x.wait, x.sent, x.fin, x.peerFin, x.in_, x.late, true, x.due, x.times⟩ : Stream) s).peerFin), S ((partN (⟨x.state, x.iss, x.una, x.rcv, x.wait, x.sent, x.fin, x.peerFin, x.in_, x.late, true, x.due, x.times⟩ : Stream) s).in_), .w (sl 2 Late.c ((partN (⟨x.state, x.iss, x.una, x.rcv, x.wait, x.sent, x.fin, x.peerFin, x.in_, x.late, true, x.due, x.times⟩ : Stream) s).late)) (q22 9), Bo ((partN (⟨x.state, x.iss, x.una, x.rcv, x.wait, x.sent, x.fin, x.peerFin, x.in_, x.late, true, x.due, x.times⟩ : Stream) s).owe), I ((partN (⟨x.state, x.iss, x.una, x.rcv, x.wait, x.sent, x.fin, x.peerFin, x.in_, x.late, true, x.due, x.times⟩ : Stream) s).due), I ((partN (⟨x.state, x.iss, x.una, x.rcv, x.wait, x.sent, x.fin, x.peerFin, x.in_, x.late, true, x.due, x.times⟩ : Stream) s).times)]), (3, .obj b1 ((Seg.c s).map .r)), (24, Bo ((andI s.flags 4) == 0))] rfl (Le.of rfl) ?_
   refine CW.cond rfl (fun h23 => ?_) (fun h23 => ?_)
   ·skip
    refine CW.ret ?_
    exact Post.tup (by decide) RVs.e (AOs.obE (f := fun e => (Stream.c e).map .w) (e' := (partN (⟨x.state, x.iss, x.una, x.rcv, x.wait, x.sent, x.fin, x.peerFin, x.in_, x.late, true, x.due, x.times⟩ : Stream) s)) rfl (DT.v (DT.v (DT.v (DT.v (DT.v (DT.v (DT.v (DT.v (DT.v (DT.w (DT.v (DT.v (DT.v DT.e))))))))))))) (by unfold hearOpenN finN emp; first | (simp_all; done) | grind) (AOs.a rfl AOs.e))
   ·skip
    refine CW.skip ?_
    refine CW.le [(0, .obj (bo 0) [I ((partN (⟨x.state, x.iss, x.una, x.rcv, x.wait, x.sent, x.fin, x.peerFin, x.in_, x.late, true, x.due, x.times⟩ : Stream) s).state), I ((partN (⟨x.state, x.iss, x.una, x.rcv, x.wait, x.sent, x.fin, x.peerFin, x.in_, x.late, true, x.due, x.times⟩ : Stream) s).iss), I ((partN (⟨x.state, x.iss, x.una, x.rcv, x.wait, x.sent, x.fin, x.peerFin, x.in_, x.late, true, x.due, x.times⟩ : Stream) s).una), I ((partN (⟨x.state, x.iss, x.una, x.rcv, x.wait, x.sent, x.fin, x.peerFin, x.in_, x.late, true, x.due, x.times⟩ : Stream) s).rcv), S ((partN (⟨x.state, x.iss, x.una, x.rcv, x.wait, x.sent, x.fin, x.peerFin, x.in_, x.late, true, x.due, x.times⟩ : Stream) s).wait), I ((partN (⟨x.state, x.iss, x.una, x.rcv, x.wait, x.sent, x.fin, x.peerFin, x.in_, x.late, true, x.due, x.times⟩ : Stream) s).sent), I ((partN (⟨x.state, x.iss, x.una, x.rcv, x.wait, x.sent, x.fin, x.peerFin, x.in_, x.late, true, x.due, x.times⟩ : Stream) s).fin), Bo ((partN (⟨x.state, x.iss, x.una, x.rcv, x.wait, x.sent, x.fin, x.peerFin, x.in_, x.late, true, x.due, x.times⟩ : Stream) s).peerFin), S ((partN (⟨x.state, x.iss, x.una, x.rcv, x.wait, x.sent, x.fin, x.peerFin, x.in_, x.late, true, x.due, x.times⟩ : Stream) s).in_), .w (sl 2 Late.c ((partN (⟨x.state, x.iss, x.una, x.rcv, x.wait, x.sent, x.fin, x.peerFin, x.in_, x.late, true, x.due, x.times⟩ : Stream) s).late)) (q22 9), Bo ((partN (⟨x.state, x.iss, x.una, x.rcv, x.wait, x.sent, x.fin, x.peerFin, x.in_, x.late, true, x.due, x.times⟩ : Stream) s).owe), I ((partN (⟨x.state, x.iss, x.una, x.rcv, x.wait, x.sent, x.fin, x.peerFin, x.in_, x.late, true, x.due, x.times⟩ : Stream) s).due), I ((partN (⟨x.state, x.iss, x.una, x.rcv, x.wait, x.sent, x.fin, x.peerFin, x.in_, x.late, true, x.due, x.times⟩ : Stream) s).times)]), (3, .obj b1 ((Seg.c s).map .r))] rfl (Le.of rfl) ?_
    refine CW.seq ?_
    refine CW.region ?_
    refine RW.v rfl (V.mv (d := .pt 0 (bo 0) 0) rfl rfl) ?_
    refine RW.v rfl (V.nilP rfl rfl) ?_
    refine RW.v rfl (V.field rfl rfl rfl rfl (by decide) rfl) ?_
    refine RW.store (d := Bo true) rfl rfl rfl rfl rfl rfl rfl (Nat.le_of_ble_eq_true rfl) rfl rfl ?_
    refine RW.nil ?_
    refine CW.le [(0, .obj (bo 0) [I ((partN (⟨x.state, x.iss, x.una, x.rcv, x.wait, x.sent, x.fin, x.peerFin, x.in_, x.late, true, x.due, x.times⟩ : Stream) s).state), I ((partN (⟨x.state, x.iss, x.una, x.rcv, x.wait, x.sent, x.fin, x.peerFin, x.in_, x.late, true, x.due, x.times⟩ : Stream) s).iss), I ((partN (⟨x.state, x.iss, x.una, x.rcv, x.wait, x.sent, x.fin, x.peerFin, x.in_, x.late, true, x.due, x.times⟩ : Stream) s).una), I ((partN (⟨x.state, x.iss, x.una, x.rcv, x.wait, x.sent, x.fin, x.peerFin, x.in_, x.late, true, x.due, x.times⟩ : Stream) s).rcv), S ((partN (⟨x.state, x.iss, x.una, x.rcv, x.wait, x.sent, x.fin, x.peerFin, x.in_, x.late, true, x.due, x.times⟩ : Stream) s).wait), I ((partN (⟨x.state, x.iss, x.una, x.rcv, x.wait, x.sent, x.fin, x.peerFin, x.in_, x.late, true, x.due, x.times⟩ : Stream) s).sent), I ((partN (⟨x.state, x.iss, x.una, x.rcv, x.wait, x.sent, x.fin, x.peerFin, x.in_, x.late, true, x.due, x.times⟩ : Stream) s).fin), Bo ((partN (⟨x.state, x.iss, x.una, x.rcv, x.wait, x.sent, x.fin, x.peerFin, x.in_, x.late, true, x.due, x.times⟩ : Stream) s).peerFin), S ((partN (⟨x.state, x.iss, x.una, x.rcv, x.wait, x.sent, x.fin, x.peerFin, x.in_, x.late, true, x.due, x.times⟩ : Stream) s).in_), .w (sl 2 Late.c ((partN (⟨x.state, x.iss, x.una, x.rcv, x.wait, x.sent, x.fin, x.peerFin, x.in_, x.late, true, x.due, x.times⟩ : Stream) s).late)) (q22 9), Bo true, I ((partN (⟨x.state, x.iss, x.una, x.rcv, x.wait, x.sent, x.fin, x.peerFin, x.in_, x.late, true, x.due, x.times⟩ : Stream) s).due), I ((partN (⟨x.state, x.iss, x.una, x.rcv, x.wait, x.sent, x.fin, x.peerFin, x.in_, x.late, true, x.due, x.times⟩ : Stream) s).times)]), (3, .obj b1 ((Seg.c s).map .r))] rfl (Le.of rfl) ?_
    refine CW.seqJ 57 (fun (v24 : Bool) => [(0, .obj (bo 0) [I ((partN (⟨x.state, x.iss, x.una, x.rcv, x.wait, x.sent, x.fin, x.peerFin, x.in_, x.late, true, x.due, x.times⟩ : Stream) s).state), I ((partN (⟨x.state, x.iss, x.una, x.rcv, x.wait, x.sent, x.fin, x.peerFin, x.in_, x.late, true, x.due, x.times⟩ : Stream) s).iss), I ((partN (⟨x.state, x.iss, x.una, x.rcv, x.wait, x.sent, x.fin, x.peerFin, x.in_, x.late, true, x.due, x.times⟩ : Stream) s).una), I ((partN (⟨x.state, x.iss, x.una, x.rcv, x.wait, x.sent, x.fin, x.peerFin, x.in_, x.late, true, x.due, x.times⟩ : Stream) s).rcv), S ((partN (⟨x.state, x.iss, x.una, x.rcv, x.wait, x.sent, x.fin, x.peerFin, x.in_, x.late, true, x.due, x.times⟩ : Stream) s).wait), I ((partN (⟨x.state, x.iss, x.una, x.rcv, x.wait, x.sent, x.fin, x.peerFin, x.in_, x.late, true, x.due, x.times⟩ : Stream) s).sent), I ((partN (⟨x.state, x.iss, x.una, x.rcv, x.wait, x.sent, x.fin, x.peerFin, x.in_, x.late, true, x.due, x.times⟩ : Stream) s).fin), Bo ((partN (⟨x.state, x.iss, x.una, x.rcv, x.wait, x.sent, x.fin, x.peerFin, x.in_, x.late, true, x.due, x.times⟩ : Stream) s).peerFin), S ((partN (⟨x.state, x.iss, x.una, x.rcv, x.wait, x.sent, x.fin, x.peerFin, x.in_, x.late, true, x.due, x.times⟩ : Stream) s).in_), .w (sl 2 Late.c ((partN (⟨x.state, x.iss, x.una, x.rcv, x.wait, x.sent, x.fin, x.peerFin, x.in_, x.late, true, x.due, x.times⟩ : Stream) s).late)) (q22 9), Bo true, I ((partN (⟨x.state, x.iss, x.una, x.rcv, x.wait, x.sent, x.fin, x.peerFin, x.in_, x.late, true, x.due, x.times⟩ : Stream) s).due), I ((partN (⟨x.state, x.iss, x.una, x.rcv, x.wait, x.sent, x.fin, x.peerFin, x.in_, x.late, true, x.due, x.times⟩ : Stream) s).times)]), (45, Bo v24)]) (fun v24 => v24 = (((addNum s.num (s.body.size : Int)) == (partN (⟨x.state, x.iss, x.una, x.rcv, x.wait, x.sent, x.fin, x.peerFin, x.in_, x.late, true, x.due, x.times⟩ : Stream) s).rcv) && (!(partN (⟨x.state, x.iss, x.una, x.rcv, x.wait, x.sent, x.fin, x.peerFin, x.in_, x.late, true, x.due, x.times⟩ : Stream) s).peerFin))) ?_ ?_
    ·refine CW.drawn (by kernel_rfl) ?_
     refine RQ.v rfl (V.field rfl rfl rfl rfl (by decide) rfl) ?_
     refine RQ.v rfl (V.loadPrim (d := I s.num) rfl rfl (.inl rfl) rfl rfl rfl) ?_
     refine RQ.v rfl (V.field rfl rfl rfl rfl (by decide) rfl) ?_
     refine RQ.v rfl (V.loadPrim (d := S s.body) rfl rfl (.inl rfl) rfl rfl rfl) ?_
     refine RQ.v rfl (V.lenStr rfl (by kernel_rfl) rfl) ?_
     refine RQ.cons rfl (QOK.call (impl_AddNum_fn s.num (s.body.size : Int)) rfl (.cons (.one (.r .r)) (.cons (.one (.r .r)) (.nil))) ?_)
     refine RQ.v rfl (V.mv (d := .pt 0 (bo 0) 0) rfl rfl) ?_
     refine RQ.v rfl (V.nilP rfl rfl) ?_
     refine RQ.v rfl (V.field rfl rfl rfl rfl (by decide) rfl) ?_
     refine RQ.v rfl (V.loadPrim (d := I ((partN (⟨x.state, x.iss, x.una, x.rcv, x.wait, x.sent, x.fin, x.peerFin, x.in_, x.late, true, x.due, x.times⟩ : Stream) s).rcv)) rfl rfl (.inl rfl) rfl rfl rfl) ?_
     refine RQ.v rfl (V.cmpInt rfl rfl rfl rfl) ?_
     refine RQ.v rfl (V.mv (d := Bo ((addNum s.num (s.body.size : Int)) == (partN (⟨x.state, x.iss, x.una, x.rcv, x.wait, x.sent, x.fin, x.peerFin, x.in_, x.late, true, x.due, x.times⟩ : Stream) s).rcv)) rfl rfl) ?_
     refine RQ.gv rfl rfl rfl rfl (fun h25 => V.mv (d := .pt 0 (bo 0) 0) rfl rfl) (fun h25 => ?_) (fun h25 => ?_)
     ·skip
      refine RQ.gt rfl rfl rfl rfl (V.nilP rfl rfl) ?_
      refine RQ.gt rfl rfl rfl rfl (V.field rfl rfl rfl rfl (by decide) rfl) ?_
      refine RQ.gt rfl rfl rfl rfl (V.loadPrim (d := Bo ((partN (⟨x.state, x.iss, x.una, x.rcv, x.wait, x.sent, x.fin, x.peerFin, x.in_, x.late, true, x.due, x.times⟩ : Stream) s).peerFin)) rfl rfl (.inl rfl) rfl rfl rfl) ?_
      refine RQ.gt rfl rfl rfl rfl (V.not rfl rfl) ?_
      refine RQ.v rfl (V.pickT (d := Bo (!(partN (⟨x.state, x.iss, x.una, x.rcv, x.wait, x.sent, x.fin, x.peerFin, x.in_, x.late, true, x.due, x.times⟩ : Stream) s).peerFin)) rfl rfl rfl) ?_
      refine RQ.nil ?_
      exact ⟨_, by first | rfl | (simp_all; done) | (simp_all; omega) | grind, rfl, Le.c rfl <| Le.c rfl <| Le.e⟩
     ·skip
      refine RQ.guardF rfl rfl rfl rfl ?_
      refine RQ.guardF rfl rfl rfl rfl ?_
      refine RQ.guardF rfl rfl rfl rfl ?_
      refine RQ.guardF rfl rfl rfl rfl ?_
      refine RQ.v rfl (V.pickF (d := Bo false) rfl rfl rfl) ?_
      refine RQ.nil ?_
      exact ⟨_, by first | rfl | (simp_all; done) | (simp_all; omega) | grind, rfl, Le.c rfl <| Le.c rfl <| Le.e⟩
    ·intro v24 hv26
     refine CW.cond rfl (fun h27 => ?_) (fun h27 => ?_)
     ·skip
      refine CW.region ?_
      refine RW.v rfl (V.mv (d := .pt 0 (bo 0) 0) rfl rfl) ?_
      refine RW.v rfl (V.mv (d := .pt 0 (bo 0) 0) rfl rfl) ?_
      refine RW.v rfl (V.mv (d := .pt 0 (bo 0) 0) rfl rfl) ?_
      refine RW.v rfl (V.nilP rfl rfl) ?_
      refine RW.v rfl (V.field rfl rfl rfl rfl (by decide) rfl) ?_
      refine RW.v rfl (V.loadPrim (d := I ((partN (⟨x.state, x.iss, x.una, x.rcv, x.wait, x.sent, x.fin, x.peerFin, x.in_, x.late, true, x.due, x.times⟩ : Stream) s).rcv)) rfl rfl (.inl rfl) rfl rfl rfl) ?_
      refine RW.call rfl (impl_AddNum_fn ((partN (⟨x.state, x.iss, x.una, x.rcv, x.wait, x.sent, x.fin, x.peerFin, x.in_, x.late, true, x.due, x.times⟩ : Stream) s).rcv) 1) rfl (.cons (.one (.r .r)) (.cons (.one (.r .r)) (.nil))) fun g28 => ?_
      refine RW.v rfl (V.nilP rfl rfl) ?_
      refine RW.v rfl (V.field rfl rfl rfl rfl (by decide) rfl) ?_
      refine RW.store (d := Bo true) rfl rfl rfl rfl rfl rfl rfl (Nat.le_of_ble_eq_true rfl) rfl rfl ?_
      refine RW.v rfl (V.nilP rfl rfl) ?_
      refine RW.v rfl (V.field rfl rfl rfl rfl (by decide) rfl) ?_
      refine RW.store (d := I (addNum ((partN (⟨x.state, x.iss, x.una, x.rcv, x.wait, x.sent, x.fin, x.peerFin, x.in_, x.late, true, x.due, x.times⟩ : Stream) s).rcv) 1)) rfl rfl rfl rfl rfl rfl rfl (Nat.le_of_ble_eq_true rfl) rfl rfl ?_
      refine RW.nil ?_
      exact Post.tup (by decide) RVs.e (AOs.obE (f := fun e => (Stream.c e).map .w) (e' := (⟨(partN (⟨x.state, x.iss, x.una, x.rcv, x.wait, x.sent, x.fin, x.peerFin, x.in_, x.late, true, x.due, x.times⟩ : Stream) s).state, (partN (⟨x.state, x.iss, x.una, x.rcv, x.wait, x.sent, x.fin, x.peerFin, x.in_, x.late, true, x.due, x.times⟩ : Stream) s).iss, (partN (⟨x.state, x.iss, x.una, x.rcv, x.wait, x.sent, x.fin, x.peerFin, x.in_, x.late, true, x.due, x.times⟩ : Stream) s).una, (addNum ((partN (⟨x.state, x.iss, x.una, x.rcv, x.wait, x.sent, x.fin, x.peerFin, x.in_, x.late, true, x.due, x.times⟩ : Stream) s).rcv) 1), (partN (⟨x.state, x.iss, x.una, x.rcv, x.wait, x.sent, x.fin, x.peerFin, x.in_, x.late, true, x.due, x.times⟩ : Stream) s).wait, (partN (⟨x.state, x.iss, x.una, x.rcv, x.wait, x.sent, x.fin, x.peerFin, x.in_, x.late, true, x.due, x.times⟩ : Stream) s).sent, (partN (⟨x.state, x.iss, x.una, x.rcv, x.wait, x.sent, x.fin, x.peerFin, x.in_, x.late, true, x.due, x.times⟩ : Stream) s).fin, true, (partN (⟨x.state, x.iss, x.una, x.rcv, x.wait, x.sent, x.fin, x.peerFin, x.in_, x.late, true, x.due, x.times⟩ : Stream) s).in_, (partN (⟨x.state, x.iss, x.una, x.rcv, x.wait, x.sent, x.fin, x.peerFin, x.in_, x.late, true, x.due, x.times⟩ : Stream) s).late, true, (partN (⟨x.state, x.iss, x.una, x.rcv, x.wait, x.sent, x.fin, x.peerFin, x.in_, x.late, true, x.due, x.times⟩ : Stream) s).due, (partN (⟨x.state, x.iss, x.una, x.rcv, x.wait, x.sent, x.fin, x.peerFin, x.in_, x.late, true, x.due, x.times⟩ : Stream) s).times⟩ : Stream)) rfl (DT.v (DT.v (DT.v (DT.v (DT.v (DT.v (DT.v (DT.v (DT.v (DT.w (DT.v (DT.v (DT.v DT.e))))))))))))) (by unfold hearOpenN finN emp; first | (simp_all; done) | grind) (AOs.a rfl AOs.e))
     ·skip
      refine CW.skip ?_
      exact Post.tup (by decide) RVs.e (AOs.obE (f := fun e => (Stream.c e).map .w) (e' := (⟨(partN (⟨x.state, x.iss, x.una, x.rcv, x.wait, x.sent, x.fin, x.peerFin, x.in_, x.late, true, x.due, x.times⟩ : Stream) s).state, (partN (⟨x.state, x.iss, x.una, x.rcv, x.wait, x.sent, x.fin, x.peerFin, x.in_, x.late, true, x.due, x.times⟩ : Stream) s).iss, (partN (⟨x.state, x.iss, x.una, x.rcv, x.wait, x.sent, x.fin, x.peerFin, x.in_, x.late, true, x.due, x.times⟩ : Stream) s).una, (partN (⟨x.state, x.iss, x.una, x.rcv, x.wait, x.sent, x.fin, x.peerFin, x.in_, x.late, true, x.due, x.times⟩ : Stream) s).rcv, (partN (⟨x.state, x.iss, x.una, x.rcv, x.wait, x.sent, x.fin, x.peerFin, x.in_, x.late, true, x.due, x.times⟩ : Stream) s).wait, (partN (⟨x.state, x.iss, x.una, x.rcv, x.wait, x.sent, x.fin, x.peerFin, x.in_, x.late, true, x.due, x.times⟩ : Stream) s).sent, (partN (⟨x.state, x.iss, x.una, x.rcv, x.wait, x.sent, x.fin, x.peerFin, x.in_, x.late, true, x.due, x.times⟩ : Stream) s).fin, (partN (⟨x.state, x.iss, x.una, x.rcv, x.wait, x.sent, x.fin, x.peerFin, x.in_, x.late, true, x.due, x.times⟩ : Stream) s).peerFin, (partN (⟨x.state, x.iss, x.una, x.rcv, x.wait, x.sent, x.fin, x.peerFin, x.in_, x.late, true, x.due, x.times⟩ : Stream) s).in_, (partN (⟨x.state, x.iss, x.una, x.rcv, x.wait, x.sent, x.fin, x.peerFin, x.in_, x.late, true, x.due, x.times⟩ : Stream) s).late, true, (partN (⟨x.state, x.iss, x.una, x.rcv, x.wait, x.sent, x.fin, x.peerFin, x.in_, x.late, true, x.due, x.times⟩ : Stream) s).due, (partN (⟨x.state, x.iss, x.una, x.rcv, x.wait, x.sent, x.fin, x.peerFin, x.in_, x.late, true, x.due, x.times⟩ : Stream) s).times⟩ : Stream)) rfl (DT.v (DT.v (DT.v (DT.v (DT.v (DT.v (DT.v (DT.v (DT.v (DT.w (DT.v (DT.v (DT.v DT.e))))))))))))) (by unfold hearOpenN finN emp; first | (simp_all; done) | grind) (AOs.a rfl AOs.e))
  ·skip
   refine CW.skip ?_
   refine CW.le [(0, .obj (bo 0) [I x.state, I x.iss, I x.una, I x.rcv, S x.wait, I x.sent, I x.fin, Bo x.peerFin, S x.in_, .w (sl 2 Late.c x.late) (g 0 9), Bo x.owe, I x.due, I x.times]), (3, .obj b1 ((Seg.c s).map .r))] rfl (Le.of rfl) ?_
   refine CW.seq ?_
   refine CW.seq ?_
   refine CW.region ?_
   refine RW.v rfl (V.field rfl rfl rfl rfl (by decide) rfl) ?_
   refine RW.v rfl (V.loadPrim (d := I s.flags) rfl rfl (.inl rfl) rfl rfl rfl) ?_
   refine RW.v rfl (V.bits rfl rfl rfl rfl) ?_
   refine RW.v rfl (V.cmpInt rfl rfl rfl rfl) ?_
   refine RW.nil ?_
   refine CW.le [(0, .obj (bo 0) [I x.state, I x.iss, I x.una, I x.rcv, S x.wait, I x.sent, I x.fin, Bo x.peerFin, S x.in_, .w (sl 2 Late.c x.late) (g 0 9), Bo x.owe, I x.due, I x.times]), (3, .obj b1 ((Seg.c s).map .r)), (24, Bo ((andI s.flags 4) == 0))] rfl (Le.of rfl) ?_
   refine CW.cond rfl (fun h29 => ?_) (fun h29 => ?_)
   ·skip
    refine CW.ret ?_
    exact Post.tup (by decide) RVs.e (AOs.obE (f := fun e => (Stream.c e).map .w) (e' := x) rfl (DT.v (DT.v (DT.v (DT.v (DT.v (DT.v (DT.v (DT.v (DT.v (DT.w (DT.v (DT.v (DT.v DT.e))))))))))))) (by unfold hearOpenN finN emp; first | (simp_all; done) | grind) (AOs.a rfl AOs.e))
   ·skip
    refine CW.skip ?_
    refine CW.le [(0, .obj (bo 0) [I x.state, I x.iss, I x.una, I x.rcv, S x.wait, I x.sent, I x.fin, Bo x.peerFin, S x.in_, .w (sl 2 Late.c x.late) (g 0 9), Bo x.owe, I x.due, I x.times]), (3, .obj b1 ((Seg.c s).map .r))] rfl (Le.of rfl) ?_
    refine CW.seq ?_
    refine CW.region ?_
    refine RW.v rfl (V.mv (d := .pt 0 (bo 0) 0) rfl rfl) ?_
    refine RW.v rfl (V.nilP rfl rfl) ?_
    refine RW.v rfl (V.field rfl rfl rfl rfl (by decide) rfl) ?_
    refine RW.store (d := Bo true) rfl rfl rfl rfl rfl rfl rfl (Nat.le_of_ble_eq_true rfl) rfl rfl ?_
    refine RW.nil ?_
    refine CW.le [(0, .obj (bo 0) [I x.state, I x.iss, I x.una, I x.rcv, S x.wait, I x.sent, I x.fin, Bo x.peerFin, S x.in_, .w (sl 2 Late.c x.late) (g 0 9), Bo true, I x.due, I x.times]), (3, .obj b1 ((Seg.c s).map .r))] rfl (Le.of rfl) ?_
    refine CW.seqJ 57 (fun (v30 : Bool) => [(0, .obj (bo 0) [I x.state, I x.iss, I x.una, I x.rcv, S x.wait, I x.sent, I x.fin, Bo x.peerFin, S x.in_, .w (sl 2 Late.c x.late) (g 0 9), Bo true, I x.due, I x.times]), (45, Bo v30)]) (fun v30 => v30 = (((addNum s.num (s.body.size : Int)) == x.rcv) && (!x.peerFin))) ?_ ?_
    ·refine CW.drawn (by kernel_rfl) ?_
     refine RQ.v rfl (V.field rfl rfl rfl rfl (by decide) rfl) ?_
     refine RQ.v rfl (V.loadPrim (d := I s.num) rfl rfl (.inl rfl) rfl rfl rfl) ?_
     refine RQ.v rfl (V.field rfl rfl rfl rfl (by decide) rfl) ?_
     refine RQ.v rfl (V.loadPrim (d := S s.body) rfl rfl (.inl rfl) rfl rfl rfl) ?_
     refine RQ.v rfl (V.lenStr rfl (by kernel_rfl) rfl) ?_
     refine RQ.cons rfl (QOK.call (impl_AddNum_fn s.num (s.body.size : Int)) rfl (.cons (.one (.r .r)) (.cons (.one (.r .r)) (.nil))) ?_)
     refine RQ.v rfl (V.mv (d := .pt 0 (bo 0) 0) rfl rfl) ?_
     refine RQ.v rfl (V.nilP rfl rfl) ?_
     refine RQ.v rfl (V.field rfl rfl rfl rfl (by decide) rfl) ?_
     refine RQ.v rfl (V.loadPrim (d := I x.rcv) rfl rfl (.inl rfl) rfl rfl rfl) ?_
     refine RQ.v rfl (V.cmpInt rfl rfl rfl rfl) ?_
     refine RQ.v rfl (V.mv (d := Bo ((addNum s.num (s.body.size : Int)) == x.rcv)) rfl rfl) ?_
     refine RQ.gv rfl rfl rfl rfl (fun h31 => V.mv (d := .pt 0 (bo 0) 0) rfl rfl) (fun h31 => ?_) (fun h31 => ?_)
     ·skip
      refine RQ.gt rfl rfl rfl rfl (V.nilP rfl rfl) ?_
      refine RQ.gt rfl rfl rfl rfl (V.field rfl rfl rfl rfl (by decide) rfl) ?_
      refine RQ.gt rfl rfl rfl rfl (V.loadPrim (d := Bo x.peerFin) rfl rfl (.inl rfl) rfl rfl rfl) ?_
      refine RQ.gt rfl rfl rfl rfl (V.not rfl rfl) ?_
      refine RQ.v rfl (V.pickT (d := Bo (!x.peerFin)) rfl rfl rfl) ?_
      refine RQ.nil ?_
      exact ⟨_, by first | rfl | (simp_all; done) | (simp_all; omega) | grind, rfl, Le.c rfl <| Le.c rfl <| Le.e⟩
     ·skip
      refine RQ.guardF rfl rfl rfl rfl ?_
      refine RQ.guardF rfl rfl rfl rfl ?_
      refine RQ.guardF rfl rfl rfl rfl ?_
      refine RQ.guardF rfl rfl rfl rfl ?_
      refine RQ.v rfl (V.pickF (d := Bo false) rfl rfl rfl) ?_
      refine RQ.nil ?_
      exact ⟨_, by first | rfl | (simp_all; done) | (simp_all; omega) | grind, rfl, Le.c rfl <| Le.c rfl <| Le.e⟩
    ·intro v30 hv32
     refine CW.cond rfl (fun h33 => ?_) (fun h33 => ?_)
     ·skip
      refine CW.region ?_
      refine RW.v rfl (V.mv (d := .pt 0 (bo 0) 0) rfl rfl) ?_
      refine RW.v rfl (V.mv (d := .pt 0 (bo 0) 0) rfl rfl) ?_
      refine RW.v rfl (V.mv (d := .pt 0 (bo 0) 0) rfl rfl) ?_
      refine RW.v rfl (V.nilP rfl rfl) ?_
      refine RW.v rfl (V.field rfl rfl rfl rfl (by decide) rfl) ?_
      refine RW.v rfl (V.loadPrim (d := I x.rcv) rfl rfl (.inl rfl) rfl rfl rfl) ?_
      refine RW.call rfl (impl_AddNum_fn x.rcv 1) rfl (.cons (.one (.r .r)) (.cons (.one (.r .r)) (.nil))) fun g34 => ?_
      refine RW.v rfl (V.nilP rfl rfl) ?_
      refine RW.v rfl (V.field rfl rfl rfl rfl (by decide) rfl) ?_
      refine RW.store (d := Bo true) rfl rfl rfl rfl rfl rfl rfl (Nat.le_of_ble_eq_true rfl) rfl rfl ?_
      refine RW.v rfl (V.nilP rfl rfl) ?_
      refine RW.v rfl (V.field rfl rfl rfl rfl (by decide) rfl) ?_
      refine RW.store (d := I (addNum x.rcv 1)) rfl rfl rfl rfl rfl rfl rfl (Nat.le_of_ble_eq_true rfl) rfl rfl ?_
      refine RW.nil ?_
      exact Post.tup (by decide) RVs.e (AOs.obE (f := fun e => (Stream.c e).map .w) (e' := (⟨x.state, x.iss, x.una, (addNum x.rcv 1), x.wait, x.sent, x.fin, true, x.in_, x.late, true, x.due, x.times⟩ : Stream)) rfl (DT.v (DT.v (DT.v (DT.v (DT.v (DT.v (DT.v (DT.v (DT.v (DT.w (DT.v (DT.v (DT.v DT.e))))))))))))) (by unfold hearOpenN finN emp; first | (simp_all; done) | grind) (AOs.a rfl AOs.e))
     ·skip
      refine CW.skip ?_
      exact Post.tup (by decide) RVs.e (AOs.obE (f := fun e => (Stream.c e).map .w) (e' := (⟨x.state, x.iss, x.una, x.rcv, x.wait, x.sent, x.fin, x.peerFin, x.in_, x.late, true, x.due, x.times⟩ : Stream)) rfl (DT.v (DT.v (DT.v (DT.v (DT.v (DT.v (DT.v (DT.v (DT.v (DT.w (DT.v (DT.v (DT.v DT.e))))))))))))) (by unfold hearOpenN finN emp; first | (simp_all; done) | grind) (AOs.a rfl AOs.e))
end Go.Proofs.Ytkfjkmklmjcngaa.Y
