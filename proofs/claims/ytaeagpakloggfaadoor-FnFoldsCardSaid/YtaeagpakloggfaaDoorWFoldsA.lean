import Derived.Test.YtaeagpakloggfaaDoorPu
import Derived.Test.YtaeagpakloggfaaDoorProg
namespace Go.Proofs.YtaeagpakloggfaaDoor.Y
open Go Go.RowKit Go.Eng Go.Proofs
set_option maxRecDepth 10000
def tl : List (Nat × TyI) := [
(3, ⟨1, 8, [.int .i64 0], .prim⟩),
(4, ⟨1, 1, [.bool false], .prim⟩),
(5, ⟨1, 1, [.int .u8 0], .prim⟩),
(9, ⟨1, 16, [.string ⟨#[]⟩], .prim⟩),
(22, ⟨1, 24, [.slice none 0 0], .slice 101⟩),
(23, ⟨1, 24, [.slice none 0 0], .slice 103⟩),
(25, ⟨2, 48, [.slice none 0 0, .slice none 0 0], .agg [(0, 22, 1), (1, 23, 1)]⟩),
(28, ⟨1, 24, [.slice none 0 0], .slice 48⟩),
(29, ⟨1, 24, [.slice none 0 0], .slice 42⟩),
(31, ⟨2, 48, [.slice none 0 0, .slice none 0 0], .agg [(0, 28, 1), (1, 29, 1)]⟩),
(35, ⟨1, 24, [.slice none 0 0], .slice 5⟩),
(38, ⟨6, 64, [.int .i64 0, .int .i64 0, .int .i64 0, .string ⟨#[]⟩, .string ⟨#[]⟩, .int .i64 0], .agg [(0, 3, 1), (1, 3, 1), (2, 3, 1), (3, 9, 1), (4, 9, 1), (5, 3, 1)]⟩),
(42, ⟨3, 40, [.string ⟨#[]⟩, .string ⟨#[]⟩, .int .i64 0], .agg [(0, 9, 1), (1, 9, 1), (2, 3, 1)]⟩),
(45, ⟨1, 24, [.slice none 0 0], .slice 3⟩),
(48, ⟨3, 32, [.int .i64 0, .int .i64 0, .string ⟨#[]⟩], .agg [(0, 3, 1), (1, 3, 1), (2, 9, 1)]⟩),
(49, ⟨1, 24, [.slice none 0 0], .slice 9⟩),
(56, ⟨6, 64, [.int .i64 0, .int .i64 0, .int .i64 0, .string ⟨#[]⟩, .string ⟨#[]⟩, .int .i64 0], .agg [(0, 3, 1), (1, 3, 1), (2, 3, 1), (3, 9, 1), (4, 9, 1), (5, 3, 1)]⟩),
(61, ⟨1, 24, [.slice none 0 0], .slice 95⟩),
(95, ⟨3, 32, [.int .i64 0, .int .i64 0, .string ⟨#[]⟩], .agg [(0, 3, 1), (1, 3, 1), (2, 9, 1)]⟩),
(101, ⟨3, 32, [.int .i64 0, .int .i64 0, .string ⟨#[]⟩], .agg [(0, 3, 1), (1, 3, 1), (2, 9, 1)]⟩),
(103, ⟨3, 40, [.string ⟨#[]⟩, .string ⟨#[]⟩, .int .i64 0], .agg [(0, 9, 1), (1, 9, 1), (2, 3, 1)]⟩),
(111, ⟨3, 40, [.slice none 0 0, .int .i64 0, .int .i64 0], .agg [(0, 35, 1), (1, 3, 1), (2, 3, 1)]⟩),
(119, ⟨3, 32, [.string ⟨#[]⟩, .int .i64 0, .bool false], .agg [(0, 9, 1), (1, 3, 1), (2, 4, 1)]⟩),
(125, ⟨3, 32, [.string ⟨#[]⟩, .int .i64 0, .bool false], .agg [(0, 9, 1), (1, 3, 1), (2, 4, 1)]⟩)]
theorem tl_ok : ∀ p ∈ tl, tyI Tryd.prog p.1 = some p.2 := by
  refine List.forall_mem_cons.2 ⟨by kernel_rfl, ?_⟩
  refine List.forall_mem_cons.2 ⟨by kernel_rfl, ?_⟩
  refine List.forall_mem_cons.2 ⟨by kernel_rfl, ?_⟩
  refine List.forall_mem_cons.2 ⟨by kernel_rfl, ?_⟩
  refine List.forall_mem_cons.2 ⟨by kernel_rfl, ?_⟩
  refine List.forall_mem_cons.2 ⟨by kernel_rfl, ?_⟩
  refine List.forall_mem_cons.2 ⟨by kernel_rfl, ?_⟩
  refine List.forall_mem_cons.2 ⟨by kernel_rfl, ?_⟩
  refine List.forall_mem_cons.2 ⟨by kernel_rfl, ?_⟩
  refine List.forall_mem_cons.2 ⟨by kernel_rfl, ?_⟩
  refine List.forall_mem_cons.2 ⟨by kernel_rfl, ?_⟩
  refine List.forall_mem_cons.2 ⟨by kernel_rfl, ?_⟩
  refine List.forall_mem_cons.2 ⟨by kernel_rfl, ?_⟩
  refine List.forall_mem_cons.2 ⟨by kernel_rfl, ?_⟩
  refine List.forall_mem_cons.2 ⟨by kernel_rfl, ?_⟩
  refine List.forall_mem_cons.2 ⟨by kernel_rfl, ?_⟩
  refine List.forall_mem_cons.2 ⟨by kernel_rfl, ?_⟩
  refine List.forall_mem_cons.2 ⟨by kernel_rfl, ?_⟩
  refine List.forall_mem_cons.2 ⟨by kernel_rfl, ?_⟩
  refine List.forall_mem_cons.2 ⟨by kernel_rfl, ?_⟩
  refine List.forall_mem_cons.2 ⟨by kernel_rfl, ?_⟩
  refine List.forall_mem_cons.2 ⟨by kernel_rfl, ?_⟩
  refine List.forall_mem_cons.2 ⟨by kernel_rfl, ?_⟩
  refine List.forall_mem_cons.2 ⟨by kernel_rfl, ?_⟩
  exact fun _ h => by cases h
noncomputable def E : Env := ⟨Tryd.prog, lk tl, fun t i h => tl_ok (t, i) (lk_mem _ _ _ h), by kernel_rfl⟩
def kl : List (Nat × TypeDesc) := [(3, .int .i64), (4, .bool), (5, .int .u8), (9, .string)]
theorem kl_ok : ∀ p ∈ kl, Tryd.prog.underlying p.1 = some p.2 := by
  refine List.forall_mem_cons.2 ⟨by kernel_rfl, ?_⟩
  refine List.forall_mem_cons.2 ⟨by kernel_rfl, ?_⟩
  refine List.forall_mem_cons.2 ⟨by kernel_rfl, ?_⟩
  refine List.forall_mem_cons.2 ⟨by kernel_rfl, ?_⟩
  exact fun _ h => by cases h
noncomputable def XK : Kd E.P := ⟨lk kl, fun t d h => kl_ok (t, d) (lk_mem _ _ _ h)⟩
theorem eq38_in (x y : Command) (n : Nat) (w : World) : (Op.equalIn (n + 2) 38 (.agg x.vs.toArray) (.agg y.vs.toArray)).run Tryd.prog w = .ok (eqCommand x y) w := by
  refine eqA_of Tryd.underlying38 (by kernel_rfl) ?_
  refine eqF_cons (by rfl) (by go_simp; rfl) (by go_simp; rfl) (by go_simp) ?_
  refine eqF_cons (by rfl) (by go_simp; rfl) (by go_simp; rfl) (by go_simp) ?_
  refine eqF_cons (by rfl) (by go_simp; rfl) (by go_simp; rfl) (by go_simp) ?_
  refine eqF_cons (by rfl) (by go_simp; rfl) (by go_simp; rfl) (by go_simp) ?_
  refine eqF_cons (by rfl) (by go_simp; rfl) (by go_simp; rfl) (by go_simp) ?_
  exact eqF_last (by rfl) (by go_simp; rfl) (by go_simp; rfl) (by go_simp)
theorem eq38 (x y : Command) (w : World) : (Op.equal 38 (.agg x.vs.toArray) (.agg y.vs.toArray)).run E.P w = .ok (eqCommand x y) w := eq38_in x y 9998 w
theorem eq42_in (x y : Item) (n : Nat) (w : World) : (Op.equalIn (n + 2) 42 (.agg x.vs.toArray) (.agg y.vs.toArray)).run Tryd.prog w = .ok (eqItem x y) w := by
  refine eqA_of Tryd.underlying42 (by kernel_rfl) ?_
  refine eqF_cons (by rfl) (by go_simp; rfl) (by go_simp; rfl) (by go_simp) ?_
  refine eqF_cons (by rfl) (by go_simp; rfl) (by go_simp; rfl) (by go_simp) ?_
  exact eqF_last (by rfl) (by go_simp; rfl) (by go_simp; rfl) (by go_simp)
theorem eq42 (x y : Item) (w : World) : (Op.equal 42 (.agg x.vs.toArray) (.agg y.vs.toArray)).run E.P w = .ok (eqItem x y) w := eq42_in x y 9998 w
theorem eq48_in (x y : Session) (n : Nat) (w : World) : (Op.equalIn (n + 2) 48 (.agg x.vs.toArray) (.agg y.vs.toArray)).run Tryd.prog w = .ok (eqSession x y) w := by
  refine eqA_of Tryd.underlying48 (by kernel_rfl) ?_
  refine eqF_cons (by rfl) (by go_simp; rfl) (by go_simp; rfl) (by go_simp) ?_
  refine eqF_cons (by rfl) (by go_simp; rfl) (by go_simp; rfl) (by go_simp) ?_
  exact eqF_last (by rfl) (by go_simp; rfl) (by go_simp; rfl) (by go_simp)
theorem eq48 (x y : Session) (w : World) : (Op.equal 48 (.agg x.vs.toArray) (.agg y.vs.toArray)).run E.P w = .ok (eqSession x y) w := eq48_in x y 9998 w
set_option maxHeartbeats 4000000 in
theorem laws_szSession_fn (a : Session) (left : Int) : Eng.Fn E.P 69 [.agg ((Session.c a).map .r), .one (.r (.v (.int .i64 left)))] (.one (.one (.w (.v (.int .i64 (szSession a left)))))) [.agg ((Session.c a).map .r), .one (.r (.v (.int .i64 left)))] := by
 refine Eng.Fn.intro (E := E) (rvs := [.tmp 4]) Tryd.func69 rfl rfl rfl (by simp [outSlots, moved, rvSlot, sl]) ?_
 intro B g bo
 refine CW.keep 13 [0,1] rfl ?_;(conv=>whnf);refine ⟨?_⟩
 refine CW.seq ?_
 refine CW.region ?_
 refine RW.k XK 13 1 rfl ?_
 (conv=>whnf);intro b1;(conv=>whnf);refine ⟨rfl,?_⟩
 refine RW.freezeB (ts := (Session.c a)) 2 rfl (DRd.r (DRd.r (DRd.r DRd.e))) ?_
 refine RW.k XK 13 1 rfl ?_
 (conv=>whnf);refine ⟨rfl,?_⟩
 refine RW.nil ?_
 refine CW.keep 13 [1,2] rfl ?_;(conv=>whnf);refine ⟨?_⟩
 refine CW.k XK 13 1 [1] rfl ?_
 (conv=>whnf);refine ⟨rfl,?_⟩
 refine CW.seq ?_
 refine CW.k XK 13 1 [1,11] rfl ?_
 (conv=>whnf);refine ⟨rfl,?_⟩
 refine CW.cond rfl (fun h2 => ?_) (fun h2 => ?_)
 ·skip
  refine CW.k XK 13 1 [4] rfl ?_
  (conv=>whnf);refine ⟨rfl,?_⟩
  refine CW.ret ?_
  exact Post.one (RV.i rfl (by first | (simp_all [szSession]; done) | (simp_all [szSession]; omega) | grind [szSession])) (AOs.a rfl (AOs.r AOs.e))
 ·skip
  refine CW.skip ?_
  refine CW.keep 13 [1] rfl ?_;(conv=>whnf);refine ⟨?_⟩
  refine CW.k XK 13 1 [4] rfl ?_
  (conv=>whnf);refine ⟨rfl,?_⟩
  refine CW.ret ?_
  exact Post.one (RV.i rfl (by first | (simp_all [szSession]; done) | (simp_all [szSession]; omega) | grind [szSession])) (AOs.a rfl (AOs.r AOs.e))
set_option maxHeartbeats 4000000 in
theorem impl_within_fn (n : Int) (x : Int) (y : Int) : Eng.Fn E.P 47 [.one (.r (.v (.int .i64 n))), .one (.r (.v (.int .i64 x))), .one (.r (.v (.int .i64 y)))] (.one (.one (.w (.v (.bool (inR n x y)))))) [.one (.r (.v (.int .i64 n))), .one (.r (.v (.int .i64 x))), .one (.r (.v (.int .i64 y)))] := by
 refine Eng.Fn.intro (E := E) (rvs := [.tmp 6]) Tryd.func47 rfl rfl rfl (by simp [outSlots, moved, rvSlot, sl]) ?_
 intro B g bo
 refine CW.keep 15 [0,1,2] rfl ?_;(conv=>whnf);refine ⟨?_⟩
 refine CW.k XK 15 1 [0,1,2] rfl ?_
 (conv=>whnf);refine ⟨rfl,?_⟩
 refine CW.seqJ 15 (fun (v1 : Bool) => [(6, Bo v1)]) (fun v1 => v1 = (decide (n ≥ x) && decide (n ≤ y))) ?_ ?_
 ·refine CW.region ?_
  refine RW.k XK 15 4 rfl ?_
  (conv=>whnf);refine ⟨rfl,?_⟩
  refine RW.gv rfl rfl rfl rfl (fun h2 => V.mv (d := I n) rfl rfl) (fun h2 => ?_) (fun h2 => ?_)
  ·skip
   refine RW.k XK 15 4 rfl ?_
   (conv=>whnf);refine ⟨rfl,?_⟩
   refine RW.nil ?_
   exact ⟨_, by first | rfl | (simp_all; done) | (simp_all; omega) | grind, rfl, Le.of rfl⟩
  ·skip
   refine RW.k XK 15 4 rfl ?_
   (conv=>whnf);refine ⟨rfl,?_⟩
   refine RW.nil ?_
   exact ⟨_, by first | rfl | (simp_all; done) | (simp_all; omega) | grind, rfl, Le.of rfl⟩
 ·intro v1 hv3
  refine CW.ret ?_
  exact Post.one (RV.b rfl (by simp_all [inR])) (AOs.r (AOs.r (AOs.r AOs.e)))
set_option maxHeartbeats 4000000 in
theorem spec_l01In_fn (n : Int) (x : Int) (y : Int) : Eng.Fn E.P 56 [.one (.r (.v (.int .i64 n))), .one (.r (.v (.int .i64 x))), .one (.r (.v (.int .i64 y)))] (.one (.one (.w (.v (.bool (inR n x y)))))) [.one (.r (.v (.int .i64 n))), .one (.r (.v (.int .i64 x))), .one (.r (.v (.int .i64 y)))] := by
 refine Eng.Fn.intro (E := E) (rvs := [.tmp 6]) Tryd.func56 rfl rfl rfl (by simp [outSlots, moved, rvSlot, sl]) ?_
 intro B g bo
 refine CW.keep 15 [0,1,2] rfl ?_;(conv=>whnf);refine ⟨?_⟩
 refine CW.k XK 15 1 [0,1,2] rfl ?_
 (conv=>whnf);refine ⟨rfl,?_⟩
 refine CW.seqJ 15 (fun (v1 : Bool) => [(6, Bo v1)]) (fun v1 => v1 = (decide (n ≥ x) && decide (n ≤ y))) ?_ ?_
 ·refine CW.region ?_
  refine RW.k XK 15 4 rfl ?_
  (conv=>whnf);refine ⟨rfl,?_⟩
  refine RW.gv rfl rfl rfl rfl (fun h2 => V.mv (d := I n) rfl rfl) (fun h2 => ?_) (fun h2 => ?_)
  ·skip
   refine RW.k XK 15 4 rfl ?_
   (conv=>whnf);refine ⟨rfl,?_⟩
   refine RW.nil ?_
   exact ⟨_, by first | rfl | (simp_all; done) | (simp_all; omega) | grind, rfl, Le.of rfl⟩
  ·skip
   refine RW.k XK 15 4 rfl ?_
   (conv=>whnf);refine ⟨rfl,?_⟩
   refine RW.nil ?_
   exact ⟨_, by first | rfl | (simp_all; done) | (simp_all; omega) | grind, rfl, Le.of rfl⟩
 ·intro v1 hv3
  refine CW.ret ?_
  exact Post.one (RV.b rfl (by simp_all [inR])) (AOs.r (AOs.r (AOs.r AOs.e)))
set_option maxHeartbeats 4000000 in
theorem impl_isIndex_fn (n : Int) : Eng.Fn E.P 48 [.one (.r (.v (.int .i64 n)))] (.one (.one (.w (.v (.bool (inR n 0 1000000)))))) [.one (.r (.v (.int .i64 n)))] := by
 refine Eng.Fn.intro (E := E) (rvs := [.tmp 2]) Tryd.func48 rfl rfl rfl (by simp [outSlots, moved, rvSlot, sl]) ?_
 intro B g bo
 refine CW.keep 5 [0] rfl ?_;(conv=>whnf);refine ⟨?_⟩
 refine CW.k XK 5 1 [0] rfl ?_
 (conv=>whnf);refine ⟨rfl,?_⟩
 refine CW.seq ?_
 refine CW.region ?_
 refine RW.k XK 5 1 rfl ?_
 (conv=>whnf);refine ⟨rfl,?_⟩
 refine RW.call rfl (impl_within_fn n 0 1000000) rfl (.cons (.one (.r .r)) (.cons (.one (.r .r)) (.cons (.one (.r .r)) (.nil)))) fun g1 => ?_
 refine RW.k XK 5 1 rfl ?_
 (conv=>whnf);refine ⟨rfl,?_⟩
 refine RW.nil ?_
 refine CW.keep 5 [2] rfl ?_;(conv=>whnf);refine ⟨?_⟩
 refine CW.ret ?_
 exact Post.one (RV.b rfl (by rfl)) (AOs.r AOs.e)
set_option maxHeartbeats 4000000 in
theorem impl_keyOk_fn (s : ByteArray) : Eng.Fn E.P 49 [.one (.r (.v (.string s)))] (.one (.one (.w (.v (.bool (inR (s.size : Int) 1 8)))))) [.one (.r (.v (.string s)))] := by
 refine Eng.Fn.intro (E := E) (rvs := [.tmp 2]) Tryd.func49 rfl rfl rfl (by simp [outSlots, moved, rvSlot, sl]) ?_
 intro B g bo
 refine CW.keep 6 [0] rfl ?_;(conv=>whnf);refine ⟨?_⟩
 refine CW.k XK 6 1 [0] rfl ?_
 (conv=>whnf);refine ⟨rfl,?_⟩
 refine CW.seq ?_
 refine CW.region ?_
 refine RW.k XK 6 2 rfl ?_
 (conv=>whnf);refine ⟨rfl,?_⟩
 refine RW.call rfl (impl_within_fn (s.size : Int) 1 8) rfl (.cons (.one (.r .r)) (.cons (.one (.r .r)) (.cons (.one (.r .r)) (.nil)))) fun g1 => ?_
 refine RW.k XK 6 1 rfl ?_
 (conv=>whnf);refine ⟨rfl,?_⟩
 refine RW.nil ?_
 refine CW.keep 6 [2] rfl ?_;(conv=>whnf);refine ⟨?_⟩
 refine CW.ret ?_
 exact Post.one (RV.b rfl (by rfl)) (AOs.r AOs.e)
set_option maxHeartbeats 4000000 in
theorem impl_valOk_fn (s : ByteArray) : Eng.Fn E.P 50 [.one (.r (.v (.string s)))] (.one (.one (.w (.v (.bool (decide ((s.size : Int) ≤ 20))))))) [.one (.r (.v (.string s)))] := by
 refine Eng.Fn.intro (E := E) (rvs := [.tmp 2]) Tryd.func50 rfl rfl rfl (by simp [outSlots, moved, rvSlot, sl]) ?_
 intro B g bo
 refine CW.keep 6 [0] rfl ?_;(conv=>whnf);refine ⟨?_⟩
 refine CW.k XK 6 2 [2] rfl ?_
 (conv=>whnf);refine ⟨rfl,?_⟩
 refine CW.ret ?_
 exact Post.one (RV.b rfl (by rfl)) (AOs.r AOs.e)
set_option maxHeartbeats 4000000 in
theorem impl_Decimal_fn (n : Int) (hn : okI n) : Eng.Fn E.P 40 [.one (.r (.v (.int .i64 n)))] (.one (.one (.w (.v (.string (itoaB n)))))) [.one (.r (.v (.int .i64 n)))] := by
 refine Eng.Fn.intro (E := E) (rvs := [.tmp 2]) Tryd.func40 rfl rfl rfl (by simp [outSlots, moved, rvSlot, sl]) ?_
 intro B g bo
 refine CW.keep 5 [0] rfl ?_;(conv=>whnf);refine ⟨?_⟩
 refine CW.k XK 5 1 [0] rfl ?_
 (conv=>whnf);refine ⟨rfl,?_⟩
 refine CW.seq ?_
 refine CW.region ?_
 refine RW.k XK 5 1 rfl ?_
 (conv=>whnf);refine ⟨rfl,?_⟩
 refine RW.call rfl (strconv_Itoa_fn n hn) rfl (.cons (.one (.r .r)) (.nil)) fun g1 => ?_
 refine RW.k XK 5 1 rfl ?_
 (conv=>whnf);refine ⟨rfl,?_⟩
 refine RW.nil ?_
 refine CW.keep 5 [2] rfl ?_;(conv=>whnf);refine ⟨?_⟩
 refine CW.ret ?_
 exact Post.one (RV.s rfl (by rfl)) (AOs.r AOs.e)
set_option maxHeartbeats 4000000 in
theorem impl_KeepOk_fn (k : Keep) (hok : okToKeep k) : Eng.Fn E.P 17 [.agg ((Keep.c k).map .r)] (.one (.one (.w (.v (.bool (keepOk k)))))) [.agg ((Keep.c k).map .r)] := by
 refine Eng.Fn.intro (E := E) (rvs := [.tmp 2]) Tryd.func17 rfl rfl rfl (by simp [outSlots, moved, rvSlot, sl]) ?_
 intro B g bo
 refine CW.keep 107 [0] rfl ?_;(conv=>whnf);refine ⟨?_⟩
 have hl1 : k.sessions.length ≤ maxLen := by have := hok.1.1; simp only [maxLen]; omega
 have hl2 : k.items.length ≤ maxLen := by have := hok.2.1; simp only [maxLen]; omega
 refine CW.seq ?_
 refine CW.region ?_
 refine RW.k XK 107 1 rfl ?_
 (conv=>whnf);intro b1;(conv=>whnf);refine ⟨rfl,?_⟩
 refine RW.freezeB (ts := (Keep.c k)) 1 rfl (DRd.r (DRd.r DRd.e)) ?_
 refine RW.k XK 107 1 rfl ?_
 (conv=>whnf);refine ⟨rfl,?_⟩
 refine RW.nil ?_
 refine CW.keep 107 [1] rfl ?_;(conv=>whnf);refine ⟨?_⟩
 refine CW.seq ?_
 refine CW.k XK 107 1 [1,8,9,10] rfl ?_
 (conv=>whnf);refine ⟨rfl,?_⟩
 refine CW.block ?_
 refine CW.loopI 107 (fun (i : Nat) => [(1, .rp (Keep.c k)), (8, .r (sl 3 Session.c k.sessions)), (9, I (k.sessions.length : Int)), (10, I (i : Int))]) (fun (i : Nat) => i ≤ k.sessions.length ∧ sessF (prevO Session.token Session.z k.sessions i) (k.sessions.drop i) = sessF none k.sessions) (fun (i : Nat) => k.sessions.length - i) 0 rfl (Le.c rfl <| Le.c rfl <| Le.c rfl <| Le.c rfl <| Le.e) ⟨by omega, rfl⟩ ?_
 rintro i ⟨hb, hr⟩
 refine CW.k XK 107 1 [1,8,9,10,11] rfl ?_
 (conv=>whnf);refine ⟨rfl,?_⟩
 refine CW.seq ?_
 refine CW.cond rfl (fun h2 => ?_) (fun h2 => ?_)
 ·skip
  have hii : i < k.sessions.length := by have := h2; simp at this; first | exact this | omega | (simp; done) | (simp; omega)
  obtain ⟨ei, hei⟩ : ∃ e, k.sessions[i]? = some e := ⟨_, List.getElem?_eq_getElem hii⟩
  have hdi := drop_get hei
  refine CW.skip ?_
  refine CW.keep 107 [1,8,9,10] rfl ?_;(conv=>whnf);refine ⟨?_⟩
  refine CW.seq ?_
  refine CW.block ?_
  refine CW.seq ?_
  refine CW.region ?_
  refine RW.k XK 107 1 rfl ?_
  (conv=>whnf);refine ⟨rfl,?_⟩
  refine RW.v rfl (V.indexS rfl rfl rfl rfl rfl rfl Session.len hei) ?_
  refine RW.k XK 107 4 rfl ?_
  (conv=>whnf);intro b3;(conv=>whnf);refine ⟨rfl,?_⟩
  refine RW.freezeB (ts := (Session.c ei)) 4 rfl (DRd.r (DRd.r (DRd.r DRd.e))) ?_
  refine RW.nil ?_
  refine CW.keep 107 [1,3,4,8,9,10] rfl ?_;(conv=>whnf);refine ⟨?_⟩
  refine CW.seq ?_
  refine CW.seqJ 107 (fun (v4 : Bool) => [(1, .rp (Keep.c k)), (3, I (i : Int)), (4, .rp (Session.c ei)), (8, .r (sl 3 Session.c k.sessions)), (9, I (k.sessions.length : Int)), (10, I (i : Int)), (40, Bo v4)]) (fun v4 => v4 = ((((!(inR ei.token 1 1000000)) || (!(inR ei.last 0 1000000))) || decide ((ei.reply.size : Int) > 40)) || ((ei.last == 0) && (!(ei.reply.toList == (⟨#[]⟩ : ByteArray).toList))))) ?_ ?_
  ·refine CW.region ?_
   refine RW.k XK 107 2 rfl ?_
   (conv=>whnf);refine ⟨rfl,?_⟩
   refine RW.call rfl (impl_within_fn ei.token 1 1000000) rfl (.cons (.one (.r .r)) (.cons (.one (.r .r)) (.cons (.one (.r .r)) (.nil)))) fun g5 => ?_
   refine RW.k XK 107 2 rfl ?_
   (conv=>whnf);refine ⟨rfl,?_⟩
   refine RW.gv rfl rfl rfl rfl (fun h6 => V.fieldR rfl rfl rfl rfl (by decide) rfl (Nat.le_of_ble_eq_true rfl)) (fun h6 => ?_) (fun h6 => ?_)
   ·skip
    refine RW.k XK 107 1 rfl ?_
    (conv=>whnf);refine ⟨rfl,?_⟩
    refine RW.gcall rfl rfl rfl rfl (impl_isIndex_fn ei.last) rfl (.cons (.one (.r .r)) (.nil)) fun g7 => ?_
    refine RW.k XK 107 3 rfl ?_
    (conv=>whnf);refine ⟨rfl,?_⟩
    refine RW.gv rfl rfl rfl rfl (fun h8 => V.fieldR rfl rfl rfl rfl (by decide) rfl (Nat.le_of_ble_eq_true rfl)) (fun h8 => ?_) (fun h8 => ?_)
    ·skip
     refine RW.k XK 107 5 rfl ?_
     (conv=>whnf);refine ⟨rfl,?_⟩
     refine RW.gv rfl rfl rfl rfl (fun h9 => V.fieldR rfl rfl rfl rfl (by decide) rfl (Nat.le_of_ble_eq_true rfl)) (fun h9 => ?_) (fun h9 => ?_)
     ·skip
      refine RW.k XK 107 3 rfl ?_
      (conv=>whnf);refine ⟨rfl,?_⟩
      refine RW.gv rfl rfl rfl rfl (fun h10 => V.fieldR rfl rfl rfl rfl (by decide) rfl (Nat.le_of_ble_eq_true rfl)) (fun h10 => ?_) (fun h10 => ?_)
      ·skip
       refine RW.k XK 107 4 rfl ?_
       (conv=>whnf);refine ⟨rfl,?_⟩
       refine RW.nil ?_
       exact ⟨_, by first | rfl | (simp_all; done) | (simp_all; omega) | grind, rfl, Le.of rfl⟩
      ·skip
       refine RW.k XK 107 4 rfl ?_
       (conv=>whnf);refine ⟨rfl,?_⟩
       refine RW.nil ?_
       exact ⟨_, by first | rfl | (simp_all; done) | (simp_all; omega) | grind, rfl, Le.of rfl⟩
     ·skip
      refine RW.k XK 107 8 rfl ?_
      (conv=>whnf);refine ⟨rfl,?_⟩
      refine RW.nil ?_
      exact ⟨_, by first | rfl | (simp_all; done) | (simp_all; omega) | grind, rfl, Le.of rfl⟩
    ·skip
     refine RW.k XK 107 14 rfl ?_
     (conv=>whnf);refine ⟨rfl,?_⟩
     refine RW.nil ?_
     exact ⟨_, by first | rfl | (simp_all; done) | (simp_all; omega) | grind, rfl, Le.of rfl⟩
   ·skip
    refine RW.k XK 107 20 rfl ?_
    (conv=>whnf);refine ⟨rfl,?_⟩
    refine RW.nil ?_
    exact ⟨_, by first | rfl | (simp_all; done) | (simp_all; omega) | grind, rfl, Le.of rfl⟩
  ·intro v4 hv11
   refine CW.cond rfl (fun h12 => ?_) (fun h12 => ?_)
   ·skip
    refine CW.k XK 107 1 [2] rfl ?_
    (conv=>whnf);refine ⟨rfl,?_⟩
    refine CW.ret ?_
    exact Post.one (RV.b rfl (by have ht : sessF none k.sessions = false := (by rw [← hr, hdi, sessF]; first | (simp_all [sessOk, emp, prevO, prevGe]; done) | grind [sessOk, emp, prevO, prevGe]); simp [keepOk, ht])) (AOs.a rfl AOs.e)
   ·skip
    refine CW.skip ?_
    refine CW.keep 107 [1,3,4,8,9,10] rfl ?_;(conv=>whnf);refine ⟨?_⟩
    refine CW.seqJ 107 (fun (v13 : Bool) => [(1, .rp (Keep.c k)), (8, .r (sl 3 Session.c k.sessions)), (9, I (k.sessions.length : Int)), (10, I (i : Int)), (54, Bo v13)]) (fun v13 => v13 = (decide ((i : Int) > 0) && decide ((k.sessions.getD (i - 1) Session.z).token ≥ ei.token))) ?_ ?_
    ·refine CW.drawn (by kernel_rfl) ?_
     refine RQ.k XK 107 3 rfl ?_
     (conv=>whnf);refine ⟨rfl,?_⟩
     refine RQ.gv rfl rfl rfl rfl (fun h14 => V.fieldR rfl rfl rfl rfl (by decide) rfl (Nat.le_of_ble_eq_true rfl)) (fun h14 => ?_) (fun h14 => ?_)
     ·skip
      refine RQ.k XK 107 2 rfl ?_
      (conv=>whnf);refine ⟨rfl,?_⟩
      refine RQ.gt rfl rfl rfl rfl (V.dec (m := i) rfl rfl rfl (by have := h14; simp at this; omega) (by omega)) ?_
      refine RQ.gt rfl rfl rfl rfl (V.indexS rfl rfl rfl rfl rfl rfl Session.len (getD_some (l := k.sessions) (j := i - 1) (z := Session.z) (by omega))) ?_
      refine RQ.k XK 107 6 rfl ?_
      (conv=>whnf);refine ⟨rfl,?_⟩
      refine RQ.nil ?_
      exact ⟨_, by first | rfl | (simp_all; done) | (simp_all; omega) | grind, rfl, Le.of rfl⟩
     ·skip
      refine RQ.k XK 107 10 rfl ?_
      (conv=>whnf);refine ⟨rfl,?_⟩
      refine RQ.nil ?_
      exact ⟨_, by first | rfl | (simp_all; done) | (simp_all; omega) | grind, rfl, Le.of rfl⟩
    ·intro v13 hv15
     refine CW.cond rfl (fun h16 => ?_) (fun h16 => ?_)
     ·skip
      refine CW.k XK 107 1 [2] rfl ?_
      (conv=>whnf);refine ⟨rfl,?_⟩
      refine CW.ret ?_
      exact Post.one (RV.b rfl (by have ht : sessF none k.sessions = false := (by rw [← hr, hdi, sessF]; first | (simp_all [sessOk, emp, prevO, prevGe]; done) | grind [sessOk, emp, prevO, prevGe]); simp [keepOk, ht])) (AOs.a rfl AOs.e)
     ·skip
      refine CW.skip ?_
      refine CW.keep 107 [1,8,9,10] rfl ?_;(conv=>whnf);refine ⟨?_⟩
      refine CW.region ?_
      refine RW.v rfl (V.inc rfl rfl rfl hii hl1) ?_
      refine RW.k XK 107 1 rfl ?_
      (conv=>whnf);refine ⟨rfl,?_⟩
      refine RW.nil ?_
      exact ⟨i + 1, by omega, ⟨by omega, by rw [← hr, hdi, sessF, prevO_succ hei]; first | (simp_all [sessOk, itemOk, emp, prevO, prevGe, prevS]; done) | grind [sessOk, itemOk, emp, prevO, prevGe, prevS]⟩, rfl, Le.c rfl <| Le.c rfl <| Le.c rfl <| Le.c rfl <| Le.e⟩
 ·skip
  have hii : k.sessions.length ≤ i := by have := h2; simp at this; first | exact this | omega | (simp; done) | (simp; omega)
  have hdi : k.sessions.drop i = [] := List.drop_eq_nil_of_le hii
  refine CW.exit ?_
  refine CW.keep 107 [1] rfl ?_;(conv=>whnf);refine ⟨?_⟩
  refine CW.seq ?_
  refine CW.k XK 107 1 [1,57,58,59] rfl ?_
  (conv=>whnf);refine ⟨rfl,?_⟩
  refine CW.block ?_
  refine CW.loopI 107 (fun (j : Nat) => [(1, .rp (Keep.c k)), (57, .r (sl 3 Item.c k.items)), (58, I (k.items.length : Int)), (59, I (j : Int))]) (fun (j : Nat) => j ≤ k.items.length ∧ itemF (prevO Item.key Item.z k.items j) (k.items.drop j) = itemF none k.items) (fun (j : Nat) => k.items.length - j) 0 rfl (Le.c rfl <| Le.c rfl <| Le.c rfl <| Le.c rfl <| Le.e) ⟨by omega, rfl⟩ ?_
  rintro j ⟨hc, hs⟩
  refine CW.k XK 107 1 [1,57,58,59,60] rfl ?_
  (conv=>whnf);refine ⟨rfl,?_⟩
  refine CW.seq ?_
  refine CW.cond rfl (fun h17 => ?_) (fun h17 => ?_)
  ·skip
   have hij : j < k.items.length := by have := h17; simp at this; first | exact this | omega | (simp; done) | (simp; omega)
   obtain ⟨ej, hej⟩ : ∃ e, k.items[j]? = some e := ⟨_, List.getElem?_eq_getElem hij⟩
   have hdj := drop_get hej
   refine CW.skip ?_
   refine CW.keep 107 [1,57,58,59] rfl ?_;(conv=>whnf);refine ⟨?_⟩
   refine CW.seq ?_
   refine CW.block ?_
   refine CW.seq ?_
   refine CW.region ?_
   refine RW.k XK 107 1 rfl ?_
   (conv=>whnf);refine ⟨rfl,?_⟩
   refine RW.v rfl (V.indexS rfl rfl rfl rfl rfl rfl Item.len hej) ?_
   refine RW.k XK 107 4 rfl ?_
   (conv=>whnf);intro b18;(conv=>whnf);refine ⟨rfl,?_⟩
   refine RW.freezeB (ts := (Item.c ej)) 6 rfl (DRd.r (DRd.r (DRd.r DRd.e))) ?_
   refine RW.nil ?_
   refine CW.keep 107 [1,5,6,57,58,59] rfl ?_;(conv=>whnf);refine ⟨?_⟩
   refine CW.seqJ 107 (fun (v19 : Bool) => [(1, .rp (Keep.c k)), (57, .r (sl 3 Item.c k.items)), (58, I (k.items.length : Int)), (59, I (j : Int)), (95, Bo v19)]) (fun v19 => v19 = ((((!(inR (ej.key.size : Int) 1 8)) || (!(decide ((ej.val.size : Int) ≤ 20)))) || (!(inR ej.ver 1 1000000000))) || (decide ((j : Int) > 0) && (!(Op.bytesLess ((k.items.getD (j - 1) Item.z).key).toList ej.key.toList))))) ?_ ?_
   ·refine CW.drawn (by kernel_rfl) ?_
    refine RQ.k XK 107 2 rfl ?_
    (conv=>whnf);refine ⟨rfl,?_⟩
    refine RQ.cons rfl (QOK.call (impl_keyOk_fn ej.key) rfl (.cons (.one (.r .r)) (.nil)) ?_)
    refine RQ.k XK 107 2 rfl ?_
    (conv=>whnf);refine ⟨rfl,?_⟩
    refine RQ.gv rfl rfl rfl rfl (fun h20 => V.fieldR rfl rfl rfl rfl (by decide) rfl (Nat.le_of_ble_eq_true rfl)) (fun h20 => ?_) (fun h20 => ?_)
    ·skip
     refine RQ.k XK 107 1 rfl ?_
     (conv=>whnf);refine ⟨rfl,?_⟩
     refine RQ.guardT rfl rfl rfl rfl (QOK.call (impl_valOk_fn ej.val) rfl (.cons (.one (.r .r)) (.nil)) ?_)
     refine RQ.k XK 107 3 rfl ?_
     (conv=>whnf);refine ⟨rfl,?_⟩
     refine RQ.gv rfl rfl rfl rfl (fun h21 => V.fieldR rfl rfl rfl rfl (by decide) rfl (Nat.le_of_ble_eq_true rfl)) (fun h21 => ?_) (fun h21 => ?_)
     ·skip
      refine RQ.k XK 107 1 rfl ?_
      (conv=>whnf);refine ⟨rfl,?_⟩
      refine RQ.guardT rfl rfl rfl rfl (QOK.call (impl_within_fn ej.ver 1 1000000000) rfl (.cons (.one (.r .r)) (.cons (.one (.r .r)) (.cons (.one (.r .r)) (.nil)))) ?_)
      refine RQ.k XK 107 3 rfl ?_
      (conv=>whnf);refine ⟨rfl,?_⟩
      refine RQ.gv rfl rfl rfl rfl (fun h22 => V.mv (d := I (j : Int)) rfl rfl) (fun h22 => ?_) (fun h22 => ?_)
      ·skip
       refine RQ.k XK 107 2 rfl ?_
       (conv=>whnf);refine ⟨rfl,?_⟩
       refine RQ.gv rfl rfl rfl rfl (fun h23 => V.fieldR rfl rfl rfl rfl (by decide) rfl (Nat.le_of_ble_eq_true rfl)) (fun h23 => ?_) (fun h23 => ?_)
       ·skip
        refine RQ.k XK 107 2 rfl ?_
        (conv=>whnf);refine ⟨rfl,?_⟩
        refine RQ.gt rfl rfl rfl rfl (V.dec (m := j) rfl rfl rfl (by have := h23; simp at this; omega) (by omega)) ?_
        refine RQ.gt rfl rfl rfl rfl (V.indexS rfl rfl rfl rfl rfl rfl Item.len (getD_some (l := k.items) (j := j - 1) (z := Item.z) (by omega))) ?_
        refine RQ.k XK 107 7 rfl ?_
        (conv=>whnf);refine ⟨rfl,?_⟩
        refine RQ.nil ?_
        exact ⟨_, by first | rfl | (simp_all; done) | (simp_all; omega) | grind, rfl, Le.of rfl⟩
       ·skip
        refine RQ.k XK 107 11 rfl ?_
        (conv=>whnf);refine ⟨rfl,?_⟩
        refine RQ.nil ?_
        exact ⟨_, by first | rfl | (simp_all; done) | (simp_all; omega) | grind, rfl, Le.of rfl⟩
      ·skip
       refine RQ.k XK 107 14 rfl ?_
       (conv=>whnf);refine ⟨rfl,?_⟩
       refine RQ.nil ?_
       exact ⟨_, by first | rfl | (simp_all; done) | (simp_all; omega) | grind, rfl, Le.of rfl⟩
     ·skip
      refine RQ.k XK 107 20 rfl ?_
      (conv=>whnf);refine ⟨rfl,?_⟩
      refine RQ.nil ?_
      exact ⟨_, by first | rfl | (simp_all; done) | (simp_all; omega) | grind, rfl, Le.of rfl⟩
    ·skip
     refine RQ.k XK 107 26 rfl ?_
     (conv=>whnf);refine ⟨rfl,?_⟩
     refine RQ.nil ?_
     exact ⟨_, by first | rfl | (simp_all; done) | (simp_all; omega) | grind, rfl, Le.of rfl⟩
   ·intro v19 hv24
    refine CW.cond rfl (fun h25 => ?_) (fun h25 => ?_)
    ·skip
     refine CW.k XK 107 1 [2] rfl ?_
     (conv=>whnf);refine ⟨rfl,?_⟩
     refine CW.ret ?_
     exact Post.one (RV.b rfl (by have ht : itemF none k.items = false := (by rw [← hs, hdj, itemF]; first | (simp_all [itemOk, prevO, prevS]; done) | grind [itemOk, prevO, prevS]); simp [keepOk, ht])) (AOs.a rfl AOs.e)
    ·skip
     refine CW.skip ?_
     refine CW.keep 107 [1,57,58,59] rfl ?_;(conv=>whnf);refine ⟨?_⟩
     refine CW.region ?_
     refine RW.v rfl (V.inc rfl rfl rfl hij hl2) ?_
     refine RW.k XK 107 1 rfl ?_
     (conv=>whnf);refine ⟨rfl,?_⟩
     refine RW.nil ?_
     exact ⟨j + 1, by omega, ⟨by omega, by rw [← hs, hdj, itemF, prevO_succ hej]; first | (simp_all [sessOk, itemOk, emp, prevO, prevGe, prevS]; done) | grind [sessOk, itemOk, emp, prevO, prevGe, prevS]⟩, rfl, Le.c rfl <| Le.c rfl <| Le.c rfl <| Le.c rfl <| Le.e⟩
  ·skip
   have hij : k.items.length ≤ j := by have := h17; simp at this; first | exact this | omega | (simp; done) | (simp; omega)
   have hdj : k.items.drop j = [] := List.drop_eq_nil_of_le hij
   refine CW.exit ?_
   refine CW.keep 107 [1] rfl ?_;(conv=>whnf);refine ⟨?_⟩
   refine CW.seqJ 107 (fun (v26 : Bool) => [(2, Bo v26)]) (fun v26 => v26 = (decide ((k.sessions.length : Int) ≤ 3) && decide ((k.items.length : Int) ≤ 8))) ?_ ?_
   ·refine CW.region ?_
    refine RW.k XK 107 5 rfl ?_
    (conv=>whnf);refine ⟨rfl,?_⟩
    refine RW.gv rfl rfl rfl rfl (fun h27 => V.fieldR rfl rfl rfl rfl (by decide) rfl (Nat.le_of_ble_eq_true rfl)) (fun h27 => ?_) (fun h27 => ?_)
    ·skip
     refine RW.k XK 107 5 rfl ?_
     (conv=>whnf);refine ⟨rfl,?_⟩
     refine RW.nil ?_
     exact ⟨_, by first | rfl | (simp_all; done) | (simp_all; omega) | grind, rfl, Le.of rfl⟩
    ·skip
     refine RW.k XK 107 5 rfl ?_
     (conv=>whnf);refine ⟨rfl,?_⟩
     refine RW.nil ?_
     exact ⟨_, by first | rfl | (simp_all; done) | (simp_all; omega) | grind, rfl, Le.of rfl⟩
   ·intro v26 hv28
    refine CW.ret ?_
    exact Post.one (RV.b rfl (by have ht : sessF none k.sessions = true := (by rw [← hr, hdi]; rfl); have hu : itemF none k.items = true := (by rw [← hs, hdj]; rfl); clear hr hs hdi hdj; first | (simp_all [keepOk]; done) | grind [keepOk])) (AOs.a rfl AOs.e)
set_option maxHeartbeats 4000000 in
theorem impl_copyKeep_fn (k : Keep) (hok : okToKeep k) : Eng.Fn E.P 53 [.agg ((Keep.c k).map .r)] (.one (.agg ((Keep.c k).map .w))) [.agg ((Keep.c k).map .r)] := by
 refine Eng.Fn.intro (E := E) (rvs := [.cell 2 31]) Tryd.func53 rfl rfl rfl (by simp [outSlots, moved, rvSlot, sl]) ?_
 intro B g bo
 refine CW.keep 12 [0] rfl ?_;(conv=>whnf);refine ⟨?_⟩
 refine CW.seq ?_
 refine CW.region ?_
 refine RW.k XK 12 1 rfl ?_
 (conv=>whnf);intro b1;(conv=>whnf);refine ⟨rfl,?_⟩
 refine RW.freezeB (ts := (Keep.c k)) 1 rfl (DRd.r (DRd.r DRd.e)) ?_
 refine RW.k XK 12 1 rfl ?_
 (conv=>whnf);intro b2;(conv=>whnf);refine ⟨rfl,?_⟩
 refine RW.nil ?_
 refine CW.keep 12 [1,2] rfl ?_;(conv=>whnf);refine ⟨?_⟩
 refine CW.anyJ2 (fc := []) (L0 := []) 12 (fun (zz : Value × Value × Value × Value) => match zz with | (Xo3_0_1, Xo3_3_1, Xo3_4_1, Xo3_7_1) => [(2, .obj b2 [.w (sl 3 Session.c (([] : List Session) ++ k.sessions)) Xo3_3_1, .w (sl 3 Item.c (([] : List Item) ++ k.items)) Xo3_7_1])]) (fun all hall f hf b0 hb K hK => ?_) ?_
 ·skip
  have ro3_7 : ∀ B, ∀ (Xo3_0_1 : Value), ∀ (Xo3_3_1 : Value), ∀ (Xo3_4_1 : Value), ∀ (Xo3_7_1 : Value), RA f E B all 0 (bt 10 1023) ⟨12, [(2, .obj b2 [.w (sl 3 Session.c (([] : List Session) ++ k.sessions)) Xo3_3_1, .w (sl 3 Item.c (([] : List Item) ++ k.items)) Xo3_7_1])] ++ b0⟩ K := by
   intro B Xo3_0_1 Xo3_3_1 Xo3_4_1 Xo3_7_1
   exact RA.of2 hall hf hb (RA.finH (Tell.of rfl) (by kernel_rfl) (hK (Xo3_0_1, Xo3_3_1, Xo3_4_1, Xo3_7_1) _ rfl (Le.of rfl)))
  have ro3_6 : ∀ B, ∀ (Xo3_0_1 : Value), ∀ (Xo3_3_1 : Value), ∀ (Xo3_4_1 : Value), ∀ (Xo3_7_1 : Value), RA f E B all 1 (bt 10 511) ⟨12, [(2, .obj b2 [.r (.v (.slice none 0 0)), .r (.v (.slice none 0 0))]), (6, .w (sl 3 Session.c (([] : List Session) ++ k.sessions)) Xo3_3_1), (10, .w (sl 3 Item.c (([] : List Item) ++ k.items)) Xo3_7_1), (11, .agg [.al 6 none 3 ((([] : List Session) ++ k.sessions).length) Xo3_3_1 0, .al 10 none 3 ((([] : List Item) ++ k.items).length) Xo3_7_1 0])] ++ b0⟩ K := by
   intro B Xo3_0_1 Xo3_3_1 Xo3_4_1 Xo3_7_1
   refine RA.of2 hall hf hb (RA.stepH (L := [9]) (Tell.of rfl) (by kernel_rfl) (by simp) (RA.each ?_ (RA.each0)))
   ·skip
    refine RO.storeAgg (es := [.al 6 none 3 ((([] : List Session) ++ k.sessions).length) Xo3_3_1 0, .al 10 none 3 ((([] : List Item) ++ k.items).length) Xo3_7_1 0]) rfl rfl rfl rfl rfl rfl rfl rfl rfl rfl (Nat.le_of_ble_eq_true rfl) rfl ?_
    refine RA.keep 12 [2,6,10] rfl ?_;(conv=>whnf);refine ⟨?_⟩
    refine RA.pullT (k := 2) (l := 6) (j := 0) 2 6 0 rfl rfl rfl (by decide) rfl rfl rfl ?_
    refine RA.keep 12 [2,10] rfl ?_;(conv=>whnf);refine ⟨?_⟩
    refine RA.pullT (k := 2) (l := 10) (j := 1) 2 10 1 rfl rfl rfl (by decide) rfl rfl rfl ?_
    refine RA.keep 12 [2] rfl ?_;(conv=>whnf);refine ⟨?_⟩
    exact RA.to2 hall hf hb (ro3_7 B Xo3_0_1 Xo3_3_1 Xo3_4_1 Xo3_7_1) rfl rfl (by kernel_rfl)
  have ro3_5 : ∀ B, ∀ (Xo3_0_1 : Value), ∀ (Xo3_3_1 : Value), ∀ (Xo3_4_1 : Value), RA f E B all 3 (bt 10 127) ⟨12, [(2, .obj b2 [.r (.v (.slice none 0 0)), .r (.v (.slice none 0 0))]), (6, .w (sl 3 Session.c (([] : List Session) ++ k.sessions)) Xo3_3_1), (7, .w (sl 3 Item.c ([] : List Item)) Xo3_4_1), (9, .r (sl 3 Item.c k.items))] ++ b0⟩ K := by
   intro B Xo3_0_1 Xo3_3_1 Xo3_4_1
   refine RA.of2 hall hf hb (RA.stepH (L := [7]) (Tell.of rfl) (by kernel_rfl) (by simp) (RA.each ?_ (RA.each0)))
   ·skip
    refine RO.appendSR (c := Item.c) (l1 := ([] : List Item)) (l2 := k.items) rfl rfl rfl rfl rfl rfl rfl rfl rfl rfl .r (by decide) (Nat.le_of_ble_eq_true rfl) Item.len (fun _ => rfl) rfl (by have h1 := hok.1.1; have h2 := hok.2.1; simp only [maxLen, List.length_nil]; omega) (by have h1 := hok.1.1; have h2 := hok.2.1; simp only [maxLen, List.length_nil]; omega) fun Xo3_7_1 => ?_
    refine RA.fr XK 12 1 [8] (bt 10 511) rfl rfl (by kernel_rfl) (Tell.of rfl) ?_
    (conv=>whnf);refine ⟨rfl,fun B=>?_⟩
    exact RA.to2 hall hf hb (ro3_6 B Xo3_0_1 Xo3_3_1 Xo3_4_1 Xo3_7_1) rfl rfl (by kernel_rfl)
  have ro3_4 : ∀ B, ∀ (Xo3_0_1 : Value), ∀ (Xo3_4_1 : Value), RA f E B all 4 (bt 10 119) ⟨12, [(2, .obj b2 [.r (.v (.slice none 0 0)), .r (.v (.slice none 0 0))]), (3, .w (sl 3 Session.c ([] : List Session)) Xo3_0_1), (5, .r (sl 3 Session.c k.sessions)), (7, .w (sl 3 Item.c ([] : List Item)) Xo3_4_1), (9, .r (sl 3 Item.c k.items))] ++ b0⟩ K := by
   intro B Xo3_0_1 Xo3_4_1
   refine RA.of2 hall hf hb (RA.stepH (L := [3]) (Tell.of rfl) (by kernel_rfl) (by simp) (RA.each ?_ (RA.each0)))
   ·skip
    refine RO.appendSR (c := Session.c) (l1 := ([] : List Session)) (l2 := k.sessions) rfl rfl rfl rfl rfl rfl rfl rfl rfl rfl .r (by decide) (Nat.le_of_ble_eq_true rfl) Session.len (fun _ => rfl) rfl (by have h1 := hok.1.1; have h2 := hok.2.1; simp only [maxLen, List.length_nil]; omega) (by have h1 := hok.1.1; have h2 := hok.2.1; simp only [maxLen, List.length_nil]; omega) fun Xo3_3_1 => ?_
    exact RA.to2 hall hf hb (ro3_5 B Xo3_0_1 Xo3_3_1 Xo3_4_1) rfl rfl (by kernel_rfl)
  have ro3_3 : ∀ B, ∀ (Xo3_0_1 : Value), ∀ (Xo3_3_1 : Value), RA f E B all 4 (bt 10 111) ⟨12, [(2, .obj b2 [.r (.v (.slice none 0 0)), .r (.v (.slice none 0 0))]), (6, .w (sl 3 Session.c (([] : List Session) ++ k.sessions)) Xo3_3_1), (9, .r (sl 3 Item.c k.items))] ++ b0⟩ K := by
   intro B Xo3_0_1 Xo3_3_1
   refine RA.of2 hall hf hb (RA.stepH (L := [4]) (Tell.of rfl) (by kernel_rfl) (by simp) (RA.each ?_ (RA.each0)))
   ·skip
    refine RO.build0 Item.c rfl rfl rfl rfl rfl rfl rfl fun Xo3_4_1 => ?_
    exact RA.to2 hall hf hb (ro3_5 B Xo3_0_1 Xo3_3_1 Xo3_4_1) rfl rfl (by kernel_rfl)
  have ro3_2 : ∀ B, ∀ (Xo3_4_1 : Value), RA f E B all 5 (bt 10 118) ⟨12, [(2, .obj b2 [.r (.v (.slice none 0 0)), .r (.v (.slice none 0 0))]), (5, .r (sl 3 Session.c k.sessions)), (7, .w (sl 3 Item.c ([] : List Item)) Xo3_4_1), (9, .r (sl 3 Item.c k.items))] ++ b0⟩ K := by
   intro B Xo3_4_1
   refine RA.of2 hall hf hb (RA.stepH (L := [0]) (Tell.of rfl) (by kernel_rfl) (by simp) (RA.each ?_ (RA.each0)))
   ·skip
    refine RO.build0 Session.c rfl rfl rfl rfl rfl rfl rfl fun Xo3_0_1 => ?_
    exact RA.to2 hall hf hb (ro3_4 B Xo3_0_1 Xo3_4_1) rfl rfl (by kernel_rfl)
  have ro3_1 : ∀ B, ∀ (Xo3_0_1 : Value), RA f E B all 5 (bt 10 103) ⟨12, [(2, .obj b2 [.r (.v (.slice none 0 0)), .r (.v (.slice none 0 0))]), (3, .w (sl 3 Session.c ([] : List Session)) Xo3_0_1), (5, .r (sl 3 Session.c k.sessions)), (9, .r (sl 3 Item.c k.items))] ++ b0⟩ K := by
   intro B Xo3_0_1
   refine RA.of2 hall hf hb (RA.stepH (L := [3, 4]) (Tell.of rfl) (by kernel_rfl) (by simp) (RA.each ?_ (RA.each ?_ (RA.each0))))
   ·skip
    refine RO.appendSR (c := Session.c) (l1 := ([] : List Session)) (l2 := k.sessions) rfl rfl rfl rfl rfl rfl rfl rfl rfl rfl .r (by decide) (Nat.le_of_ble_eq_true rfl) Session.len (fun _ => rfl) rfl (by have h1 := hok.1.1; have h2 := hok.2.1; simp only [maxLen, List.length_nil]; omega) (by have h1 := hok.1.1; have h2 := hok.2.1; simp only [maxLen, List.length_nil]; omega) fun Xo3_3_1 => ?_
    exact RA.to2 hall hf hb (ro3_3 B Xo3_0_1 Xo3_3_1) rfl rfl (by kernel_rfl)
   ·skip
    refine RO.build0 Item.c rfl rfl rfl rfl rfl rfl rfl fun Xo3_4_1 => ?_
    exact RA.to2 hall hf hb (ro3_4 B Xo3_0_1 Xo3_4_1) rfl rfl (by kernel_rfl)
  have ro3_0 : ∀ B, RA f E B all 6 (bt 10 102) ⟨12, [(2, .obj b2 [.r (.v (.slice none 0 0)), .r (.v (.slice none 0 0))]), (5, .r (sl 3 Session.c k.sessions)), (9, .r (sl 3 Item.c k.items))] ++ b0⟩ K := by
   intro B
   refine RA.of2 hall hf hb (RA.stepH (L := [0, 4]) (Tell.of rfl) (by kernel_rfl) (by simp) (RA.each ?_ (RA.each ?_ (RA.each0))))
   ·skip
    refine RO.build0 Session.c rfl rfl rfl rfl rfl rfl rfl fun Xo3_0_1 => ?_
    exact RA.to2 hall hf hb (ro3_1 B Xo3_0_1) rfl rfl (by kernel_rfl)
   ·skip
    refine RO.build0 Item.c rfl rfl rfl rfl rfl rfl rfl fun Xo3_4_1 => ?_
    exact RA.to2 hall hf hb (ro3_2 B Xo3_4_1) rfl rfl (by kernel_rfl)
  refine RA.start (by kernel_rfl) (by kernel_rfl) (m := 10) (ls' := (bt 10 0)) ?_
  refine RA.fr XK 12 6 [1,2,5,6] (bt 10 102) rfl rfl (by kernel_rfl) (Tell.of rfl) ?_
  (conv=>whnf);refine ⟨rfl,fun B=>?_⟩
  exact RA.to2 hall hf hb (ro3_0 B) rfl rfl (by kernel_rfl)
 ·rintro ⟨Xo3_0_1, Xo3_3_1, Xo3_4_1, Xo3_7_1⟩
  refine CW.ret ?_
  exact Post.one (RV.c (f := fun e => (Keep.c e).map .w) (e' := (⟨(([] : List Session) ++ k.sessions), (([] : List Item) ++ k.items)⟩ : Keep)) rfl rfl rfl rfl (DT.w (DT.w DT.e)) (by rfl)) (AOs.a rfl AOs.e)
set_option maxHeartbeats 4000000 in
theorem spec_l15Copy_fn (k : Keep) (hok : okToKeep k) : Eng.Fn E.P 58 [.agg ((Keep.c k).map .r)] (.one (.agg ((Keep.c k).map .w))) [.agg ((Keep.c k).map .r)] := by
 refine Eng.Fn.intro (E := E) (rvs := [.cell 2 31]) Tryd.func58 rfl rfl rfl (by simp [outSlots, moved, rvSlot, sl]) ?_
 intro B g bo
 refine CW.keep 12 [0] rfl ?_;(conv=>whnf);refine ⟨?_⟩
 refine CW.seq ?_
 refine CW.region ?_
 refine RW.k XK 12 1 rfl ?_
 (conv=>whnf);intro b1;(conv=>whnf);refine ⟨rfl,?_⟩
 refine RW.freezeB (ts := (Keep.c k)) 1 rfl (DRd.r (DRd.r DRd.e)) ?_
 refine RW.k XK 12 1 rfl ?_
 (conv=>whnf);intro b2;(conv=>whnf);refine ⟨rfl,?_⟩
 refine RW.nil ?_
 refine CW.keep 12 [1,2] rfl ?_;(conv=>whnf);refine ⟨?_⟩
 refine CW.anyJ2 (fc := []) (L0 := []) 12 (fun (zz : Value × Value × Value × Value) => match zz with | (Xo3_0_1, Xo3_3_1, Xo3_4_1, Xo3_7_1) => [(2, .obj b2 [.w (sl 3 Session.c (([] : List Session) ++ k.sessions)) Xo3_3_1, .w (sl 3 Item.c (([] : List Item) ++ k.items)) Xo3_7_1])]) (fun all hall f hf b0 hb K hK => ?_) ?_
 ·skip
  have ro3_7 : ∀ B, ∀ (Xo3_0_1 : Value), ∀ (Xo3_3_1 : Value), ∀ (Xo3_4_1 : Value), ∀ (Xo3_7_1 : Value), RA f E B all 0 (bt 10 1023) ⟨12, [(2, .obj b2 [.w (sl 3 Session.c (([] : List Session) ++ k.sessions)) Xo3_3_1, .w (sl 3 Item.c (([] : List Item) ++ k.items)) Xo3_7_1])] ++ b0⟩ K := by
   intro B Xo3_0_1 Xo3_3_1 Xo3_4_1 Xo3_7_1
   exact RA.of2 hall hf hb (RA.finH (Tell.of rfl) (by kernel_rfl) (hK (Xo3_0_1, Xo3_3_1, Xo3_4_1, Xo3_7_1) _ rfl (Le.of rfl)))
  have ro3_6 : ∀ B, ∀ (Xo3_0_1 : Value), ∀ (Xo3_3_1 : Value), ∀ (Xo3_4_1 : Value), ∀ (Xo3_7_1 : Value), RA f E B all 1 (bt 10 511) ⟨12, [(2, .obj b2 [.r (.v (.slice none 0 0)), .r (.v (.slice none 0 0))]), (6, .w (sl 3 Session.c (([] : List Session) ++ k.sessions)) Xo3_3_1), (10, .w (sl 3 Item.c (([] : List Item) ++ k.items)) Xo3_7_1), (11, .agg [.al 6 none 3 ((([] : List Session) ++ k.sessions).length) Xo3_3_1 0, .al 10 none 3 ((([] : List Item) ++ k.items).length) Xo3_7_1 0])] ++ b0⟩ K := by
   intro B Xo3_0_1 Xo3_3_1 Xo3_4_1 Xo3_7_1
   refine RA.of2 hall hf hb (RA.stepH (L := [9]) (Tell.of rfl) (by kernel_rfl) (by simp) (RA.each ?_ (RA.each0)))
   ·skip
    refine RO.storeAgg (es := [.al 6 none 3 ((([] : List Session) ++ k.sessions).length) Xo3_3_1 0, .al 10 none 3 ((([] : List Item) ++ k.items).length) Xo3_7_1 0]) rfl rfl rfl rfl rfl rfl rfl rfl rfl rfl (Nat.le_of_ble_eq_true rfl) rfl ?_
    refine RA.keep 12 [2,6,10] rfl ?_;(conv=>whnf);refine ⟨?_⟩
    refine RA.pullT (k := 2) (l := 6) (j := 0) 2 6 0 rfl rfl rfl (by decide) rfl rfl rfl ?_
    refine RA.keep 12 [2,10] rfl ?_;(conv=>whnf);refine ⟨?_⟩
    refine RA.pullT (k := 2) (l := 10) (j := 1) 2 10 1 rfl rfl rfl (by decide) rfl rfl rfl ?_
    refine RA.keep 12 [2] rfl ?_;(conv=>whnf);refine ⟨?_⟩
    exact RA.to2 hall hf hb (ro3_7 B Xo3_0_1 Xo3_3_1 Xo3_4_1 Xo3_7_1) rfl rfl (by kernel_rfl)
  have ro3_5 : ∀ B, ∀ (Xo3_0_1 : Value), ∀ (Xo3_3_1 : Value), ∀ (Xo3_4_1 : Value), RA f E B all 3 (bt 10 127) ⟨12, [(2, .obj b2 [.r (.v (.slice none 0 0)), .r (.v (.slice none 0 0))]), (6, .w (sl 3 Session.c (([] : List Session) ++ k.sessions)) Xo3_3_1), (7, .w (sl 3 Item.c ([] : List Item)) Xo3_4_1), (9, .r (sl 3 Item.c k.items))] ++ b0⟩ K := by
   intro B Xo3_0_1 Xo3_3_1 Xo3_4_1
   refine RA.of2 hall hf hb (RA.stepH (L := [7]) (Tell.of rfl) (by kernel_rfl) (by simp) (RA.each ?_ (RA.each0)))
   ·skip
    refine RO.appendSR (c := Item.c) (l1 := ([] : List Item)) (l2 := k.items) rfl rfl rfl rfl rfl rfl rfl rfl rfl rfl .r (by decide) (Nat.le_of_ble_eq_true rfl) Item.len (fun _ => rfl) rfl (by have h1 := hok.1.1; have h2 := hok.2.1; simp only [maxLen, List.length_nil]; omega) (by have h1 := hok.1.1; have h2 := hok.2.1; simp only [maxLen, List.length_nil]; omega) fun Xo3_7_1 => ?_
    refine RA.fr XK 12 1 [8] (bt 10 511) rfl rfl (by kernel_rfl) (Tell.of rfl) ?_
    (conv=>whnf);refine ⟨rfl,fun B=>?_⟩
    exact RA.to2 hall hf hb (ro3_6 B Xo3_0_1 Xo3_3_1 Xo3_4_1 Xo3_7_1) rfl rfl (by kernel_rfl)
  have ro3_4 : ∀ B, ∀ (Xo3_0_1 : Value), ∀ (Xo3_4_1 : Value), RA f E B all 4 (bt 10 119) ⟨12, [(2, .obj b2 [.r (.v (.slice none 0 0)), .r (.v (.slice none 0 0))]), (3, .w (sl 3 Session.c ([] : List Session)) Xo3_0_1), (5, .r (sl 3 Session.c k.sessions)), (7, .w (sl 3 Item.c ([] : List Item)) Xo3_4_1), (9, .r (sl 3 Item.c k.items))] ++ b0⟩ K := by
   intro B Xo3_0_1 Xo3_4_1
   refine RA.of2 hall hf hb (RA.stepH (L := [3]) (Tell.of rfl) (by kernel_rfl) (by simp) (RA.each ?_ (RA.each0)))
   ·skip
    refine RO.appendSR (c := Session.c) (l1 := ([] : List Session)) (l2 := k.sessions) rfl rfl rfl rfl rfl rfl rfl rfl rfl rfl .r (by decide) (Nat.le_of_ble_eq_true rfl) Session.len (fun _ => rfl) rfl (by have h1 := hok.1.1; have h2 := hok.2.1; simp only [maxLen, List.length_nil]; omega) (by have h1 := hok.1.1; have h2 := hok.2.1; simp only [maxLen, List.length_nil]; omega) fun Xo3_3_1 => ?_
    exact RA.to2 hall hf hb (ro3_5 B Xo3_0_1 Xo3_3_1 Xo3_4_1) rfl rfl (by kernel_rfl)
  have ro3_3 : ∀ B, ∀ (Xo3_0_1 : Value), ∀ (Xo3_3_1 : Value), RA f E B all 4 (bt 10 111) ⟨12, [(2, .obj b2 [.r (.v (.slice none 0 0)), .r (.v (.slice none 0 0))]), (6, .w (sl 3 Session.c (([] : List Session) ++ k.sessions)) Xo3_3_1), (9, .r (sl 3 Item.c k.items))] ++ b0⟩ K := by
   intro B Xo3_0_1 Xo3_3_1
   refine RA.of2 hall hf hb (RA.stepH (L := [4]) (Tell.of rfl) (by kernel_rfl) (by simp) (RA.each ?_ (RA.each0)))
   ·skip
    refine RO.build0 Item.c rfl rfl rfl rfl rfl rfl rfl fun Xo3_4_1 => ?_
    exact RA.to2 hall hf hb (ro3_5 B Xo3_0_1 Xo3_3_1 Xo3_4_1) rfl rfl (by kernel_rfl)
  have ro3_2 : ∀ B, ∀ (Xo3_4_1 : Value), RA f E B all 5 (bt 10 118) ⟨12, [(2, .obj b2 [.r (.v (.slice none 0 0)), .r (.v (.slice none 0 0))]), (5, .r (sl 3 Session.c k.sessions)), (7, .w (sl 3 Item.c ([] : List Item)) Xo3_4_1), (9, .r (sl 3 Item.c k.items))] ++ b0⟩ K := by
   intro B Xo3_4_1
   refine RA.of2 hall hf hb (RA.stepH (L := [0]) (Tell.of rfl) (by kernel_rfl) (by simp) (RA.each ?_ (RA.each0)))
   ·skip
    refine RO.build0 Session.c rfl rfl rfl rfl rfl rfl rfl fun Xo3_0_1 => ?_
    exact RA.to2 hall hf hb (ro3_4 B Xo3_0_1 Xo3_4_1) rfl rfl (by kernel_rfl)
  have ro3_1 : ∀ B, ∀ (Xo3_0_1 : Value), RA f E B all 5 (bt 10 103) ⟨12, [(2, .obj b2 [.r (.v (.slice none 0 0)), .r (.v (.slice none 0 0))]), (3, .w (sl 3 Session.c ([] : List Session)) Xo3_0_1), (5, .r (sl 3 Session.c k.sessions)), (9, .r (sl 3 Item.c k.items))] ++ b0⟩ K := by
   intro B Xo3_0_1
   refine RA.of2 hall hf hb (RA.stepH (L := [3, 4]) (Tell.of rfl) (by kernel_rfl) (by simp) (RA.each ?_ (RA.each ?_ (RA.each0))))
   ·skip
    refine RO.appendSR (c := Session.c) (l1 := ([] : List Session)) (l2 := k.sessions) rfl rfl rfl rfl rfl rfl rfl rfl rfl rfl .r (by decide) (Nat.le_of_ble_eq_true rfl) Session.len (fun _ => rfl) rfl (by have h1 := hok.1.1; have h2 := hok.2.1; simp only [maxLen, List.length_nil]; omega) (by have h1 := hok.1.1; have h2 := hok.2.1; simp only [maxLen, List.length_nil]; omega) fun Xo3_3_1 => ?_
    exact RA.to2 hall hf hb (ro3_3 B Xo3_0_1 Xo3_3_1) rfl rfl (by kernel_rfl)
   ·skip
    refine RO.build0 Item.c rfl rfl rfl rfl rfl rfl rfl fun Xo3_4_1 => ?_
    exact RA.to2 hall hf hb (ro3_4 B Xo3_0_1 Xo3_4_1) rfl rfl (by kernel_rfl)
  have ro3_0 : ∀ B, RA f E B all 6 (bt 10 102) ⟨12, [(2, .obj b2 [.r (.v (.slice none 0 0)), .r (.v (.slice none 0 0))]), (5, .r (sl 3 Session.c k.sessions)), (9, .r (sl 3 Item.c k.items))] ++ b0⟩ K := by
   intro B
   refine RA.of2 hall hf hb (RA.stepH (L := [0, 4]) (Tell.of rfl) (by kernel_rfl) (by simp) (RA.each ?_ (RA.each ?_ (RA.each0))))
   ·skip
    refine RO.build0 Session.c rfl rfl rfl rfl rfl rfl rfl fun Xo3_0_1 => ?_
    exact RA.to2 hall hf hb (ro3_1 B Xo3_0_1) rfl rfl (by kernel_rfl)
   ·skip
    refine RO.build0 Item.c rfl rfl rfl rfl rfl rfl rfl fun Xo3_4_1 => ?_
    exact RA.to2 hall hf hb (ro3_2 B Xo3_4_1) rfl rfl (by kernel_rfl)
  refine RA.start (by kernel_rfl) (by kernel_rfl) (m := 10) (ls' := (bt 10 0)) ?_
  refine RA.fr XK 12 6 [1,2,5,6] (bt 10 102) rfl rfl (by kernel_rfl) (Tell.of rfl) ?_
  (conv=>whnf);refine ⟨rfl,fun B=>?_⟩
  exact RA.to2 hall hf hb (ro3_0 B) rfl rfl (by kernel_rfl)
 ·rintro ⟨Xo3_0_1, Xo3_3_1, Xo3_4_1, Xo3_7_1⟩
  refine CW.ret ?_
  exact Post.one (RV.c (f := fun e => (Keep.c e).map .w) (e' := (⟨(([] : List Session) ++ k.sessions), (([] : List Item) ++ k.items)⟩ : Keep)) rfl rfl rfl rfl (DT.w (DT.w DT.e)) (by rfl)) (AOs.a rfl AOs.e)
set_option maxHeartbeats 4000000 in
theorem impl_CommandOk_fn (x : Command) : Eng.Fn E.P 24 [.agg ((Command.c x).map .r)] (.one (.one (.w (.v (.bool (cmdOk x)))))) [.agg ((Command.c x).map .r)] := by
 refine Eng.Fn.intro (E := E) (rvs := [.tmp 2]) Tryd.func24 rfl rfl rfl (by simp [outSlots, moved, rvSlot, sl]) ?_
 intro B g bo
 refine CW.keep 50 [0] rfl ?_;(conv=>whnf);refine ⟨?_⟩
 refine CW.seq ?_
 refine CW.region ?_
 refine RW.k XK 50 1 rfl ?_
 (conv=>whnf);intro b1;(conv=>whnf);refine ⟨rfl,?_⟩
 refine RW.freezeB (ts := (Command.c x)) 1 rfl (DRd.r (DRd.r (DRd.r (DRd.r (DRd.r (DRd.r DRd.e)))))) ?_
 refine RW.k XK 50 1 rfl ?_
 (conv=>whnf);refine ⟨rfl,?_⟩
 refine RW.nil ?_
 refine CW.keep 50 [1] rfl ?_;(conv=>whnf);refine ⟨?_⟩
 refine CW.seq ?_
 refine CW.k XK 50 1 [1,4] rfl ?_
 (conv=>whnf);refine ⟨rfl,?_⟩
 refine CW.block ?_
 refine CW.k XK 50 1 [1,4,5] rfl ?_
 (conv=>whnf);refine ⟨rfl,?_⟩
 refine CW.cond rfl (fun h2 => ?_) (fun h2 => ?_)
 ·skip
  refine CW.seq ?_
  refine CW.region ?_
  refine RW.k XK 50 2 rfl ?_
  (conv=>whnf);refine ⟨rfl,?_⟩
  refine RW.v rfl (V.eqAgg (xs := Command.vs x) (ys := Command.vs (⟨1, 0, 0, ⟨#[]⟩, ⟨#[]⟩, 0⟩ : Command)) rfl rfl rfl (by kernel_rfl) (eq38 x (⟨1, 0, 0, ⟨#[]⟩, ⟨#[]⟩, 0⟩ : Command)) (.inl ⟨rfl, rfl⟩)) ?_
  refine RW.k XK 50 1 rfl ?_
  (conv=>whnf);refine ⟨rfl,?_⟩
  refine RW.nil ?_
  refine CW.keep 50 [2] rfl ?_;(conv=>whnf);refine ⟨?_⟩
  refine CW.ret ?_
  exact Post.one (RV.b rfl (by exact cmd_open (by simpa using h2))) (AOs.a rfl AOs.e)
 ·skip
  refine CW.seq ?_
  refine CW.k XK 50 1 [1,4,10] rfl ?_
  (conv=>whnf);refine ⟨rfl,?_⟩
  refine CW.cond rfl (fun h3 => ?_) (fun h3 => ?_)
  ·skip
   refine CW.le [(1, .rp (Command.c x)), (4, I x.op), (10, Bo true)] rfl (Le.c rfl <| Le.c rfl <| Le.c (congrArg Bo h3) <| Le.e) ?_
   refine CW.skip ?_
   refine CW.keep 50 [1,4,10] rfl ?_;(conv=>whnf);refine ⟨?_⟩
   refine CW.condT rfl ?_
   refine CW.seqJ 50 (fun (v5 : Bool) => [(1, .rp (Command.c x)), (20, Bo v5)]) (fun v5 => v5 = ((!(x.val.toList == (⟨#[]⟩ : ByteArray).toList)) || (x.ver != 0))) ?_ ?_
   ·refine CW.region ?_
    refine RW.k XK 50 4 rfl ?_
    (conv=>whnf);refine ⟨rfl,?_⟩
    refine RW.gv rfl rfl rfl rfl (fun h6 => V.fieldR rfl rfl rfl rfl (by decide) rfl (Nat.le_of_ble_eq_true rfl)) (fun h6 => ?_) (fun h6 => ?_)
    ·skip
     refine RW.k XK 50 3 rfl ?_
     (conv=>whnf);refine ⟨rfl,?_⟩
     refine RW.nil ?_
     exact ⟨_, by first | rfl | (simp_all; done) | (simp_all; omega) | grind, rfl, Le.of rfl⟩
    ·skip
     refine RW.k XK 50 3 rfl ?_
     (conv=>whnf);refine ⟨rfl,?_⟩
     refine RW.nil ?_
     exact ⟨_, by first | rfl | (simp_all; done) | (simp_all; omega) | grind, rfl, Le.of rfl⟩
   ·intro v5 hv7
    refine CW.cond rfl (fun h8 => ?_) (fun h8 => ?_)
    ·skip
     refine CW.k XK 50 1 [2] rfl ?_
     (conv=>whnf);refine ⟨rfl,?_⟩
     refine CW.ret ?_
     exact Post.one (RV.b rfl (by first | (simp_all [cmdOk, emp, inR]; done) | grind [cmdOk, emp, inR])) (AOs.a rfl AOs.e)
    ·skip
     refine CW.skip ?_
     refine CW.keep 50 [1] rfl ?_;(conv=>whnf);refine ⟨?_⟩
     refine CW.seqJ 50 (fun (v9 : Bool) => [(2, Bo v9)]) (fun v9 => v9 = ((((inR x.token 0 1000000) && (inR x.seq 0 1000000)) && (inR (x.key.size : Int) 1 8)) && (decide ((x.val.size : Int) ≤ 20)))) ?_ ?_
     ·refine CW.region ?_
      refine RW.k XK 50 2 rfl ?_
      (conv=>whnf);refine ⟨rfl,?_⟩
      refine RW.call rfl (impl_isIndex_fn x.token) rfl (.cons (.one (.r .r)) (.nil)) fun g10 => ?_
      refine RW.k XK 50 1 rfl ?_
      (conv=>whnf);refine ⟨rfl,?_⟩
      refine RW.gv rfl rfl rfl rfl (fun h11 => V.fieldR rfl rfl rfl rfl (by decide) rfl (Nat.le_of_ble_eq_true rfl)) (fun h11 => ?_) (fun h11 => ?_)
      ·skip
       refine RW.k XK 50 1 rfl ?_
       (conv=>whnf);refine ⟨rfl,?_⟩
       refine RW.gcall rfl rfl rfl rfl (impl_isIndex_fn x.seq) rfl (.cons (.one (.r .r)) (.nil)) fun g12 => ?_
       refine RW.k XK 50 2 rfl ?_
       (conv=>whnf);refine ⟨rfl,?_⟩
       refine RW.gv rfl rfl rfl rfl (fun h13 => V.fieldR rfl rfl rfl rfl (by decide) rfl (Nat.le_of_ble_eq_true rfl)) (fun h13 => ?_) (fun h13 => ?_)
       ·skip
        refine RW.k XK 50 1 rfl ?_
        (conv=>whnf);refine ⟨rfl,?_⟩
        refine RW.gcall rfl rfl rfl rfl (impl_keyOk_fn x.key) rfl (.cons (.one (.r .r)) (.nil)) fun g14 => ?_
        refine RW.k XK 50 2 rfl ?_
        (conv=>whnf);refine ⟨rfl,?_⟩
        refine RW.gv rfl rfl rfl rfl (fun h15 => V.fieldR rfl rfl rfl rfl (by decide) rfl (Nat.le_of_ble_eq_true rfl)) (fun h15 => ?_) (fun h15 => ?_)
        ·skip
         refine RW.k XK 50 1 rfl ?_
         (conv=>whnf);refine ⟨rfl,?_⟩
         refine RW.gcall rfl rfl rfl rfl (impl_valOk_fn x.val) rfl (.cons (.one (.r .r)) (.nil)) fun g16 => ?_
         refine RW.k XK 50 2 rfl ?_
         (conv=>whnf);refine ⟨rfl,?_⟩
         refine RW.nil ?_
         exact ⟨_, by first | rfl | (simp_all; done) | (simp_all; omega) | grind, rfl, Le.of rfl⟩
        ·skip
         refine RW.k XK 50 4 rfl ?_
         (conv=>whnf);refine ⟨rfl,?_⟩
         refine RW.nil ?_
         exact ⟨_, by first | rfl | (simp_all; done) | (simp_all; omega) | grind, rfl, Le.of rfl⟩
       ·skip
        refine RW.k XK 50 9 rfl ?_
        (conv=>whnf);refine ⟨rfl,?_⟩
        refine RW.nil ?_
        exact ⟨_, by first | rfl | (simp_all; done) | (simp_all; omega) | grind, rfl, Le.of rfl⟩
      ·skip
       refine RW.k XK 50 14 rfl ?_
       (conv=>whnf);refine ⟨rfl,?_⟩
       refine RW.nil ?_
       exact ⟨_, by first | rfl | (simp_all; done) | (simp_all; omega) | grind, rfl, Le.of rfl⟩
     ·intro v9 hv17
      refine CW.ret ?_
      exact Post.one (RV.b rfl (by first | (simp_all [cmdOk, emp, inR]; done) | grind [cmdOk, emp, inR])) (AOs.a rfl AOs.e)
  ·skip
   refine CW.region ?_
   refine RW.k XK 50 2 rfl ?_
   (conv=>whnf);refine ⟨rfl,?_⟩
   refine RW.nil ?_
   refine CW.keep 50 [1,4,10] rfl ?_;(conv=>whnf);refine ⟨?_⟩
   refine CW.cond rfl (fun h18 => ?_) (fun h18 => ?_)
   ·skip
    refine CW.seqJ 50 (fun (v19 : Bool) => [(1, .rp (Command.c x)), (20, Bo v19)]) (fun v19 => v19 = ((!(x.val.toList == (⟨#[]⟩ : ByteArray).toList)) || (x.ver != 0))) ?_ ?_
    ·refine CW.region ?_
     refine RW.k XK 50 4 rfl ?_
     (conv=>whnf);refine ⟨rfl,?_⟩
     refine RW.gv rfl rfl rfl rfl (fun h20 => V.fieldR rfl rfl rfl rfl (by decide) rfl (Nat.le_of_ble_eq_true rfl)) (fun h20 => ?_) (fun h20 => ?_)
     ·skip
      refine RW.k XK 50 3 rfl ?_
      (conv=>whnf);refine ⟨rfl,?_⟩
      refine RW.nil ?_
      exact ⟨_, by first | rfl | (simp_all; done) | (simp_all; omega) | grind, rfl, Le.of rfl⟩
     ·skip
      refine RW.k XK 50 3 rfl ?_
      (conv=>whnf);refine ⟨rfl,?_⟩
      refine RW.nil ?_
      exact ⟨_, by first | rfl | (simp_all; done) | (simp_all; omega) | grind, rfl, Le.of rfl⟩
    ·intro v19 hv21
     refine CW.cond rfl (fun h22 => ?_) (fun h22 => ?_)
     ·skip
      refine CW.k XK 50 1 [2] rfl ?_
      (conv=>whnf);refine ⟨rfl,?_⟩
      refine CW.ret ?_
      exact Post.one (RV.b rfl (by first | (simp_all [cmdOk, emp, inR]; done) | grind [cmdOk, emp, inR])) (AOs.a rfl AOs.e)
     ·skip
      refine CW.skip ?_
      refine CW.keep 50 [1] rfl ?_;(conv=>whnf);refine ⟨?_⟩
      refine CW.seqJ 50 (fun (v23 : Bool) => [(2, Bo v23)]) (fun v23 => v23 = ((((inR x.token 0 1000000) && (inR x.seq 0 1000000)) && (inR (x.key.size : Int) 1 8)) && (decide ((x.val.size : Int) ≤ 20)))) ?_ ?_
      ·refine CW.region ?_
       refine RW.k XK 50 2 rfl ?_
       (conv=>whnf);refine ⟨rfl,?_⟩
       refine RW.call rfl (impl_isIndex_fn x.token) rfl (.cons (.one (.r .r)) (.nil)) fun g24 => ?_
       refine RW.k XK 50 1 rfl ?_
       (conv=>whnf);refine ⟨rfl,?_⟩
       refine RW.gv rfl rfl rfl rfl (fun h25 => V.fieldR rfl rfl rfl rfl (by decide) rfl (Nat.le_of_ble_eq_true rfl)) (fun h25 => ?_) (fun h25 => ?_)
       ·skip
        refine RW.k XK 50 1 rfl ?_
        (conv=>whnf);refine ⟨rfl,?_⟩
        refine RW.gcall rfl rfl rfl rfl (impl_isIndex_fn x.seq) rfl (.cons (.one (.r .r)) (.nil)) fun g26 => ?_
        refine RW.k XK 50 2 rfl ?_
        (conv=>whnf);refine ⟨rfl,?_⟩
        refine RW.gv rfl rfl rfl rfl (fun h27 => V.fieldR rfl rfl rfl rfl (by decide) rfl (Nat.le_of_ble_eq_true rfl)) (fun h27 => ?_) (fun h27 => ?_)
        ·skip
         refine RW.k XK 50 1 rfl ?_
         (conv=>whnf);refine ⟨rfl,?_⟩
         refine RW.gcall rfl rfl rfl rfl (impl_keyOk_fn x.key) rfl (.cons (.one (.r .r)) (.nil)) fun g28 => ?_
         refine RW.k XK 50 2 rfl ?_
         (conv=>whnf);refine ⟨rfl,?_⟩
         refine RW.gv rfl rfl rfl rfl (fun h29 => V.fieldR rfl rfl rfl rfl (by decide) rfl (Nat.le_of_ble_eq_true rfl)) (fun h29 => ?_) (fun h29 => ?_)
         ·skip
          refine RW.k XK 50 1 rfl ?_
          (conv=>whnf);refine ⟨rfl,?_⟩
          refine RW.gcall rfl rfl rfl rfl (impl_valOk_fn x.val) rfl (.cons (.one (.r .r)) (.nil)) fun g30 => ?_
          refine RW.k XK 50 2 rfl ?_
          (conv=>whnf);refine ⟨rfl,?_⟩
          refine RW.nil ?_
          exact ⟨_, by first | rfl | (simp_all; done) | (simp_all; omega) | grind, rfl, Le.of rfl⟩
         ·skip
          refine RW.k XK 50 4 rfl ?_
          (conv=>whnf);refine ⟨rfl,?_⟩
          refine RW.nil ?_
          exact ⟨_, by first | rfl | (simp_all; done) | (simp_all; omega) | grind, rfl, Le.of rfl⟩
        ·skip
         refine RW.k XK 50 9 rfl ?_
         (conv=>whnf);refine ⟨rfl,?_⟩
         refine RW.nil ?_
         exact ⟨_, by first | rfl | (simp_all; done) | (simp_all; omega) | grind, rfl, Le.of rfl⟩
       ·skip
        refine RW.k XK 50 14 rfl ?_
        (conv=>whnf);refine ⟨rfl,?_⟩
        refine RW.nil ?_
        exact ⟨_, by first | rfl | (simp_all; done) | (simp_all; omega) | grind, rfl, Le.of rfl⟩
      ·intro v23 hv31
       refine CW.ret ?_
       exact Post.one (RV.b rfl (by first | (simp_all [cmdOk, emp, inR]; done) | grind [cmdOk, emp, inR])) (AOs.a rfl AOs.e)
   ·skip
    refine CW.k XK 50 1 [1,4,21] rfl ?_
    (conv=>whnf);refine ⟨rfl,?_⟩
    refine CW.cond rfl (fun h32 => ?_) (fun h32 => ?_)
    ·skip
     refine CW.k XK 50 1 [1,25] rfl ?_
     (conv=>whnf);refine ⟨rfl,?_⟩
     refine CW.cond rfl (fun h33 => ?_) (fun h33 => ?_)
     ·skip
      refine CW.k XK 50 1 [2] rfl ?_
      (conv=>whnf);refine ⟨rfl,?_⟩
      refine CW.ret ?_
      exact Post.one (RV.b rfl (by first | (simp_all [cmdOk, emp, inR]; done) | grind [cmdOk, emp, inR])) (AOs.a rfl AOs.e)
     ·skip
      refine CW.skip ?_
      refine CW.keep 50 [1] rfl ?_;(conv=>whnf);refine ⟨?_⟩
      refine CW.seqJ 50 (fun (v34 : Bool) => [(2, Bo v34)]) (fun v34 => v34 = ((((inR x.token 0 1000000) && (inR x.seq 0 1000000)) && (inR (x.key.size : Int) 1 8)) && (decide ((x.val.size : Int) ≤ 20)))) ?_ ?_
      ·refine CW.region ?_
       refine RW.k XK 50 2 rfl ?_
       (conv=>whnf);refine ⟨rfl,?_⟩
       refine RW.call rfl (impl_isIndex_fn x.token) rfl (.cons (.one (.r .r)) (.nil)) fun g35 => ?_
       refine RW.k XK 50 1 rfl ?_
       (conv=>whnf);refine ⟨rfl,?_⟩
       refine RW.gv rfl rfl rfl rfl (fun h36 => V.fieldR rfl rfl rfl rfl (by decide) rfl (Nat.le_of_ble_eq_true rfl)) (fun h36 => ?_) (fun h36 => ?_)
       ·skip
        refine RW.k XK 50 1 rfl ?_
        (conv=>whnf);refine ⟨rfl,?_⟩
        refine RW.gcall rfl rfl rfl rfl (impl_isIndex_fn x.seq) rfl (.cons (.one (.r .r)) (.nil)) fun g37 => ?_
        refine RW.k XK 50 2 rfl ?_
        (conv=>whnf);refine ⟨rfl,?_⟩
        refine RW.gv rfl rfl rfl rfl (fun h38 => V.fieldR rfl rfl rfl rfl (by decide) rfl (Nat.le_of_ble_eq_true rfl)) (fun h38 => ?_) (fun h38 => ?_)
        ·skip
         refine RW.k XK 50 1 rfl ?_
         (conv=>whnf);refine ⟨rfl,?_⟩
         refine RW.gcall rfl rfl rfl rfl (impl_keyOk_fn x.key) rfl (.cons (.one (.r .r)) (.nil)) fun g39 => ?_
         refine RW.k XK 50 2 rfl ?_
         (conv=>whnf);refine ⟨rfl,?_⟩
         refine RW.gv rfl rfl rfl rfl (fun h40 => V.fieldR rfl rfl rfl rfl (by decide) rfl (Nat.le_of_ble_eq_true rfl)) (fun h40 => ?_) (fun h40 => ?_)
         ·skip
          refine RW.k XK 50 1 rfl ?_
          (conv=>whnf);refine ⟨rfl,?_⟩
          refine RW.gcall rfl rfl rfl rfl (impl_valOk_fn x.val) rfl (.cons (.one (.r .r)) (.nil)) fun g41 => ?_
          refine RW.k XK 50 2 rfl ?_
          (conv=>whnf);refine ⟨rfl,?_⟩
          refine RW.nil ?_
          exact ⟨_, by first | rfl | (simp_all; done) | (simp_all; omega) | grind, rfl, Le.of rfl⟩
         ·skip
          refine RW.k XK 50 4 rfl ?_
          (conv=>whnf);refine ⟨rfl,?_⟩
          refine RW.nil ?_
          exact ⟨_, by first | rfl | (simp_all; done) | (simp_all; omega) | grind, rfl, Le.of rfl⟩
        ·skip
         refine RW.k XK 50 9 rfl ?_
         (conv=>whnf);refine ⟨rfl,?_⟩
         refine RW.nil ?_
         exact ⟨_, by first | rfl | (simp_all; done) | (simp_all; omega) | grind, rfl, Le.of rfl⟩
       ·skip
        refine RW.k XK 50 14 rfl ?_
        (conv=>whnf);refine ⟨rfl,?_⟩
        refine RW.nil ?_
        exact ⟨_, by first | rfl | (simp_all; done) | (simp_all; omega) | grind, rfl, Le.of rfl⟩
      ·intro v34 hv42
       refine CW.ret ?_
       exact Post.one (RV.b rfl (by first | (simp_all [cmdOk, emp, inR]; done) | grind [cmdOk, emp, inR])) (AOs.a rfl AOs.e)
    ·skip
     refine CW.k XK 50 1 [1,26] rfl ?_
     (conv=>whnf);refine ⟨rfl,?_⟩
     refine CW.cond rfl (fun h43 => ?_) (fun h43 => ?_)
     ·skip
      refine CW.seq ?_
      refine CW.region ?_
      refine RW.k XK 50 2 rfl ?_
      (conv=>whnf);refine ⟨rfl,?_⟩
      refine RW.call rfl (impl_within_fn x.ver 1 1000000000) rfl (.cons (.one (.r .r)) (.cons (.one (.r .r)) (.cons (.one (.r .r)) (.nil)))) fun g44 => ?_
      refine RW.k XK 50 1 rfl ?_
      (conv=>whnf);refine ⟨rfl,?_⟩
      refine RW.nil ?_
      refine CW.keep 50 [1,31] rfl ?_;(conv=>whnf);refine ⟨?_⟩
      refine CW.cond rfl (fun h45 => ?_) (fun h45 => ?_)
      ·skip
       refine CW.k XK 50 1 [2] rfl ?_
       (conv=>whnf);refine ⟨rfl,?_⟩
       refine CW.ret ?_
       exact Post.one (RV.b rfl (by first | (simp_all [cmdOk, emp, inR]; done) | grind [cmdOk, emp, inR])) (AOs.a rfl AOs.e)
      ·skip
       refine CW.skip ?_
       refine CW.keep 50 [1] rfl ?_;(conv=>whnf);refine ⟨?_⟩
       refine CW.seqJ 50 (fun (v46 : Bool) => [(2, Bo v46)]) (fun v46 => v46 = ((((inR x.token 0 1000000) && (inR x.seq 0 1000000)) && (inR (x.key.size : Int) 1 8)) && (decide ((x.val.size : Int) ≤ 20)))) ?_ ?_
       ·refine CW.region ?_
        refine RW.k XK 50 2 rfl ?_
        (conv=>whnf);refine ⟨rfl,?_⟩
        refine RW.call rfl (impl_isIndex_fn x.token) rfl (.cons (.one (.r .r)) (.nil)) fun g47 => ?_
        refine RW.k XK 50 1 rfl ?_
        (conv=>whnf);refine ⟨rfl,?_⟩
        refine RW.gv rfl rfl rfl rfl (fun h48 => V.fieldR rfl rfl rfl rfl (by decide) rfl (Nat.le_of_ble_eq_true rfl)) (fun h48 => ?_) (fun h48 => ?_)
        ·skip
         refine RW.k XK 50 1 rfl ?_
         (conv=>whnf);refine ⟨rfl,?_⟩
         refine RW.gcall rfl rfl rfl rfl (impl_isIndex_fn x.seq) rfl (.cons (.one (.r .r)) (.nil)) fun g49 => ?_
         refine RW.k XK 50 2 rfl ?_
         (conv=>whnf);refine ⟨rfl,?_⟩
         refine RW.gv rfl rfl rfl rfl (fun h50 => V.fieldR rfl rfl rfl rfl (by decide) rfl (Nat.le_of_ble_eq_true rfl)) (fun h50 => ?_) (fun h50 => ?_)
         ·skip
          refine RW.k XK 50 1 rfl ?_
          (conv=>whnf);refine ⟨rfl,?_⟩
          refine RW.gcall rfl rfl rfl rfl (impl_keyOk_fn x.key) rfl (.cons (.one (.r .r)) (.nil)) fun g51 => ?_
          refine RW.k XK 50 2 rfl ?_
          (conv=>whnf);refine ⟨rfl,?_⟩
          refine RW.gv rfl rfl rfl rfl (fun h52 => V.fieldR rfl rfl rfl rfl (by decide) rfl (Nat.le_of_ble_eq_true rfl)) (fun h52 => ?_) (fun h52 => ?_)
          ·skip
           refine RW.k XK 50 1 rfl ?_
           (conv=>whnf);refine ⟨rfl,?_⟩
           refine RW.gcall rfl rfl rfl rfl (impl_valOk_fn x.val) rfl (.cons (.one (.r .r)) (.nil)) fun g53 => ?_
           refine RW.k XK 50 2 rfl ?_
           (conv=>whnf);refine ⟨rfl,?_⟩
           refine RW.nil ?_
           exact ⟨_, by first | rfl | (simp_all; done) | (simp_all; omega) | grind, rfl, Le.of rfl⟩
          ·skip
           refine RW.k XK 50 4 rfl ?_
           (conv=>whnf);refine ⟨rfl,?_⟩
           refine RW.nil ?_
           exact ⟨_, by first | rfl | (simp_all; done) | (simp_all; omega) | grind, rfl, Le.of rfl⟩
         ·skip
          refine RW.k XK 50 9 rfl ?_
          (conv=>whnf);refine ⟨rfl,?_⟩
          refine RW.nil ?_
          exact ⟨_, by first | rfl | (simp_all; done) | (simp_all; omega) | grind, rfl, Le.of rfl⟩
        ·skip
         refine RW.k XK 50 14 rfl ?_
         (conv=>whnf);refine ⟨rfl,?_⟩
         refine RW.nil ?_
         exact ⟨_, by first | rfl | (simp_all; done) | (simp_all; omega) | grind, rfl, Le.of rfl⟩
       ·intro v46 hv54
        refine CW.ret ?_
        exact Post.one (RV.b rfl (by first | (simp_all [cmdOk, emp, inR]; done) | grind [cmdOk, emp, inR])) (AOs.a rfl AOs.e)
     ·skip
      refine CW.k XK 50 1 [2] rfl ?_
      (conv=>whnf);refine ⟨rfl,?_⟩
      refine CW.ret ?_
      exact Post.one (RV.b rfl (by first | (simp_all [cmdOk, emp, inR]; done) | grind [cmdOk, emp, inR])) (AOs.a rfl AOs.e)
set_option maxHeartbeats 4000000 in
theorem spec_CommandOk_fn (x : Command) : Eng.Fn E.P 23 [.agg ((Command.c x).map .r)] (.one (.one (.w (.v (.bool (cmdOk x)))))) [.agg ((Command.c x).map .r)] := by
 refine Eng.Fn.intro (E := E) (rvs := [.tmp 2]) Tryd.func23 rfl rfl rfl (by simp [outSlots, moved, rvSlot, sl]) ?_
 intro B g bo
 refine CW.keep 76 [0] rfl ?_;(conv=>whnf);refine ⟨?_⟩
 refine CW.seq ?_
 refine CW.region ?_
 refine RW.k XK 76 1 rfl ?_
 (conv=>whnf);intro b1;(conv=>whnf);refine ⟨rfl,?_⟩
 refine RW.freezeB (ts := (Command.c x)) 1 rfl (DRd.r (DRd.r (DRd.r (DRd.r (DRd.r (DRd.r DRd.e)))))) ?_
 refine RW.k XK 76 1 rfl ?_
 (conv=>whnf);refine ⟨rfl,?_⟩
 refine RW.nil ?_
 refine CW.keep 76 [1] rfl ?_;(conv=>whnf);refine ⟨?_⟩
 refine CW.seq ?_
 refine CW.seqJ 76 (fun (v2 : Bool) => [(1, .rp (Command.c x)), (18, Bo v2)]) (fun v2 => v2 = (((!(inR x.token 0 1000000)) || (!(inR x.seq 0 1000000))) || (!(inR x.op 1 5)))) ?_ ?_
 ·refine CW.region ?_
  refine RW.k XK 76 2 rfl ?_
  (conv=>whnf);refine ⟨rfl,?_⟩
  refine RW.call rfl (spec_l01In_fn x.token 0 1000000) rfl (.cons (.one (.r .r)) (.cons (.one (.r .r)) (.cons (.one (.r .r)) (.nil)))) fun g3 => ?_
  refine RW.k XK 76 2 rfl ?_
  (conv=>whnf);refine ⟨rfl,?_⟩
  refine RW.gv rfl rfl rfl rfl (fun h4 => V.fieldR rfl rfl rfl rfl (by decide) rfl (Nat.le_of_ble_eq_true rfl)) (fun h4 => ?_) (fun h4 => ?_)
  ·skip
   refine RW.k XK 76 1 rfl ?_
   (conv=>whnf);refine ⟨rfl,?_⟩
   refine RW.gcall rfl rfl rfl rfl (spec_l01In_fn x.seq 0 1000000) rfl (.cons (.one (.r .r)) (.cons (.one (.r .r)) (.cons (.one (.r .r)) (.nil)))) fun g5 => ?_
   refine RW.k XK 76 3 rfl ?_
   (conv=>whnf);refine ⟨rfl,?_⟩
   refine RW.gv rfl rfl rfl rfl (fun h6 => V.fieldR rfl rfl rfl rfl (by decide) rfl (Nat.le_of_ble_eq_true rfl)) (fun h6 => ?_) (fun h6 => ?_)
   ·skip
    refine RW.k XK 76 1 rfl ?_
    (conv=>whnf);refine ⟨rfl,?_⟩
    refine RW.gcall rfl rfl rfl rfl (spec_l01In_fn x.op 1 5) rfl (.cons (.one (.r .r)) (.cons (.one (.r .r)) (.cons (.one (.r .r)) (.nil)))) fun g7 => ?_
    refine RW.k XK 76 2 rfl ?_
    (conv=>whnf);refine ⟨rfl,?_⟩
    refine RW.nil ?_
    exact ⟨_, by first | rfl | (simp_all; done) | (simp_all; omega) | grind, rfl, Le.of rfl⟩
   ·skip
    refine RW.k XK 76 4 rfl ?_
    (conv=>whnf);refine ⟨rfl,?_⟩
    refine RW.nil ?_
    exact ⟨_, by first | rfl | (simp_all; done) | (simp_all; omega) | grind, rfl, Le.of rfl⟩
  ·skip
   refine RW.k XK 76 10 rfl ?_
   (conv=>whnf);refine ⟨rfl,?_⟩
   refine RW.nil ?_
   exact ⟨_, by first | rfl | (simp_all; done) | (simp_all; omega) | grind, rfl, Le.of rfl⟩
 ·intro v2 hv8
  refine CW.cond rfl (fun h9 => ?_) (fun h9 => ?_)
  ·skip
   refine CW.k XK 76 1 [2] rfl ?_
   (conv=>whnf);refine ⟨rfl,?_⟩
   refine CW.ret ?_
   exact Post.one (RV.b rfl (by first | (simp_all [cmdOk, emp, inR]; done) | grind [cmdOk, emp, inR])) (AOs.a rfl AOs.e)
  ·skip
   refine CW.skip ?_
   refine CW.keep 76 [1] rfl ?_;(conv=>whnf);refine ⟨?_⟩
   refine CW.seq ?_
   refine CW.k XK 76 1 [1,21] rfl ?_
   (conv=>whnf);refine ⟨rfl,?_⟩
   refine CW.cond rfl (fun h10 => ?_) (fun h10 => ?_)
   ·skip
    refine CW.seqJ 76 (fun (v11 : Bool) => [(2, Bo v11)]) (fun v11 => v11 = (((((x.token == 0) && (x.seq == 0)) && (x.key.toList == (⟨#[]⟩ : ByteArray).toList)) && (x.val.toList == (⟨#[]⟩ : ByteArray).toList)) && (x.ver == 0))) ?_ ?_
    ·refine CW.region ?_
     refine RW.k XK 76 4 rfl ?_
     (conv=>whnf);refine ⟨rfl,?_⟩
     refine RW.gv rfl rfl rfl rfl (fun h12 => V.fieldR rfl rfl rfl rfl (by decide) rfl (Nat.le_of_ble_eq_true rfl)) (fun h12 => ?_) (fun h12 => ?_)
     ·skip
      refine RW.k XK 76 4 rfl ?_
      (conv=>whnf);refine ⟨rfl,?_⟩
      refine RW.gv rfl rfl rfl rfl (fun h13 => V.fieldR rfl rfl rfl rfl (by decide) rfl (Nat.le_of_ble_eq_true rfl)) (fun h13 => ?_) (fun h13 => ?_)
      ·skip
       refine RW.k XK 76 4 rfl ?_
       (conv=>whnf);refine ⟨rfl,?_⟩
       refine RW.gv rfl rfl rfl rfl (fun h14 => V.fieldR rfl rfl rfl rfl (by decide) rfl (Nat.le_of_ble_eq_true rfl)) (fun h14 => ?_) (fun h14 => ?_)
       ·skip
        refine RW.k XK 76 4 rfl ?_
        (conv=>whnf);refine ⟨rfl,?_⟩
        refine RW.gv rfl rfl rfl rfl (fun h15 => V.fieldR rfl rfl rfl rfl (by decide) rfl (Nat.le_of_ble_eq_true rfl)) (fun h15 => ?_) (fun h15 => ?_)
        ·skip
         refine RW.k XK 76 4 rfl ?_
         (conv=>whnf);refine ⟨rfl,?_⟩
         refine RW.nil ?_
         exact ⟨_, by first | rfl | (simp_all; done) | (simp_all; omega) | grind, rfl, Le.of rfl⟩
        ·skip
         refine RW.k XK 76 4 rfl ?_
         (conv=>whnf);refine ⟨rfl,?_⟩
         refine RW.nil ?_
         exact ⟨_, by first | rfl | (simp_all; done) | (simp_all; omega) | grind, rfl, Le.of rfl⟩
       ·skip
        refine RW.k XK 76 9 rfl ?_
        (conv=>whnf);refine ⟨rfl,?_⟩
        refine RW.nil ?_
        exact ⟨_, by first | rfl | (simp_all; done) | (simp_all; omega) | grind, rfl, Le.of rfl⟩
      ·skip
       refine RW.k XK 76 14 rfl ?_
       (conv=>whnf);refine ⟨rfl,?_⟩
       refine RW.nil ?_
       exact ⟨_, by first | rfl | (simp_all; done) | (simp_all; omega) | grind, rfl, Le.of rfl⟩
     ·skip
      refine RW.k XK 76 19 rfl ?_
      (conv=>whnf);refine ⟨rfl,?_⟩
      refine RW.nil ?_
      exact ⟨_, by first | rfl | (simp_all; done) | (simp_all; omega) | grind, rfl, Le.of rfl⟩
    ·intro v11 hv16
     refine CW.ret ?_
     exact Post.one (RV.b rfl (by first | (simp_all [cmdOk, emp, inR]; done) | grind [cmdOk, emp, inR])) (AOs.a rfl AOs.e)
   ·skip
    refine CW.skip ?_
    refine CW.keep 76 [1] rfl ?_;(conv=>whnf);refine ⟨?_⟩
    refine CW.seq ?_
    refine CW.seqJ 76 (fun (v17 : Bool) => [(1, .rp (Command.c x)), (55, Bo v17)]) (fun v17 => v17 = ((!(inR (x.key.size : Int) 1 8)) || decide ((x.val.size : Int) > 20))) ?_ ?_
    ·refine CW.region ?_
     refine RW.k XK 76 3 rfl ?_
     (conv=>whnf);refine ⟨rfl,?_⟩
     refine RW.call rfl (spec_l01In_fn (x.key.size : Int) 1 8) rfl (.cons (.one (.r .r)) (.cons (.one (.r .r)) (.cons (.one (.r .r)) (.nil)))) fun g18 => ?_
     refine RW.k XK 76 2 rfl ?_
     (conv=>whnf);refine ⟨rfl,?_⟩
     refine RW.gv rfl rfl rfl rfl (fun h19 => V.fieldR rfl rfl rfl rfl (by decide) rfl (Nat.le_of_ble_eq_true rfl)) (fun h19 => ?_) (fun h19 => ?_)
     ·skip
      refine RW.k XK 76 4 rfl ?_
      (conv=>whnf);refine ⟨rfl,?_⟩
      refine RW.nil ?_
      exact ⟨_, by first | rfl | (simp_all; done) | (simp_all; omega) | grind, rfl, Le.of rfl⟩
     ·skip
      refine RW.k XK 76 4 rfl ?_
      (conv=>whnf);refine ⟨rfl,?_⟩
      refine RW.nil ?_
      exact ⟨_, by first | rfl | (simp_all; done) | (simp_all; omega) | grind, rfl, Le.of rfl⟩
    ·intro v17 hv20
     refine CW.cond rfl (fun h21 => ?_) (fun h21 => ?_)
     ·skip
      refine CW.k XK 76 1 [2] rfl ?_
      (conv=>whnf);refine ⟨rfl,?_⟩
      refine CW.ret ?_
      exact Post.one (RV.b rfl (by first | (simp_all [cmdOk, emp, inR]; done) | grind [cmdOk, emp, inR])) (AOs.a rfl AOs.e)
     ·skip
      refine CW.skip ?_
      refine CW.keep 76 [1] rfl ?_;(conv=>whnf);refine ⟨?_⟩
      refine CW.seq ?_
      refine CW.k XK 76 1 [1,57] rfl ?_
      (conv=>whnf);refine ⟨rfl,?_⟩
      refine CW.block ?_
      refine CW.k XK 76 1 [1,57,58] rfl ?_
      (conv=>whnf);refine ⟨rfl,?_⟩
      refine CW.cond rfl (fun h22 => ?_) (fun h22 => ?_)
      ·skip
       refine CW.k XK 76 1 [2] rfl ?_
       (conv=>whnf);refine ⟨rfl,?_⟩
       refine CW.ret ?_
       exact Post.one (RV.b rfl (by first | (simp_all [cmdOk, emp, inR]; done) | grind [cmdOk, emp, inR])) (AOs.a rfl AOs.e)
      ·skip
       refine CW.k XK 76 1 [1,63] rfl ?_
       (conv=>whnf);refine ⟨rfl,?_⟩
       refine CW.cond rfl (fun h23 => ?_) (fun h23 => ?_)
       ·skip
        refine CW.seq ?_
        refine CW.region ?_
        refine RW.k XK 76 2 rfl ?_
        (conv=>whnf);refine ⟨rfl,?_⟩
        refine RW.call rfl (spec_l01In_fn x.ver 1 1000000000) rfl (.cons (.one (.r .r)) (.cons (.one (.r .r)) (.cons (.one (.r .r)) (.nil)))) fun g24 => ?_
        refine RW.k XK 76 1 rfl ?_
        (conv=>whnf);refine ⟨rfl,?_⟩
        refine RW.nil ?_
        refine CW.keep 76 [2] rfl ?_;(conv=>whnf);refine ⟨?_⟩
        refine CW.ret ?_
        exact Post.one (RV.b rfl (by first | (simp_all [cmdOk, emp, inR]; done) | grind [cmdOk, emp, inR])) (AOs.a rfl AOs.e)
       ·skip
        refine CW.skip ?_
        refine CW.keep 76 [1] rfl ?_;(conv=>whnf);refine ⟨?_⟩
        refine CW.seqJ 76 (fun (v25 : Bool) => [(2, Bo v25)]) (fun v25 => v25 = ((x.val.toList == (⟨#[]⟩ : ByteArray).toList) && (x.ver == 0))) ?_ ?_
        ·refine CW.region ?_
         refine RW.k XK 76 4 rfl ?_
         (conv=>whnf);refine ⟨rfl,?_⟩
         refine RW.gv rfl rfl rfl rfl (fun h26 => V.fieldR rfl rfl rfl rfl (by decide) rfl (Nat.le_of_ble_eq_true rfl)) (fun h26 => ?_) (fun h26 => ?_)
         ·skip
          refine RW.k XK 76 4 rfl ?_
          (conv=>whnf);refine ⟨rfl,?_⟩
          refine RW.nil ?_
          exact ⟨_, by first | rfl | (simp_all; done) | (simp_all; omega) | grind, rfl, Le.of rfl⟩
         ·skip
          refine RW.k XK 76 4 rfl ?_
          (conv=>whnf);refine ⟨rfl,?_⟩
          refine RW.nil ?_
          exact ⟨_, by first | rfl | (simp_all; done) | (simp_all; omega) | grind, rfl, Le.of rfl⟩
        ·intro v25 hv27
         refine CW.ret ?_
         exact Post.one (RV.b rfl (by first | (simp_all [cmdOk, emp, inR]; done) | grind [cmdOk, emp, inR])) (AOs.a rfl AOs.e)
set_option maxHeartbeats 4000000 in
theorem impl_ItemOf_fn (k : Keep) (key : ByteArray) (hok : okToKeep k) : Eng.Fn E.P 20 [.agg ((Keep.c k).map .r), .one (.r (.v (.string key)))] (.tup [.agg ((Item.c ((itemOf k key).1)).map .w), .one (.w (.v (.bool ((itemOf k key).2))))]) [.agg ((Keep.c k).map .r), .one (.r (.v (.string key)))] := by
 refine Eng.Fn.intro (E := E) (rvs := [.cell 4 42, .tmp 5]) Tryd.func20 rfl rfl rfl (by simp [outSlots, moved, rvSlot, sl]) ?_
 intro B g bo
 refine CW.keep 22 [0,1] rfl ?_;(conv=>whnf);refine ⟨?_⟩
 have hl1 : k.sessions.length ≤ maxLen := by have := hok.1.1; simp only [maxLen]; omega
 have hl2 : k.items.length ≤ maxLen := by have := hok.2.1; simp only [maxLen]; omega
 refine CW.seq ?_
 refine CW.region ?_
 refine RW.k XK 22 1 rfl ?_
 (conv=>whnf);intro b1;(conv=>whnf);refine ⟨rfl,?_⟩
 refine RW.freezeB (ts := (Keep.c k)) 2 rfl (DRd.r (DRd.r DRd.e)) ?_
 refine RW.k XK 22 2 rfl ?_
 (conv=>whnf);intro b2;(conv=>whnf);refine ⟨rfl,?_⟩
 refine RW.nil ?_
 refine CW.keep 22 [1,2,4] rfl ?_;(conv=>whnf);refine ⟨?_⟩
 refine CW.seq ?_
 refine CW.k XK 22 1 [1,4,9,10,11] rfl ?_
 (conv=>whnf);refine ⟨rfl,?_⟩
 refine CW.block ?_
 refine CW.loopI 22 (fun (i : Nat) => [(1, S key), (4, .obj b2 [S (⟨#[]⟩), S (⟨#[]⟩), I 0]), (9, .r (sl 3 Item.c k.items)), (10, I (k.items.length : Int)), (11, I (i : Int))]) (fun (i : Nat) => i ≤ k.items.length ∧ (k.items.drop i).find? (isKey key) = k.items.find? (isKey key)) (fun (i : Nat) => k.items.length - i) 0 rfl (Le.c rfl <| Le.c rfl <| Le.c rfl <| Le.c rfl <| Le.c rfl <| Le.e) ⟨by omega, rfl⟩ ?_
 rintro i ⟨hb, hr⟩
 refine CW.k XK 22 1 [1,4,9,10,11,12] rfl ?_
 (conv=>whnf);refine ⟨rfl,?_⟩
 refine CW.seq ?_
 refine CW.cond rfl (fun h3 => ?_) (fun h3 => ?_)
 ·skip
  have hii : i < k.items.length := by have := h3; simp at this; first | exact this | omega | (simp; done) | (simp; omega)
  obtain ⟨ei, hei⟩ : ∃ e, k.items[i]? = some e := ⟨_, List.getElem?_eq_getElem hii⟩
  have hdi := drop_get hei
  refine CW.skip ?_
  refine CW.keep 22 [1,4,9,10,11] rfl ?_;(conv=>whnf);refine ⟨?_⟩
  refine CW.seq ?_
  refine CW.block ?_
  refine CW.seq ?_
  refine CW.region ?_
  refine RW.v rfl (V.indexS rfl rfl rfl rfl rfl rfl Item.len hei) ?_
  refine RW.k XK 22 3 rfl ?_
  (conv=>whnf);intro b4;(conv=>whnf);refine ⟨rfl,?_⟩
  refine RW.freezeB (ts := (Item.c ei)) 7 rfl (DRd.r (DRd.r (DRd.r DRd.e))) ?_
  refine RW.nil ?_
  refine CW.keep 22 [1,4,7,9,10,11] rfl ?_;(conv=>whnf);refine ⟨?_⟩
  refine CW.k XK 22 1 [1,4,7,9,10,11,18] rfl ?_
  (conv=>whnf);refine ⟨rfl,?_⟩
  refine CW.cond rfl (fun h5 => ?_) (fun h5 => ?_)
  ·skip
   refine CW.k XK 22 1 [4,5] rfl ?_
   (conv=>whnf);refine ⟨rfl,?_⟩
   refine CW.ret ?_
   exact Post.tup (by decide) (RVs.c (RV.c (f := fun e => (Item.c e).map .w) (e' := ei) rfl rfl rfl rfl (DT.v (DT.v (DT.v DT.e))) (by rw [item_at hr hdi (by simp_all [isKey, sEq])])) (RVs.c (RV.b rfl (by rw [item_at hr hdi (by simp_all [isKey, sEq])])) RVs.e)) (AOs.a rfl (AOs.r AOs.e))
  ·skip
   refine CW.skip ?_
   refine CW.keep 22 [1,4,9,10,11] rfl ?_;(conv=>whnf);refine ⟨?_⟩
   refine CW.region ?_
   refine RW.v rfl (V.inc rfl rfl rfl hii hl2) ?_
   refine RW.k XK 22 1 rfl ?_
   (conv=>whnf);refine ⟨rfl,?_⟩
   refine RW.nil ?_
   exact ⟨i + 1, by omega, ⟨by omega, item_step hr hdi (by simp_all [isKey, sEq])⟩, rfl, Le.c rfl <| Le.c rfl <| Le.c rfl <| Le.c rfl <| Le.c rfl <| Le.e⟩
 ·skip
  have hii : k.items.length ≤ i := by have := h3; simp at this; first | exact this | omega | (simp; done) | (simp; omega)
  have hdi : k.items.drop i = [] := List.drop_eq_nil_of_le hii
  refine CW.exit ?_
  refine CW.keep 22 [4] rfl ?_;(conv=>whnf);refine ⟨?_⟩
  refine CW.k XK 22 1 [4,5] rfl ?_
  (conv=>whnf);refine ⟨rfl,?_⟩
  refine CW.ret ?_
  exact Post.tup (by decide) (RVs.c (RV.c (f := fun e => (Item.c e).map .w) (e' := (⟨⟨#[]⟩, ⟨#[]⟩, 0⟩ : Item)) rfl rfl rfl rfl (DT.v (DT.v (DT.v DT.e))) (by rw [item_no hr hdi]; try rfl)) (RVs.c (RV.b rfl (by rw [item_no hr hdi]; try rfl)) RVs.e)) (AOs.a rfl (AOs.r AOs.e))
set_option maxHeartbeats 4000000 in
theorem spec_ItemOf_fn (k : Keep) (key : ByteArray) (hok : okToKeep k) : Eng.Fn E.P 82 [.agg ((Keep.c k).map .r), .one (.r (.v (.string key)))] (.tup [.agg ((Item.c ((itemOf k key).1)).map .w), .one (.w (.v (.bool ((itemOf k key).2))))]) [.agg ((Keep.c k).map .r), .one (.r (.v (.string key)))] := by
 refine Eng.Fn.intro (E := E) (rvs := [.cell 4 42, .tmp 5]) Tryd.func82 rfl rfl rfl (by simp [outSlots, moved, rvSlot, sl]) ?_
 intro B g bo
 refine CW.keep 28 [0,1] rfl ?_;(conv=>whnf);refine ⟨?_⟩
 have hl1 : k.sessions.length ≤ maxLen := by have := hok.1.1; simp only [maxLen]; omega
 have hl2 : k.items.length ≤ maxLen := by have := hok.2.1; simp only [maxLen]; omega
 refine CW.seq ?_
 refine CW.region ?_
 refine RW.k XK 28 1 rfl ?_
 (conv=>whnf);intro b1;(conv=>whnf);refine ⟨rfl,?_⟩
 refine RW.freezeB (ts := (Keep.c k)) 2 rfl (DRd.r (DRd.r DRd.e)) ?_
 refine RW.k XK 28 2 rfl ?_
 (conv=>whnf);intro b2;(conv=>whnf);refine ⟨rfl,?_⟩
 refine RW.nil ?_
 refine CW.keep 28 [1,2,4] rfl ?_;(conv=>whnf);refine ⟨?_⟩
 refine CW.seq ?_
 refine CW.k XK 28 1 [1,2,4,6] rfl ?_
 (conv=>whnf);refine ⟨rfl,?_⟩
 refine CW.block ?_
 refine CW.loopI 28 (fun (i : Nat) => [(1, S key), (2, .rp (Keep.c k)), (4, .obj b2 [S (⟨#[]⟩), S (⟨#[]⟩), I 0]), (6, I (i : Int))]) (fun (i : Nat) => i ≤ k.items.length ∧ (k.items.drop i).find? (isKey key) = k.items.find? (isKey key)) (fun (i : Nat) => k.items.length - i) 0 rfl (Le.c rfl <| Le.c rfl <| Le.c rfl <| Le.c rfl <| Le.e) ⟨by omega, rfl⟩ ?_
 rintro i ⟨hb, hr⟩
 refine CW.seq ?_
 refine CW.k XK 28 1 [1,2,4,6,11] rfl ?_
 (conv=>whnf);refine ⟨rfl,?_⟩
 refine CW.cond rfl (fun h3 => ?_) (fun h3 => ?_)
 ·skip
  have hii : i < k.items.length := by have := h3; simp at this; first | exact this | omega | (simp; done) | (simp; omega)
  obtain ⟨ei, hei⟩ : ∃ e, k.items[i]? = some e := ⟨_, List.getElem?_eq_getElem hii⟩
  have hdi := drop_get hei
  refine CW.skip ?_
  refine CW.keep 28 [1,2,4,6] rfl ?_;(conv=>whnf);refine ⟨?_⟩
  refine CW.seq ?_
  refine CW.block ?_
  refine CW.seq ?_
  refine CW.region ?_
  refine RW.k XK 28 3 rfl ?_
  (conv=>whnf);refine ⟨rfl,?_⟩
  refine RW.v rfl (V.indexS rfl rfl rfl rfl rfl rfl Item.len hei) ?_
  refine RW.k XK 28 4 rfl ?_
  (conv=>whnf);refine ⟨rfl,?_⟩
  refine RW.nil ?_
  refine CW.keep 28 [1,2,4,6,21] rfl ?_;(conv=>whnf);refine ⟨?_⟩
  refine CW.cond rfl (fun h4 => ?_) (fun h4 => ?_)
  ·skip
   refine CW.seq ?_
   refine CW.region ?_
   refine RW.k XK 28 3 rfl ?_
   (conv=>whnf);refine ⟨rfl,?_⟩
   refine RW.v rfl (V.indexS rfl rfl rfl rfl rfl rfl Item.len hei) ?_
   refine RW.k XK 28 3 rfl ?_
   (conv=>whnf);refine ⟨rfl,?_⟩
   refine RW.nil ?_
   refine CW.keep 28 [4,5] rfl ?_;(conv=>whnf);refine ⟨?_⟩
   refine CW.ret ?_
   exact Post.tup (by decide) (RVs.c (RV.c (f := fun e => (Item.c e).map .w) (e' := ei) rfl rfl rfl rfl (DT.v (DT.v (DT.v DT.e))) (by rw [item_at hr hdi (by simp_all [isKey, sEq])])) (RVs.c (RV.b rfl (by rw [item_at hr hdi (by simp_all [isKey, sEq])])) RVs.e)) (AOs.a rfl (AOs.r AOs.e))
  ·skip
   refine CW.skip ?_
   refine CW.keep 28 [1,2,4,6] rfl ?_;(conv=>whnf);refine ⟨?_⟩
   refine CW.region ?_
   refine RW.k XK 28 1 rfl ?_
   (conv=>whnf);refine ⟨rfl,?_⟩
   refine RW.v rfl (V.inc rfl rfl rfl hii hl2) ?_
   refine RW.k XK 28 1 rfl ?_
   (conv=>whnf);refine ⟨rfl,?_⟩
   refine RW.nil ?_
   exact ⟨i + 1, by omega, ⟨by omega, item_step hr hdi (by simp_all [isKey, sEq])⟩, rfl, Le.c rfl <| Le.c rfl <| Le.c rfl <| Le.c rfl <| Le.e⟩
 ·skip
  have hii : k.items.length ≤ i := by have := h3; simp at this; first | exact this | omega | (simp; done) | (simp; omega)
  have hdi : k.items.drop i = [] := List.drop_eq_nil_of_le hii
  refine CW.exit ?_
  refine CW.keep 28 [4] rfl ?_;(conv=>whnf);refine ⟨?_⟩
  refine CW.k XK 28 1 [4,5] rfl ?_
  (conv=>whnf);refine ⟨rfl,?_⟩
  refine CW.ret ?_
  exact Post.tup (by decide) (RVs.c (RV.c (f := fun e => (Item.c e).map .w) (e' := (⟨⟨#[]⟩, ⟨#[]⟩, 0⟩ : Item)) rfl rfl rfl rfl (DT.v (DT.v (DT.v DT.e))) (by rw [item_no hr hdi]; try rfl)) (RVs.c (RV.b rfl (by rw [item_no hr hdi]; try rfl)) RVs.e)) (AOs.a rfl (AOs.r AOs.e))
set_option maxHeartbeats 4000000 in
theorem __impl_Keep__without_fn (k : Keep) (key : ByteArray) (hok : okToKeep k) : Eng.Fn E.P 80 [.ob ((Keep.c k).map .w), .one (.r (.v (.string key)))] (.tup []) [.ob ((Keep.c (withoutK k key)).map .w), .one (.r (.v (.string key)))] := by
 refine Eng.Fn.intro (E := E) (rvs := []) Tryd.func80 rfl rfl rfl (by simp [outSlots, moved, rvSlot, sl]) ?_
 intro B g bo
 refine CW.keep 30 [0,1] rfl ?_;(conv=>whnf);refine ⟨?_⟩
 have hl1 : k.sessions.length ≤ maxLen := by have := hok.1.1; simp only [maxLen]; omega
 have hl2 : k.items.length ≤ maxLen := by have := hok.2.1; simp only [maxLen]; omega
 refine CW.seq ?_
 refine CW.region ?_
 refine RW.build0 Item.c rfl rfl rfl rfl rfl fun X1 => ?_
 refine RW.assignMove rfl rfl rfl (by decide) (Nat.le_of_ble_eq_true rfl) (Nat.le_of_ble_eq_true rfl) ?_
 refine RW.nil ?_
 refine CW.keep 30 [0,1,4] rfl ?_;(conv=>whnf);refine ⟨?_⟩
 refine CW.seq ?_
 refine CW.k XK 30 1 [0,1,4,11,12,13] rfl ?_
 (conv=>whnf);refine ⟨rfl,?_⟩
 refine CW.block ?_
 refine CW.loopI 30 (fun (zz : Nat × Value) => match zz with | (i, X) => [(0, .obj (bo 0) [.w (sl 3 Session.c k.sessions) (g 0 0), .w (sl 3 Item.c k.items) (g 0 1)]), (1, S key), (4, .w (sl 3 Item.c (withoutL (k.items.take i) key)) X), (11, .al 0 (some 1) 3 k.items.length (g 0 1) 0), (12, I (k.items.length : Int)), (13, I (i : Int))]) (fun (zz : Nat × Value) => match zz with | (i, X) => i ≤ k.items.length) (fun (zz : Nat × Value) => match zz with | (i, X) => k.items.length - i) (0, _) rfl (Le.c rfl <| Le.c rfl <| Le.c rfl <| Le.c rfl <| Le.c rfl <| Le.c rfl <| Le.e) (by omega) ?_
 rintro ⟨i, X⟩ hb
 refine CW.k XK 30 1 [0,1,4,11,12,13,14] rfl ?_
 (conv=>whnf);refine ⟨rfl,?_⟩
 refine CW.seq ?_
 refine CW.cond rfl (fun h2 => ?_) (fun h2 => ?_)
 ·skip
  have hii : i < k.items.length := by have := h2; simp at this; first | exact this | omega | (simp; done) | (simp; omega)
  obtain ⟨ei, hei⟩ : ∃ e, k.items[i]? = some e := ⟨_, List.getElem?_eq_getElem hii⟩
  have hdi := drop_get hei
  refine CW.skip ?_
  refine CW.keep 30 [0,1,4,11,12,13] rfl ?_;(conv=>whnf);refine ⟨?_⟩
  refine CW.seq ?_
  refine CW.block ?_
  refine CW.seq ?_
  refine CW.region ?_
  refine RW.swapO 11 0 1 (by decide) rfl rfl rfl ?_
  refine RW.v rfl (V.indexW rfl rfl rfl rfl rfl rfl rfl hii) ?_
  refine RW.v rfl (V.loadAggF (m := i) rfl rfl rfl rfl rfl Item.len hei (vs := Item.vs ei) rfl (by decide)) ?_
  refine RW.k XK 30 2 rfl ?_
  (conv=>whnf);intro b3;(conv=>whnf);refine ⟨rfl,?_⟩
  refine RW.freezeB (ts := (Item.c ei)) 6 rfl (DRd.r (DRd.r (DRd.r DRd.e))) ?_
  refine RW.unswapO (k := 0) (l := 11) (j := 1) 0 11 1 rfl rfl rfl (by decide) rfl rfl rfl ?_
  refine RW.nil ?_
  refine CW.keep 30 [0,1,4,6,11,12,13] rfl ?_;(conv=>whnf);refine ⟨?_⟩
  refine CW.k XK 30 1 [0,1,4,6,11,12,13,20] rfl ?_
  (conv=>whnf);refine ⟨rfl,?_⟩
  refine CW.cond rfl (fun h4 => ?_) (fun h4 => ?_)
  ·skip
   refine CW.region ?_
   refine RW.k XK 30 2 rfl ?_
   (conv=>whnf);refine ⟨rfl,?_⟩
   refine RW.build1 (c := Item.c) (v := ei) rfl rfl rfl rfl rfl rfl (DW.v (DW.v (DW.v DW.e))) Item.len (by decide) (by decide) fun X5 => ?_
   refine RW.appendSR (c := Item.c) (l1 := (withoutL (k.items.take i) key)) (l2 := [ei]) rfl rfl rfl rfl rfl rfl rfl rfl (.al (k := none) (i := 23) (sz := 3) (V := X5) rfl rfl nofun) (by decide) (Nat.le_of_ble_eq_true rfl) Item.len (fun _ => rfl) rfl (by have h9 := without_len (k.items.take i) key; have h10 : (k.items.take i).length ≤ k.items.length := (by rw [List.length_take]; omega); have h11 := hok.2.1; simp only [maxLen, List.length_singleton]; omega) (by have h9 := without_len (k.items.take i) key; have h10 : (k.items.take i).length ≤ k.items.length := (by rw [List.length_take]; omega); have h11 := hok.2.1; simp only [maxLen, List.length_singleton]; omega) fun X6 => ?_
   refine RW.assignMove rfl rfl rfl (by decide) (Nat.le_of_ble_eq_true rfl) (Nat.le_of_ble_eq_true rfl) ?_
   refine RW.nil ?_
   refine CW.keep 30 [0,1,4,11,12,13] rfl ?_;(conv=>whnf);refine ⟨?_⟩
   refine CW.region ?_
   refine RW.v rfl (V.inc rfl rfl rfl hii hl2) ?_
   refine RW.k XK 30 1 rfl ?_
   (conv=>whnf);refine ⟨rfl,?_⟩
   refine RW.nil ?_
   exact ⟨(i + 1, _), by simp only []; omega, (by omega), rfl, Le.c rfl <| Le.c rfl <| Le.c (Dw_congr (by rw [without_snoc hei]; simp_all [isKey, sEq])) <| Le.c rfl <| Le.c rfl <| Le.c rfl <| Le.e⟩
  ·skip
   refine CW.skip ?_
   refine CW.keep 30 [0,1,4,11,12,13] rfl ?_;(conv=>whnf);refine ⟨?_⟩
   refine CW.region ?_
   refine RW.v rfl (V.inc rfl rfl rfl hii hl2) ?_
   refine RW.k XK 30 1 rfl ?_
   (conv=>whnf);refine ⟨rfl,?_⟩
   refine RW.nil ?_
   exact ⟨(i + 1, _), by simp only []; omega, (by omega), rfl, Le.c rfl <| Le.c rfl <| Le.c (Dw_congr (by rw [without_snoc hei]; simp_all [isKey, sEq])) <| Le.c rfl <| Le.c rfl <| Le.c rfl <| Le.e⟩
 ·skip
  have hii : k.items.length ≤ i := by have := h2; simp at this; first | exact this | omega | (simp; done) | (simp; omega)
  have hdi : k.items.drop i = [] := List.drop_eq_nil_of_le hii
  refine CW.exit ?_
  refine CW.keep 30 [0,4] rfl ?_;(conv=>whnf);refine ⟨?_⟩
  refine CW.region ?_
  refine RW.k XK 30 5 rfl ?_
  (conv=>whnf);refine ⟨rfl,?_⟩
  refine RW.keep 30 [0,4] rfl ?_;(conv=>whnf);refine ⟨?_⟩
  refine RW.pullT (k := 0) (l := 4) (j := 1) 0 4 1 rfl rfl rfl (by decide) rfl rfl rfl ?_
  refine RW.keep 30 [0] rfl ?_;(conv=>whnf);refine ⟨?_⟩
  refine RW.nil ?_
  exact Post.tup (by decide) RVs.e (AOs.obE (f := fun e => (Keep.c e).map .w) (e' := (⟨k.sessions, (withoutL (k.items.take i) key)⟩ : Keep)) rfl (DT.w (DT.w DT.e)) (by rw [List.take_of_length_le hii]; rfl) (AOs.r AOs.e))
set_option maxHeartbeats 4000000 in
theorem __impl_Keep__put_fn (k : Keep) (it : Item) (hok : okToKeep k) : Eng.Fn E.P 81 [.ob ((Keep.c k).map .w), .agg ((Item.c it).map .r)] (.tup []) [.ob ((Keep.c (putK k it)).map .w), .agg ((Item.c it).map .r)] := by
 refine Eng.Fn.intro (E := E) (rvs := []) Tryd.func81 rfl rfl rfl (by simp [outSlots, moved, rvSlot, sl]) ?_
 intro B g bo
 refine CW.keep 50 [0,1] rfl ?_;(conv=>whnf);refine ⟨?_⟩
 have hl1 : k.sessions.length ≤ maxLen := by have := hok.1.1; simp only [maxLen]; omega
 have hl2 : k.items.length ≤ maxLen := by have := hok.2.1; simp only [maxLen]; omega
 refine CW.seq ?_
 refine CW.region ?_
 refine RW.k XK 50 1 rfl ?_
 (conv=>whnf);intro b1;(conv=>whnf);refine ⟨rfl,?_⟩
 refine RW.freezeB (ts := (Item.c it)) 3 rfl (DRd.r (DRd.r (DRd.r DRd.e))) ?_
 refine RW.nil ?_
 refine CW.keep 50 [0,3] rfl ?_;(conv=>whnf);refine ⟨?_⟩
 refine CW.seq ?_
 refine CW.region ?_
 refine RW.k XK 50 3 rfl ?_
 (conv=>whnf);refine ⟨rfl,?_⟩
 refine RW.callW (k := 0) (__impl_Keep__without_fn k it.key hok) rfl rfl (Nat.le_of_ble_eq_true rfl) (by decide) (.here (AsW.ob (DT.w (DT.w DT.e)) rfl) (.cons (.one (.r .r)) (.nil))) rfl fun g2 q3 => ?_
 refine RW.nil ?_
 refine CW.keep 50 [0,3] rfl ?_;(conv=>whnf);refine ⟨?_⟩
 refine CW.seq ?_
 refine CW.region ?_
 refine RW.build0 Item.c rfl rfl rfl rfl rfl fun X4 => ?_
 refine RW.assignMove rfl rfl rfl (by decide) (Nat.le_of_ble_eq_true rfl) (Nat.le_of_ble_eq_true rfl) ?_
 refine RW.nil ?_
 refine CW.keep 50 [0,3,4] rfl ?_;(conv=>whnf);refine ⟨?_⟩
 refine CW.k XK 50 1 [0,3,4,5] rfl ?_
 (conv=>whnf);refine ⟨rfl,?_⟩
 refine CW.seq ?_
 refine CW.k XK 50 1 [0,3,4,5,16,17,18] rfl ?_
 (conv=>whnf);refine ⟨rfl,?_⟩
 refine CW.block ?_
 refine CW.loopI 50 (fun (zz : Nat × List Item × Bool × Value) => match zz with | (i, rest, p, X) => [(0, .obj (bo 0) [.w (sl 3 Session.c ((withoutK k it.key).sessions)) (q3 0), .w (sl 3 Item.c ((withoutK k it.key).items)) (q3 1)]), (3, .rp (Item.c it)), (4, .w (sl 3 Item.c rest) X), (5, Bo p), (16, .al 0 (some 1) 3 (((withoutK k it.key).items).length) (q3 1) 0), (17, I (((withoutK k it.key).items).length : Int)), (18, I (i : Int))]) (fun (zz : Nat × List Item × Bool × Value) => match zz with | (i, rest, p, X) => PutP it (withoutK k it.key).items i rest p) (fun (zz : Nat × List Item × Bool × Value) => match zz with | (i, rest, p, X) => (withoutK k it.key).items.length - i) (0, _, _, _) rfl (Le.c rfl <| Le.c rfl <| Le.c rfl <| Le.c rfl <| Le.c rfl <| Le.c rfl <| Le.c rfl <| Le.e) (PutP.init _ _) ?_
 rintro ⟨i, rest, p, X⟩ hP
 have hPl := hP.len1
 have hPe := hP.le
 have hL : (withoutK k it.key).items.length ≤ k.items.length := without_len _ _
 refine CW.k XK 50 1 [0,3,4,5,16,17,18,19] rfl ?_
 (conv=>whnf);refine ⟨rfl,?_⟩
 refine CW.seq ?_
 refine CW.cond rfl (fun h5 => ?_) (fun h5 => ?_)
 ·skip
  have hii : i < (withoutK k it.key).items.length := by simpa using h5
  obtain ⟨ei, hei⟩ : ∃ e, (withoutK k it.key).items[i]? = some e := ⟨_, List.getElem?_eq_getElem hii⟩
  refine CW.skip ?_
  refine CW.keep 50 [0,3,4,5,16,17,18] rfl ?_;(conv=>whnf);refine ⟨?_⟩
  refine CW.seq ?_
  refine CW.block ?_
  refine CW.seq ?_
  refine CW.region ?_
  refine RW.swapO 16 0 1 (by decide) rfl rfl rfl ?_
  refine RW.v rfl (V.indexW rfl rfl rfl rfl rfl rfl rfl hii) ?_
  refine RW.v rfl (V.loadAggF (m := i) rfl rfl rfl rfl rfl Item.len hei (vs := Item.vs ei) rfl (by decide)) ?_
  refine RW.k XK 50 2 rfl ?_
  (conv=>whnf);intro b6;(conv=>whnf);refine ⟨rfl,?_⟩
  refine RW.freezeB (ts := (Item.c ei)) 7 rfl (DRd.r (DRd.r (DRd.r DRd.e))) ?_
  refine RW.unswapO (k := 0) (l := 16) (j := 1) 0 16 1 rfl rfl rfl (by decide) rfl rfl rfl ?_
  refine RW.nil ?_
  refine CW.keep 50 [0,3,4,5,7,16,17,18] rfl ?_;(conv=>whnf);refine ⟨?_⟩
  refine CW.seq ?_
  refine CW.seqJ 50 (fun (v7 : Bool) => [(0, .obj (bo 0) [.w (sl 3 Session.c ((withoutK k it.key).sessions)) (q3 0), .w (sl 3 Item.c ((withoutK k it.key).items)) (q3 1)]), (3, .rp (Item.c it)), (4, .w (sl 3 Item.c rest) X), (5, Bo p), (7, .rp (Item.c ei)), (16, .al 0 (some 1) 3 (((withoutK k it.key).items).length) (q3 1) 0), (17, I (((withoutK k it.key).items).length : Int)), (18, I (i : Int)), (30, Bo v7)]) (fun v7 => v7 = ((!p) && (!(Op.bytesLess ei.key.toList it.key.toList || ei.key.toList == it.key.toList)))) ?_ ?_
  ·refine CW.region ?_
   refine RW.k XK 50 3 rfl ?_
   (conv=>whnf);refine ⟨rfl,?_⟩
   refine RW.gv rfl rfl rfl rfl (fun h8 => V.fieldR rfl rfl rfl rfl (by decide) rfl (Nat.le_of_ble_eq_true rfl)) (fun h8 => ?_) (fun h8 => ?_)
   ·skip
    refine RW.k XK 50 5 rfl ?_
    (conv=>whnf);refine ⟨rfl,?_⟩
    refine RW.nil ?_
    exact ⟨_, by first | rfl | (simp_all; done) | (simp_all; omega) | grind, rfl, Le.of rfl⟩
   ·skip
    refine RW.k XK 50 5 rfl ?_
    (conv=>whnf);refine ⟨rfl,?_⟩
    refine RW.nil ?_
    exact ⟨_, by first | rfl | (simp_all; done) | (simp_all; omega) | grind, rfl, Le.of rfl⟩
  ·intro v7 hv9
   refine CW.cond rfl (fun h10 => ?_) (fun h10 => ?_)
   ·skip
    refine CW.seq ?_
    refine CW.region ?_
    refine RW.k XK 50 2 rfl ?_
    (conv=>whnf);refine ⟨rfl,?_⟩
    refine RW.build1 (c := Item.c) (v := it) rfl rfl rfl rfl rfl rfl (DW.v (DW.v (DW.v DW.e))) Item.len (by decide) (by decide) fun X11 => ?_
    refine RW.appendSR (c := Item.c) (l1 := rest) (l2 := [it]) rfl rfl rfl rfl rfl rfl rfl rfl (.al (k := none) (i := 33) (sz := 3) (V := X11) rfl rfl nofun) (by decide) (Nat.le_of_ble_eq_true rfl) Item.len (fun _ => rfl) rfl (by have h11 := hok.2.1; simp only [maxLen, List.length_singleton, List.length_append]; omega) (by have h11 := hok.2.1; simp only [maxLen, List.length_singleton, List.length_append]; omega) fun X12 => ?_
    refine RW.assignMove rfl rfl rfl (by decide) (Nat.le_of_ble_eq_true rfl) (Nat.le_of_ble_eq_true rfl) ?_
    refine RW.nil ?_
    refine CW.keep 50 [0,3,4,7,16,17,18] rfl ?_;(conv=>whnf);refine ⟨?_⟩
    refine CW.region ?_
    refine RW.k XK 50 1 rfl ?_
    (conv=>whnf);refine ⟨rfl,?_⟩
    refine RW.nil ?_
    refine CW.keep 50 [0,3,4,5,7,16,17,18] rfl ?_;(conv=>whnf);refine ⟨?_⟩
    refine CW.region ?_
    refine RW.k XK 50 2 rfl ?_
    (conv=>whnf);refine ⟨rfl,?_⟩
    refine RW.build1 (c := Item.c) (v := ei) rfl rfl rfl rfl rfl rfl (DW.v (DW.v (DW.v DW.e))) Item.len (by decide) (by decide) fun X13 => ?_
    refine RW.appendSR (c := Item.c) (l1 := (rest ++ ([it]))) (l2 := [ei]) rfl rfl rfl rfl rfl rfl rfl rfl (.al (k := none) (i := 37) (sz := 3) (V := X13) rfl rfl nofun) (by decide) (Nat.le_of_ble_eq_true rfl) Item.len (fun _ => rfl) rfl (by have h11 := hok.2.1; simp only [maxLen, List.length_singleton, List.length_append]; omega) (by have h11 := hok.2.1; simp only [maxLen, List.length_singleton, List.length_append]; omega) fun X14 => ?_
    refine RW.assignMove rfl rfl rfl (by decide) (Nat.le_of_ble_eq_true rfl) (Nat.le_of_ble_eq_true rfl) ?_
    refine RW.nil ?_
    refine CW.keep 50 [0,3,4,5,16,17,18] rfl ?_;(conv=>whnf);refine ⟨?_⟩
    refine CW.region ?_
    refine RW.v rfl (V.inc rfl rfl rfl hii (Nat.le_trans hL hl2)) ?_
    refine RW.k XK 50 1 rfl ?_
    (conv=>whnf);refine ⟨rfl,?_⟩
    refine RW.nil ?_
    exact ⟨(i + 1, ((rest ++ ([it])) ++ ([ei])), true, _), by simp only []; omega, (by first | exact hP.ins hei (hv9.symm.trans h10) | exact hP.go hei (hv9.symm.trans h10)), rfl, Le.c rfl <| Le.c rfl <| Le.c rfl <| Le.c rfl <| Le.c rfl <| Le.c rfl <| Le.c rfl <| Le.e⟩
   ·skip
    refine CW.skip ?_
    refine CW.keep 50 [0,3,4,5,7,16,17,18] rfl ?_;(conv=>whnf);refine ⟨?_⟩
    refine CW.region ?_
    refine RW.k XK 50 2 rfl ?_
    (conv=>whnf);refine ⟨rfl,?_⟩
    refine RW.build1 (c := Item.c) (v := ei) rfl rfl rfl rfl rfl rfl (DW.v (DW.v (DW.v DW.e))) Item.len (by decide) (by decide) fun X15 => ?_
    refine RW.appendSR (c := Item.c) (l1 := rest) (l2 := [ei]) rfl rfl rfl rfl rfl rfl rfl rfl (.al (k := none) (i := 37) (sz := 3) (V := X15) rfl rfl nofun) (by decide) (Nat.le_of_ble_eq_true rfl) Item.len (fun _ => rfl) rfl (by have h11 := hok.2.1; simp only [maxLen, List.length_singleton, List.length_append]; omega) (by have h11 := hok.2.1; simp only [maxLen, List.length_singleton, List.length_append]; omega) fun X16 => ?_
    refine RW.assignMove rfl rfl rfl (by decide) (Nat.le_of_ble_eq_true rfl) (Nat.le_of_ble_eq_true rfl) ?_
    refine RW.nil ?_
    refine CW.keep 50 [0,3,4,5,16,17,18] rfl ?_;(conv=>whnf);refine ⟨?_⟩
    refine CW.region ?_
    refine RW.v rfl (V.inc rfl rfl rfl hii (Nat.le_trans hL hl2)) ?_
    refine RW.k XK 50 1 rfl ?_
    (conv=>whnf);refine ⟨rfl,?_⟩
    refine RW.nil ?_
    exact ⟨(i + 1, (rest ++ ([ei])), p, _), by simp only []; omega, (by first | exact hP.ins hei (hv9.symm.trans h10) | exact hP.go hei (hv9.symm.trans h10)), rfl, Le.c rfl <| Le.c rfl <| Le.c rfl <| Le.c rfl <| Le.c rfl <| Le.c rfl <| Le.c rfl <| Le.e⟩
 ·skip
  have hii : (withoutK k it.key).items.length ≤ i := by simpa using h5
  refine CW.exit ?_
  refine CW.keep 50 [0,3,4,5] rfl ?_;(conv=>whnf);refine ⟨?_⟩
  refine CW.seq ?_
  refine CW.k XK 50 1 [0,3,4,41] rfl ?_
  (conv=>whnf);refine ⟨rfl,?_⟩
  refine CW.cond rfl (fun h17 => ?_) (fun h17 => ?_)
  ·skip
   refine CW.region ?_
   refine RW.k XK 50 2 rfl ?_
   (conv=>whnf);refine ⟨rfl,?_⟩
   refine RW.build1 (c := Item.c) (v := it) rfl rfl rfl rfl rfl rfl (DW.v (DW.v (DW.v DW.e))) Item.len (by decide) (by decide) fun X18 => ?_
   refine RW.appendSR (c := Item.c) (l1 := rest) (l2 := [it]) rfl rfl rfl rfl rfl rfl rfl rfl (.al (k := none) (i := 44) (sz := 3) (V := X18) rfl rfl nofun) (by decide) (Nat.le_of_ble_eq_true rfl) Item.len (fun _ => rfl) rfl (by have h11 := hok.2.1; simp only [maxLen, List.length_singleton, List.length_append]; omega) (by have h11 := hok.2.1; simp only [maxLen, List.length_singleton, List.length_append]; omega) fun X19 => ?_
   refine RW.assignMove rfl rfl rfl (by decide) (Nat.le_of_ble_eq_true rfl) (Nat.le_of_ble_eq_true rfl) ?_
   refine RW.nil ?_
   refine CW.keep 50 [0,4] rfl ?_;(conv=>whnf);refine ⟨?_⟩
   refine CW.region ?_
   refine RW.k XK 50 5 rfl ?_
   (conv=>whnf);refine ⟨rfl,?_⟩
   refine RW.keep 50 [0,4] rfl ?_;(conv=>whnf);refine ⟨?_⟩
   refine RW.pullT (k := 0) (l := 4) (j := 1) 0 4 1 rfl rfl rfl (by decide) rfl rfl rfl ?_
   refine RW.keep 50 [0] rfl ?_;(conv=>whnf);refine ⟨?_⟩
   refine RW.nil ?_
   exact Post.tup (by decide) RVs.e (AOs.obE (f := fun e => (Keep.c e).map .w) (e' := (⟨(withoutK k it.key).sessions, (rest ++ ([it]))⟩ : Keep)) rfl (DT.w (DT.w DT.e)) (by rw [show (putK k it) = ⟨(withoutK k it.key).sessions, insL it (withoutK k it.key).items⟩ from rfl]; first | rw [hP.fin1 h17 hii] | rw [hP.fin0 h17 hii]) (AOs.a rfl AOs.e))
  ·skip
   refine CW.skip ?_
   refine CW.keep 50 [0,4] rfl ?_;(conv=>whnf);refine ⟨?_⟩
   refine CW.region ?_
   refine RW.k XK 50 5 rfl ?_
   (conv=>whnf);refine ⟨rfl,?_⟩
   refine RW.keep 50 [0,4] rfl ?_;(conv=>whnf);refine ⟨?_⟩
   refine RW.pullT (k := 0) (l := 4) (j := 1) 0 4 1 rfl rfl rfl (by decide) rfl rfl rfl ?_
   refine RW.keep 50 [0] rfl ?_;(conv=>whnf);refine ⟨?_⟩
   refine RW.nil ?_
   exact Post.tup (by decide) RVs.e (AOs.obE (f := fun e => (Keep.c e).map .w) (e' := (⟨(withoutK k it.key).sessions, rest⟩ : Keep)) rfl (DT.w (DT.w DT.e)) (by rw [show (putK k it) = ⟨(withoutK k it.key).sessions, insL it (withoutK k it.key).items⟩ from rfl]; first | rw [hP.fin1 h17 hii] | rw [hP.fin0 h17 hii]) (AOs.a rfl AOs.e))
end Go.Proofs.YtaeagpakloggfaaDoor.Y
