import Derived.Test.YthkiegfcahigkaaPu
import Derived.Test.YthkiegfcahigkaaProg
namespace Go.Proofs.Ythkiegfcahigkaa.Y
open Go Go.RowKit Go.Eng Go.Proofs
def tl : List (Nat × TyI) := [
(3, ⟨1, 8, [.int .i64 0], .prim⟩),
(4, ⟨1, 1, [.bool false], .prim⟩),
(9, ⟨1, 16, [.string ⟨#[]⟩], .prim⟩),
(50, ⟨6, 64, [.int .i64 0, .int .i64 0, .int .i64 0, .string ⟨#[]⟩, .string ⟨#[]⟩, .int .i64 0], .agg [(0, 3, 1), (1, 3, 1), (2, 3, 1), (3, 9, 1), (4, 9, 1), (5, 3, 1)]⟩),
(51, ⟨1, 24, [.slice none 0 0], .slice 3⟩),
(53, ⟨14, 160, [.int .i64 0, .int .i64 0, .int .i64 0, .int .i64 0, .int .i64 0, .int .i64 0, .int .i64 0, .string ⟨#[]⟩, .string ⟨#[]⟩, .int .i64 0, .slice none 0 0, .bool false, .int .i64 0, .slice none 0 0], .agg [(0, 3, 1), (1, 3, 1), (2, 3, 1), (3, 3, 1), (4, 50, 6), (10, 51, 1), (11, 4, 1), (12, 3, 1), (13, 51, 1)]⟩),
(56, ⟨6, 64, [.int .i64 0, .int .i64 0, .int .i64 0, .string ⟨#[]⟩, .string ⟨#[]⟩, .int .i64 0], .agg [(0, 3, 1), (1, 3, 1), (2, 3, 1), (3, 9, 1), (4, 9, 1), (5, 3, 1)]⟩),
(58, ⟨14, 160, [.int .i64 0, .int .i64 0, .int .i64 0, .int .i64 0, .int .i64 0, .int .i64 0, .int .i64 0, .string ⟨#[]⟩, .string ⟨#[]⟩, .int .i64 0, .slice none 0 0, .bool false, .int .i64 0, .slice none 0 0], .agg [(0, 3, 1), (1, 3, 1), (2, 3, 1), (3, 3, 1), (4, 56, 6), (10, 51, 1), (11, 4, 1), (12, 3, 1), (13, 51, 1)]⟩)]
theorem tl_ok : ∀ p ∈ tl, tyI Try.prog p.1 = some p.2 := by
  refine List.forall_mem_cons.2 ⟨by kernel_rfl, ?_⟩
  refine List.forall_mem_cons.2 ⟨by kernel_rfl, ?_⟩
  refine List.forall_mem_cons.2 ⟨by kernel_rfl, ?_⟩
  refine List.forall_mem_cons.2 ⟨by kernel_rfl, ?_⟩
  refine List.forall_mem_cons.2 ⟨by kernel_rfl, ?_⟩
  refine List.forall_mem_cons.2 ⟨by kernel_rfl, ?_⟩
  refine List.forall_mem_cons.2 ⟨by kernel_rfl, ?_⟩
  refine List.forall_mem_cons.2 ⟨by kernel_rfl, ?_⟩
  exact fun _ h => by cases h
noncomputable def E : Env := ⟨Try.prog, lk tl, fun t i h => tl_ok (t, i) (lk_mem _ _ _ h), by kernel_rfl⟩
theorem eq56_in (x y : Command) (n : Nat) (w : World) : (Op.equalIn (n + 2) 56 (.agg x.vs.toArray) (.agg y.vs.toArray)).run Try.prog w = .ok (eqCommand x y) w := by
  refine eqA_of Try.underlying56 (by kernel_rfl) ?_
  refine eqF_cons (by rfl) (by go_simp; rfl) (by go_simp; rfl) (by go_simp) ?_
  refine eqF_cons (by rfl) (by go_simp; rfl) (by go_simp; rfl) (by go_simp) ?_
  refine eqF_cons (by rfl) (by go_simp; rfl) (by go_simp; rfl) (by go_simp) ?_
  refine eqF_cons (by rfl) (by go_simp; rfl) (by go_simp; rfl) (by go_simp) ?_
  refine eqF_cons (by rfl) (by go_simp; rfl) (by go_simp; rfl) (by go_simp) ?_
  exact eqF_last (by rfl) (by go_simp; rfl) (by go_simp; rfl) (by go_simp)
theorem eq56 (x y : Command) (w : World) : (Op.equal 56 (.agg x.vs.toArray) (.agg y.vs.toArray)).run E.P w = .ok (eqCommand x y) w := eq56_in x y 9998 w
set_option maxHeartbeats 4000000 in
theorem laws_szCommand_fn (a : Command) (left : Int) : Eng.Fn E.P 50 [.agg ((Command.c a).map .r), .one (.r (.v (.int .i64 left)))] (.one (.one (.w (.v (.int .i64 (szCommand a left)))))) [.agg ((Command.c a).map .r), .one (.r (.v (.int .i64 left)))] := by
  refine Eng.Fn.intro (E := E) (rvs := [.tmp 4]) Try.func50 rfl rfl rfl (by simp [outSlots, moved, rvSlot]) ?_
  intro B g bo
  refine CW.le [(0, .agg ((Command.c a).map .r)), (1, I left)] rfl (Le.c rfl <| Le.c rfl <| Le.e) ?_
  refine CW.seq ?_
  refine CW.region ?_
  refine RW.box (ds := ((Command.c a).map .r)) rfl rfl rfl fun b1 => ?_
  refine RW.v rfl (V.as (d := I 0) rfl rfl) ?_
  refine RW.nil ?_
  refine CW.le [(1, I left), (2, .obj b1 ((Command.c a).map .r))] rfl (Le.c rfl <| Le.c rfl <| Le.e) ?_
  refine CW.seq ?_
  refine CW.region ?_
  refine RW.v rfl (V.mv (d := I left) rfl rfl) ?_
  refine RW.v rfl (V.field rfl rfl rfl rfl (by decide) rfl) ?_
  refine RW.v rfl (V.loadPrim (d := S a.key) rfl rfl (.inl rfl) rfl rfl rfl) ?_
  refine RW.v rfl (V.lenStr rfl (by kernel_rfl) rfl) ?_
  refine RW.v rfl (V.arInt rfl rfl rfl rfl) ?_
  refine RW.v rfl (V.as (d := I (IntKind.i64.wrap (left - (a.key.size : Int)))) rfl rfl) ?_
  refine RW.nil ?_
  refine CW.le [(1, I (IntKind.i64.wrap (left - (a.key.size : Int)))), (2, .obj b1 ((Command.c a).map .r))] rfl (Le.c rfl <| Le.c rfl <| Le.e) ?_
  refine CW.seq ?_
  refine CW.seq ?_
  refine CW.region ?_
  refine RW.v rfl (V.mv (d := I (IntKind.i64.wrap (left - (a.key.size : Int)))) rfl rfl) ?_
  refine RW.v rfl (V.cmpInt rfl rfl rfl rfl) ?_
  refine RW.nil ?_
  refine CW.le [(1, I (IntKind.i64.wrap (left - (a.key.size : Int)))), (2, .obj b1 ((Command.c a).map .r)), (11, Bo (decide ((IntKind.i64.wrap (left - (a.key.size : Int))) < 0)))] rfl (Le.c rfl <| Le.c rfl <| Le.c rfl <| Le.e) ?_
  refine CW.cond rfl (fun h2 => ?_) (fun h2 => ?_)
  · skip
    refine CW.seq ?_
    refine CW.region ?_
    refine RW.v rfl (V.as (d := I (-1)) rfl rfl) ?_
    refine RW.nil ?_
    refine CW.le [(4, I (-1))] rfl (Le.c rfl <| Le.e) ?_
    refine CW.ret ?_
    exact Post.int rfl (by first | (simp_all [szCommand]; done) | (simp_all [szCommand]; omega) | grind [szCommand]) (AOs.a rfl (AOs.r AOs.e))
  · skip
    refine CW.skip ?_
    refine CW.le [(1, I (IntKind.i64.wrap (left - (a.key.size : Int)))), (2, .obj b1 ((Command.c a).map .r))] rfl (Le.c rfl <| Le.c rfl <| Le.e) ?_
    refine CW.seq ?_
    refine CW.region ?_
    refine RW.v rfl (V.mv (d := I (IntKind.i64.wrap (left - (a.key.size : Int)))) rfl rfl) ?_
    refine RW.v rfl (V.field rfl rfl rfl rfl (by decide) rfl) ?_
    refine RW.v rfl (V.loadPrim (d := S a.val) rfl rfl (.inl rfl) rfl rfl rfl) ?_
    refine RW.v rfl (V.lenStr rfl (by kernel_rfl) rfl) ?_
    refine RW.v rfl (V.arInt rfl rfl rfl rfl) ?_
    refine RW.v rfl (V.as (d := I (IntKind.i64.wrap ((IntKind.i64.wrap (left - (a.key.size : Int))) - (a.val.size : Int)))) rfl rfl) ?_
    refine RW.nil ?_
    refine CW.le [(1, I (IntKind.i64.wrap ((IntKind.i64.wrap (left - (a.key.size : Int))) - (a.val.size : Int))))] rfl (Le.c rfl <| Le.e) ?_
    refine CW.seq ?_
    refine CW.seq ?_
    refine CW.region ?_
    refine RW.v rfl (V.mv (d := I (IntKind.i64.wrap ((IntKind.i64.wrap (left - (a.key.size : Int))) - (a.val.size : Int)))) rfl rfl) ?_
    refine RW.v rfl (V.cmpInt rfl rfl rfl rfl) ?_
    refine RW.nil ?_
    refine CW.le [(1, I (IntKind.i64.wrap ((IntKind.i64.wrap (left - (a.key.size : Int))) - (a.val.size : Int)))), (18, Bo (decide ((IntKind.i64.wrap ((IntKind.i64.wrap (left - (a.key.size : Int))) - (a.val.size : Int))) < 0)))] rfl (Le.c rfl <| Le.c rfl <| Le.e) ?_
    refine CW.cond rfl (fun h3 => ?_) (fun h3 => ?_)
    · skip
      refine CW.seq ?_
      refine CW.region ?_
      refine RW.v rfl (V.as (d := I (-1)) rfl rfl) ?_
      refine RW.nil ?_
      refine CW.le [(4, I (-1))] rfl (Le.c rfl <| Le.e) ?_
      refine CW.ret ?_
      exact Post.int rfl (by first | (simp_all [szCommand]; done) | (simp_all [szCommand]; omega) | grind [szCommand]) (AOs.a rfl (AOs.r AOs.e))
    · skip
      refine CW.skip ?_
      refine CW.le [(1, I (IntKind.i64.wrap ((IntKind.i64.wrap (left - (a.key.size : Int))) - (a.val.size : Int))))] rfl (Le.c rfl <| Le.e) ?_
      refine CW.seq ?_
      refine CW.region ?_
      refine RW.v rfl (V.mv (d := I (IntKind.i64.wrap ((IntKind.i64.wrap (left - (a.key.size : Int))) - (a.val.size : Int)))) rfl rfl) ?_
      refine RW.v rfl (V.as (d := I (IntKind.i64.wrap ((IntKind.i64.wrap (left - (a.key.size : Int))) - (a.val.size : Int)))) rfl rfl) ?_
      refine RW.nil ?_
      refine CW.le [(4, I (IntKind.i64.wrap ((IntKind.i64.wrap (left - (a.key.size : Int))) - (a.val.size : Int))))] rfl (Le.c rfl <| Le.e) ?_
      refine CW.ret ?_
      exact Post.int rfl (by first | (simp_all [szCommand]; done) | (simp_all [szCommand]; omega) | grind [szCommand]) (AOs.a rfl (AOs.r AOs.e))
set_option maxHeartbeats 4000000 in
theorem laws_szIntS_fn (a : List Int) (left : Int) : Eng.Fn E.P 51 [.one (.r (sl 1 cI a)), .one (.r (.v (.int .i64 left)))] (.one (.one (.w (.v (.int .i64 (szI a left)))))) [.one (.r (sl 1 cI a)), .one (.r (.v (.int .i64 left)))] := by
  refine Eng.Fn.intro (E := E) (rvs := [.tmp 4]) Try.func51 rfl rfl rfl (by simp [outSlots, moved, rvSlot]) ?_
  intro B g bo
  refine CW.bound (x := .tmp 0) (n := a.length) (AsT.r) (fun hl0 => ?_)
  refine CW.le [(0, .r (sl 1 cI a)), (1, I left)] rfl (Le.c rfl <| Le.c rfl <| Le.e) ?_
  refine CW.seq ?_
  refine CW.region ?_
  refine RW.v rfl (V.as (d := I 0) rfl rfl) ?_
  refine RW.nil ?_
  refine CW.le [(0, .r (sl 1 cI a)), (1, I left)] rfl (Le.c rfl <| Le.c rfl <| Le.e) ?_
  refine CW.seq ?_
  refine CW.region ?_
  refine RW.v rfl (V.mv (d := I left) rfl rfl) ?_
  refine RW.v rfl (V.mv (d := .r (sl 1 cI a)) rfl rfl) ?_
  refine RW.v rfl (V.lenT (n := a.length) rfl rfl rfl .r) ?_
  refine RW.v rfl (V.arInt rfl rfl rfl rfl) ?_
  refine RW.v rfl (V.as (d := I (IntKind.i64.wrap (left - (a.length : Int)))) rfl rfl) ?_
  refine RW.nil ?_
  refine CW.le [(1, I (IntKind.i64.wrap (left - (a.length : Int))))] rfl (Le.c rfl <| Le.e) ?_
  refine CW.seq ?_
  refine CW.seq ?_
  refine CW.region ?_
  refine RW.v rfl (V.mv (d := I (IntKind.i64.wrap (left - (a.length : Int)))) rfl rfl) ?_
  refine RW.v rfl (V.cmpInt rfl rfl rfl rfl) ?_
  refine RW.nil ?_
  refine CW.le [(1, I (IntKind.i64.wrap (left - (a.length : Int)))), (10, Bo (decide ((IntKind.i64.wrap (left - (a.length : Int))) < 0)))] rfl (Le.c rfl <| Le.c rfl <| Le.e) ?_
  refine CW.cond rfl (fun h1 => ?_) (fun h1 => ?_)
  · skip
    refine CW.seq ?_
    refine CW.region ?_
    refine RW.v rfl (V.as (d := I (-1)) rfl rfl) ?_
    refine RW.nil ?_
    refine CW.le [(4, I (-1))] rfl (Le.c rfl <| Le.e) ?_
    refine CW.ret ?_
    exact Post.int rfl (by first | (simp_all [szI]; done) | (simp_all [szI]; omega)) (AOs.r (AOs.r AOs.e))
  · skip
    refine CW.skip ?_
    refine CW.le [(1, I (IntKind.i64.wrap (left - (a.length : Int))))] rfl (Le.c rfl <| Le.e) ?_
    refine CW.seq ?_
    refine CW.region ?_
    refine RW.v rfl (V.mv (d := I (IntKind.i64.wrap (left - (a.length : Int)))) rfl rfl) ?_
    refine RW.v rfl (V.as (d := I (IntKind.i64.wrap (left - (a.length : Int)))) rfl rfl) ?_
    refine RW.nil ?_
    refine CW.le [(4, I (IntKind.i64.wrap (left - (a.length : Int))))] rfl (Le.c rfl <| Le.e) ?_
    refine CW.ret ?_
    exact Post.int rfl (by first | (simp_all [szI]; done) | (simp_all [szI]; omega)) (AOs.r (AOs.r AOs.e))
set_option maxHeartbeats 4000000 in
theorem laws_szHappen_fn (a : Happen) (left : Int) : Eng.Fn E.P 32 [.agg ((Happen.c a).map .r), .one (.r (.v (.int .i64 left)))] (.one (.one (.w (.v (.int .i64 (szHappen a left)))))) [.agg ((Happen.c a).map .r), .one (.r (.v (.int .i64 left)))] := by
  refine Eng.Fn.intro (E := E) (rvs := [.tmp 4]) Try.func32 rfl rfl rfl (by simp [outSlots, moved, rvSlot]) ?_
  intro B g bo
  refine CW.le [(0, .agg ((Happen.c a).map .r)), (1, I left)] rfl (Le.c rfl <| Le.c rfl <| Le.e) ?_
  refine CW.seq ?_
  refine CW.region ?_
  refine RW.box (ds := ((Happen.c a).map .r)) rfl rfl rfl fun b1 => ?_
  refine RW.v rfl (V.as (d := I 0) rfl rfl) ?_
  refine RW.nil ?_
  refine CW.le [(1, I left), (2, .obj b1 ((Happen.c a).map .r))] rfl (Le.c rfl <| Le.c rfl <| Le.e) ?_
  refine CW.seq ?_
  refine CW.region ?_
  refine RW.v rfl (V.field rfl rfl rfl rfl (by decide) rfl) ?_
  refine RW.v rfl (V.loadAgg rfl rfl rfl rfl rfl (Nat.le_of_ble_eq_true rfl)) ?_
  refine RW.v rfl (V.mv (d := I left) rfl rfl) ?_
  refine RW.call rfl (laws_szCommand_fn a.command left) rfl (.cons (.agg (.cons (.r .r) (.cons (.r .r) (.cons (.r .r) (.cons (.r .r) (.cons (.r .r) (.cons (.r .r) (.nil)))))))) (.cons (.one (.r .r)) (.nil))) fun g2 => ?_
  refine RW.v rfl (V.as (d := I (szCommand a.command left)) rfl rfl) ?_
  refine RW.nil ?_
  refine CW.le [(1, I (szCommand a.command left)), (2, .obj b1 ((Happen.c a).map .r))] rfl (Le.c rfl <| Le.c rfl <| Le.e) ?_
  refine CW.seq ?_
  refine CW.seq ?_
  refine CW.region ?_
  refine RW.v rfl (V.mv (d := I (szCommand a.command left)) rfl rfl) ?_
  refine RW.v rfl (V.cmpInt rfl rfl rfl rfl) ?_
  refine RW.nil ?_
  refine CW.le [(1, I (szCommand a.command left)), (2, .obj b1 ((Happen.c a).map .r)), (10, Bo (decide ((szCommand a.command left) < 0)))] rfl (Le.c rfl <| Le.c rfl <| Le.c rfl <| Le.e) ?_
  refine CW.cond rfl (fun h3 => ?_) (fun h3 => ?_)
  · skip
    refine CW.seq ?_
    refine CW.region ?_
    refine RW.v rfl (V.as (d := I (-1)) rfl rfl) ?_
    refine RW.nil ?_
    refine CW.le [(4, I (-1))] rfl (Le.c rfl <| Le.e) ?_
    refine CW.ret ?_
    exact Post.int rfl (by first | (simp_all [szHappen]; done) | (simp_all [szHappen]; omega) | grind [szHappen]) (AOs.a rfl (AOs.r AOs.e))
  · skip
    refine CW.skip ?_
    refine CW.le [(1, I (szCommand a.command left)), (2, .obj b1 ((Happen.c a).map .r))] rfl (Le.c rfl <| Le.c rfl <| Le.e) ?_
    refine CW.seq ?_
    refine CW.region ?_
    refine RW.v rfl (V.field rfl rfl rfl rfl (by decide) rfl) ?_
    refine RW.v rfl (V.loadPrim (d := .r (sl 1 cI a.conf)) rfl rfl (.inr ⟨_, rfl⟩) rfl rfl rfl) ?_
    refine RW.v rfl (V.mv (d := I (szCommand a.command left)) rfl rfl) ?_
    refine RW.call rfl (laws_szIntS_fn a.conf (szCommand a.command left)) rfl (.cons (.one (.r .r)) (.cons (.one (.r .r)) (.nil))) fun g4 => ?_
    refine RW.v rfl (V.as (d := I (szI a.conf (szCommand a.command left))) rfl rfl) ?_
    refine RW.nil ?_
    refine CW.le [(1, I (szI a.conf (szCommand a.command left))), (2, .obj b1 ((Happen.c a).map .r))] rfl (Le.c rfl <| Le.c rfl <| Le.e) ?_
    refine CW.seq ?_
    refine CW.seq ?_
    refine CW.region ?_
    refine RW.v rfl (V.mv (d := I (szI a.conf (szCommand a.command left))) rfl rfl) ?_
    refine RW.v rfl (V.cmpInt rfl rfl rfl rfl) ?_
    refine RW.nil ?_
    refine CW.le [(1, I (szI a.conf (szCommand a.command left))), (2, .obj b1 ((Happen.c a).map .r)), (16, Bo (decide ((szI a.conf (szCommand a.command left)) < 0)))] rfl (Le.c rfl <| Le.c rfl <| Le.c rfl <| Le.e) ?_
    refine CW.cond rfl (fun h5 => ?_) (fun h5 => ?_)
    · skip
      refine CW.seq ?_
      refine CW.region ?_
      refine RW.v rfl (V.as (d := I (-1)) rfl rfl) ?_
      refine RW.nil ?_
      refine CW.le [(4, I (-1))] rfl (Le.c rfl <| Le.e) ?_
      refine CW.ret ?_
      exact Post.int rfl (by first | (simp_all [szHappen]; done) | (simp_all [szHappen]; omega) | grind [szHappen]) (AOs.a rfl (AOs.r AOs.e))
    · skip
      refine CW.skip ?_
      refine CW.le [(1, I (szI a.conf (szCommand a.command left))), (2, .obj b1 ((Happen.c a).map .r))] rfl (Le.c rfl <| Le.c rfl <| Le.e) ?_
      refine CW.seq ?_
      refine CW.region ?_
      refine RW.v rfl (V.field rfl rfl rfl rfl (by decide) rfl) ?_
      refine RW.v rfl (V.loadPrim (d := .r (sl 1 cI a.left)) rfl rfl (.inr ⟨_, rfl⟩) rfl rfl rfl) ?_
      refine RW.v rfl (V.mv (d := I (szI a.conf (szCommand a.command left))) rfl rfl) ?_
      refine RW.call rfl (laws_szIntS_fn a.left (szI a.conf (szCommand a.command left))) rfl (.cons (.one (.r .r)) (.cons (.one (.r .r)) (.nil))) fun g6 => ?_
      refine RW.v rfl (V.as (d := I (szI a.left (szI a.conf (szCommand a.command left)))) rfl rfl) ?_
      refine RW.nil ?_
      refine CW.le [(1, I (szI a.left (szI a.conf (szCommand a.command left))))] rfl (Le.c rfl <| Le.e) ?_
      refine CW.seq ?_
      refine CW.seq ?_
      refine CW.region ?_
      refine RW.v rfl (V.mv (d := I (szI a.left (szI a.conf (szCommand a.command left)))) rfl rfl) ?_
      refine RW.v rfl (V.cmpInt rfl rfl rfl rfl) ?_
      refine RW.nil ?_
      refine CW.le [(1, I (szI a.left (szI a.conf (szCommand a.command left)))), (22, Bo (decide ((szI a.left (szI a.conf (szCommand a.command left))) < 0)))] rfl (Le.c rfl <| Le.c rfl <| Le.e) ?_
      refine CW.cond rfl (fun h7 => ?_) (fun h7 => ?_)
      · skip
        refine CW.seq ?_
        refine CW.region ?_
        refine RW.v rfl (V.as (d := I (-1)) rfl rfl) ?_
        refine RW.nil ?_
        refine CW.le [(4, I (-1))] rfl (Le.c rfl <| Le.e) ?_
        refine CW.ret ?_
        exact Post.int rfl (by first | (simp_all [szHappen]; done) | (simp_all [szHappen]; omega) | grind [szHappen]) (AOs.a rfl (AOs.r AOs.e))
      · skip
        refine CW.skip ?_
        refine CW.le [(1, I (szI a.left (szI a.conf (szCommand a.command left))))] rfl (Le.c rfl <| Le.e) ?_
        refine CW.seq ?_
        refine CW.region ?_
        refine RW.v rfl (V.mv (d := I (szI a.left (szI a.conf (szCommand a.command left)))) rfl rfl) ?_
        refine RW.v rfl (V.as (d := I (szI a.left (szI a.conf (szCommand a.command left)))) rfl rfl) ?_
        refine RW.nil ?_
        refine CW.le [(4, I (szI a.left (szI a.conf (szCommand a.command left))))] rfl (Le.c rfl <| Le.e) ?_
        refine CW.ret ?_
        exact Post.int rfl (by first | (simp_all [szHappen]; done) | (simp_all [szHappen]; omega) | grind [szHappen]) (AOs.a rfl (AOs.r AOs.e))
set_option maxHeartbeats 4000000 in
theorem laws_toCommand_fn (a : Command) : Eng.Fn E.P 55 [.agg ((Command.c a).map .r)] (.one (.agg ((Command.c a).map .w))) [.agg ((Command.c a).map .r)] := by
  refine Eng.Fn.intro (E := E) (rvs := [.cell 2 56]) Try.func55 rfl rfl rfl (by simp [outSlots, moved, rvSlot]) ?_
  intro B g bo
  refine CW.le [(0, .agg ((Command.c a).map .r))] rfl (Le.c rfl <| Le.e) ?_
  refine CW.seq ?_
  refine CW.region ?_
  refine RW.box (ds := ((Command.c a).map .r)) rfl rfl rfl fun b1 => ?_
  refine RW.alloc (ds := [I 0, I 0, I 0, S (⟨#[]⟩), S (⟨#[]⟩), I 0]) rfl rfl rfl rfl fun b2 => ?_
  refine RW.nil ?_
  refine CW.le [(1, .obj b1 ((Command.c a).map .r)), (2, .obj b2 [I 0, I 0, I 0, S (⟨#[]⟩), S (⟨#[]⟩), I 0])] rfl (Le.c rfl <| Le.c rfl <| Le.e) ?_
  refine CW.seq ?_
  refine CW.region ?_
  refine RW.alloc (ds := [I 0, I 0, I 0, S (⟨#[]⟩), S (⟨#[]⟩), I 0]) rfl rfl rfl rfl fun b3 => ?_
  refine RW.nil ?_
  refine CW.le [(1, .obj b1 ((Command.c a).map .r)), (2, .obj b2 [I 0, I 0, I 0, S (⟨#[]⟩), S (⟨#[]⟩), I 0]), (3, .obj b3 [I 0, I 0, I 0, S (⟨#[]⟩), S (⟨#[]⟩), I 0])] rfl (Le.c rfl <| Le.c rfl <| Le.c rfl <| Le.e) ?_
  refine CW.seq ?_
  refine CW.region ?_
  refine RW.v rfl (V.field rfl rfl rfl rfl (by decide) rfl) ?_
  refine RW.v rfl (V.loadPrim (d := I a.op) rfl rfl (.inl rfl) rfl rfl rfl) ?_
  refine RW.v rfl (V.field rfl rfl rfl rfl (by decide) rfl) ?_
  refine RW.store (d := I a.op) rfl rfl rfl rfl rfl rfl rfl (Nat.le_of_ble_eq_true rfl) rfl rfl ?_
  refine RW.nil ?_
  refine CW.le [(1, .obj b1 ((Command.c a).map .r)), (2, .obj b2 [I 0, I 0, I 0, S (⟨#[]⟩), S (⟨#[]⟩), I 0]), (3, .obj b3 [I a.op, I 0, I 0, S (⟨#[]⟩), S (⟨#[]⟩), I 0])] rfl (Le.c rfl <| Le.c rfl <| Le.c rfl <| Le.e) ?_
  refine CW.seq ?_
  refine CW.region ?_
  refine RW.v rfl (V.field rfl rfl rfl rfl (by decide) rfl) ?_
  refine RW.v rfl (V.loadPrim (d := I a.token) rfl rfl (.inl rfl) rfl rfl rfl) ?_
  refine RW.v rfl (V.field rfl rfl rfl rfl (by decide) rfl) ?_
  refine RW.store (d := I a.token) rfl rfl rfl rfl rfl rfl rfl (Nat.le_of_ble_eq_true rfl) rfl rfl ?_
  refine RW.nil ?_
  refine CW.le [(1, .obj b1 ((Command.c a).map .r)), (2, .obj b2 [I 0, I 0, I 0, S (⟨#[]⟩), S (⟨#[]⟩), I 0]), (3, .obj b3 [I a.op, I a.token, I 0, S (⟨#[]⟩), S (⟨#[]⟩), I 0])] rfl (Le.c rfl <| Le.c rfl <| Le.c rfl <| Le.e) ?_
  refine CW.seq ?_
  refine CW.region ?_
  refine RW.v rfl (V.field rfl rfl rfl rfl (by decide) rfl) ?_
  refine RW.v rfl (V.loadPrim (d := I a.seq) rfl rfl (.inl rfl) rfl rfl rfl) ?_
  refine RW.v rfl (V.field rfl rfl rfl rfl (by decide) rfl) ?_
  refine RW.store (d := I a.seq) rfl rfl rfl rfl rfl rfl rfl (Nat.le_of_ble_eq_true rfl) rfl rfl ?_
  refine RW.nil ?_
  refine CW.le [(1, .obj b1 ((Command.c a).map .r)), (2, .obj b2 [I 0, I 0, I 0, S (⟨#[]⟩), S (⟨#[]⟩), I 0]), (3, .obj b3 [I a.op, I a.token, I a.seq, S (⟨#[]⟩), S (⟨#[]⟩), I 0])] rfl (Le.c rfl <| Le.c rfl <| Le.c rfl <| Le.e) ?_
  refine CW.seq ?_
  refine CW.region ?_
  refine RW.v rfl (V.field rfl rfl rfl rfl (by decide) rfl) ?_
  refine RW.v rfl (V.loadPrim (d := S a.key) rfl rfl (.inl rfl) rfl rfl rfl) ?_
  refine RW.v rfl (V.field rfl rfl rfl rfl (by decide) rfl) ?_
  refine RW.store (d := S a.key) rfl rfl rfl rfl rfl rfl rfl (Nat.le_of_ble_eq_true rfl) rfl rfl ?_
  refine RW.nil ?_
  refine CW.le [(1, .obj b1 ((Command.c a).map .r)), (2, .obj b2 [I 0, I 0, I 0, S (⟨#[]⟩), S (⟨#[]⟩), I 0]), (3, .obj b3 [I a.op, I a.token, I a.seq, S a.key, S (⟨#[]⟩), I 0])] rfl (Le.c rfl <| Le.c rfl <| Le.c rfl <| Le.e) ?_
  refine CW.seq ?_
  refine CW.region ?_
  refine RW.v rfl (V.field rfl rfl rfl rfl (by decide) rfl) ?_
  refine RW.v rfl (V.loadPrim (d := S a.val) rfl rfl (.inl rfl) rfl rfl rfl) ?_
  refine RW.v rfl (V.field rfl rfl rfl rfl (by decide) rfl) ?_
  refine RW.store (d := S a.val) rfl rfl rfl rfl rfl rfl rfl (Nat.le_of_ble_eq_true rfl) rfl rfl ?_
  refine RW.nil ?_
  refine CW.le [(1, .obj b1 ((Command.c a).map .r)), (2, .obj b2 [I 0, I 0, I 0, S (⟨#[]⟩), S (⟨#[]⟩), I 0]), (3, .obj b3 [I a.op, I a.token, I a.seq, S a.key, S a.val, I 0])] rfl (Le.c rfl <| Le.c rfl <| Le.c rfl <| Le.e) ?_
  refine CW.seq ?_
  refine CW.region ?_
  refine RW.v rfl (V.field rfl rfl rfl rfl (by decide) rfl) ?_
  refine RW.v rfl (V.loadPrim (d := I a.ver) rfl rfl (.inl rfl) rfl rfl rfl) ?_
  refine RW.v rfl (V.field rfl rfl rfl rfl (by decide) rfl) ?_
  refine RW.store (d := I a.ver) rfl rfl rfl rfl rfl rfl rfl (Nat.le_of_ble_eq_true rfl) rfl rfl ?_
  refine RW.nil ?_
  refine CW.le [(2, .obj b2 [I 0, I 0, I 0, S (⟨#[]⟩), S (⟨#[]⟩), I 0]), (3, .obj b3 ((Command.c a).map .r))] rfl (Le.c rfl <| Le.c rfl <| Le.e) ?_
  refine CW.seq ?_
  refine CW.region ?_
  refine RW.v rfl (V.loadAgg rfl rfl rfl rfl rfl (Nat.le_of_ble_eq_true rfl)) ?_
  refine RW.storeAgg (es := ((Command.c a).map .r)) rfl rfl rfl rfl rfl rfl rfl rfl (Nat.le_of_ble_eq_true rfl) rfl ?_
  refine RW.nil ?_
  refine CW.le [(2, .obj b2 ((Command.c a).map .r))] rfl (Le.c rfl <| Le.e) ?_
  refine CW.ret ?_
  exact Post.cell rfl rfl rfl rfl (DT.v (DT.v (DT.v (DT.v (DT.v (DT.v DT.e)))))) (AOs.a rfl AOs.e)
set_option maxHeartbeats 4000000 in
theorem laws_toIntS_fn (a : List Int) (hm : a.length ≤ 1048576) : Eng.Fn E.P 56 [.one (.r (sl 1 cI a))] (.one (.one (.w (sl 1 cI a)))) [.one (.r (sl 1 cI a))] := by
  refine Eng.Fn.intro (E := E) (rvs := [.tmp 2]) Try.func56 rfl rfl rfl (by simp [outSlots, moved, rvSlot]) ?_
  intro B g bo
  refine CW.bound (x := .tmp 0) (n := a.length) (AsT.r) (fun hl0 => ?_)
  refine CW.le [(0, .r (sl 1 cI a))] rfl (Le.c rfl <| Le.e) ?_
  refine CW.seq ?_
  refine CW.region ?_
  refine RW.v rfl (V.as (d := .r (.v (.slice none 0 0))) rfl rfl) ?_
  refine RW.nil ?_
  refine CW.le [(0, .r (sl 1 cI a))] rfl (Le.c rfl <| Le.e) ?_
  refine CW.seq ?_
  refine CW.region ?_
  refine RW.v rfl (V.mv (d := .r (sl 1 cI a)) rfl rfl) ?_
  refine RW.v rfl (V.lenT (n := a.length) rfl rfl rfl .r) ?_
  refine RW.makeS (n := a.length) (c := cI) 0 rfl rfl rfl rfl rfl rfl rfl rfl (ZT.v ZT.e) (by show 8 * a.length ≤ 281474976710656; omega) (by simp only [maxLen]; omega) fun X1 => ?_
  refine RW.assignMove rfl rfl rfl (by decide) (Nat.le_of_ble_eq_true rfl) (Nat.le_of_ble_eq_true rfl) ?_
  refine RW.nil ?_
  refine CW.le [(0, .r (sl 1 cI a)), (3, .w (sl 1 cI (List.replicate a.length 0)) X1)] rfl (Le.c rfl <| Le.c rfl <| Le.e) ?_
  refine CW.seq ?_
  refine CW.seq ?_
  refine CW.region ?_
  refine RW.v rfl (V.as (d := I 0) rfl rfl) ?_
  refine RW.nil ?_
  refine CW.le [(0, .r (sl 1 cI a)), (3, .w (sl 1 cI (List.replicate a.length 0)) X1), (4, I 0)] rfl (Le.c rfl <| Le.c rfl <| Le.c rfl <| Le.e) ?_
  refine CW.block ?_
  refine CW.loopI 22 (fun (i : Nat) => [(0, .r (sl 1 cI a)), (3, .w (sl 1 cI (a.take i ++ List.replicate (a.length - i) 0)) X1), (4, I (i : Int))]) (fun (i : Nat) => i ≤ a.length) (fun (i : Nat) => a.length - i) 0 rfl (Le.c rfl <| Le.c rfl <| Le.c rfl <| Le.e) (by omega) ?_
  rintro i hb
  refine CW.seq ?_
  refine CW.seq ?_
  refine CW.region ?_
  refine RW.v rfl (V.mv (d := I (i : Int)) rfl rfl) ?_
  refine RW.v rfl (V.mv (d := .r (sl 1 cI a)) rfl rfl) ?_
  refine RW.v rfl (V.lenT (n := a.length) rfl rfl rfl .r) ?_
  refine RW.v rfl (V.cmpInt rfl rfl rfl rfl) ?_
  refine RW.nil ?_
  refine CW.le [(0, .r (sl 1 cI a)), (3, .w (sl 1 cI (a.take i ++ List.replicate (a.length - i) 0)) X1), (4, I (i : Int)), (11, Bo (decide ((i : Int) < (a.length : Int))))] rfl (Le.c rfl <| Le.c rfl <| Le.c rfl <| Le.c rfl <| Le.e) ?_
  refine CW.cond rfl (fun h2 => ?_) (fun h2 => ?_)
  · skip
    have hii : i < a.length := by have := h2; simp at this; first | exact this | (simp; omega)
    obtain ⟨ei, hei⟩ : ∃ e, a[i]? = some e := ⟨_, List.getElem?_eq_getElem hii⟩
    have hdi := drop_get hei
    refine CW.skip ?_
    refine CW.le [(0, .r (sl 1 cI a)), (3, .w (sl 1 cI (a.take i ++ List.replicate (a.length - i) 0)) X1), (4, I (i : Int))] rfl (Le.c rfl <| Le.c rfl <| Le.c rfl <| Le.e) ?_
    refine CW.seq ?_
    refine CW.block ?_
    refine CW.region ?_
    refine RW.v rfl (V.mv (d := .al 3 none 1 ((a.take i ++ List.replicate (a.length - i) 0).length) X1 0) rfl rfl) ?_
    refine RW.v rfl (V.mv (d := I (i : Int)) rfl rfl) ?_
    refine RW.v rfl (V.mv (d := .r (sl 1 cI a)) rfl rfl) ?_
    refine RW.v rfl (V.mv (d := I (i : Int)) rfl rfl) ?_
    refine RW.v rfl (V.indexS rfl rfl rfl rfl rfl rfl cI.len hei) ?_
    refine RW.v rfl (V.loadPrimR (t0 := .v (.int .i64 ei)) rfl rfl (.inl rfl) rfl rfl) ?_
    refine RW.v rfl (V.indexW rfl rfl rfl rfl rfl rfl rfl (by simp; omega)) ?_
    refine RW.storeS1 (v := ei) (c := cI) (u := .v (.int .i64 ei)) rfl rfl rfl rfl rfl rfl rfl (.inl rfl) rfl cI.len (by simp; omega) rfl ?_
    refine RW.nil ?_
    refine CW.le [(0, .r (sl 1 cI a)), (3, .w (sl 1 cI ((a.take i ++ List.replicate (a.length - i) 0).set i ei)) X1), (4, I (i : Int))] rfl (Le.c rfl <| Le.c rfl <| Le.c rfl <| Le.e) ?_
    refine CW.region ?_
    refine RW.v rfl (V.mv (d := I (i : Int)) rfl rfl) ?_
    refine RW.v rfl (V.inc rfl rfl rfl hii hl0) ?_
    refine RW.v rfl (V.as (d := I ((i + 1 : Nat) : Int)) rfl rfl) ?_
    refine RW.nil ?_
    exact ⟨i + 1, by omega, by omega, rfl, Le.c rfl <| Le.c (congrArg (fun l => D.w (sl _ cI l) X1) (take_set hei)) <| Le.c rfl <| Le.e⟩
  · skip
    have hii : a.length ≤ i := by have := h2; simp at this; first | exact this | (simp; omega)
    have hdi : a.drop i = [] := List.drop_eq_nil_of_le hii
    refine CW.exit ?_
    refine CW.le [(3, .w (sl 1 cI (a.take i ++ List.replicate (a.length - i) 0)) X1)] rfl (Le.c rfl <| Le.e) ?_
    refine CW.seq ?_
    refine CW.region ?_
    refine RW.v rfl (V.mv (d := .al 3 none 1 ((a.take i ++ List.replicate (a.length - i) 0).length) X1 0) rfl rfl) ?_
    refine RW.v rfl (V.as (d := .al 3 none 1 ((a.take i ++ List.replicate (a.length - i) 0).length) X1 0) rfl rfl) ?_
    refine RW.nil ?_
    refine CW.le [(2, .al 3 none 1 ((a.take i ++ List.replicate (a.length - i) 0).length) X1 0), (3, .w (sl 1 cI (a.take i ++ List.replicate (a.length - i) 0)) X1)] rfl (Le.c rfl <| Le.c rfl <| Le.e) ?_
    refine CW.pull 2 3 (by decide) rfl rfl ?_
    refine CW.ret ?_
    exact Post.own rfl (by rw [List.take_of_length_le hii, show a.length - i = 0 from by omega]; simp) (AOs.r AOs.e)
set_option maxHeartbeats 4000000 in
theorem laws_toHappen_fn (a : Happen) (hs : okToHappen a) : Eng.Fn E.P 34 [.agg ((Happen.c a).map .r)] (.one (.agg ((Happen.c a).map .w))) [.agg ((Happen.c a).map .r)] := by
  refine Eng.Fn.intro (E := E) (rvs := [.cell 2 58]) Try.func34 rfl rfl rfl (by simp [outSlots, moved, rvSlot]) ?_
  intro B g bo
  refine CW.le [(0, .agg ((Happen.c a).map .r))] rfl (Le.c rfl <| Le.e) ?_
  refine CW.seq ?_
  refine CW.region ?_
  refine RW.box (ds := ((Happen.c a).map .r)) rfl rfl rfl fun b1 => ?_
  refine RW.alloc (ds := [I 0, I 0, I 0, I 0, I 0, I 0, I 0, S (⟨#[]⟩), S (⟨#[]⟩), I 0, .r (.v (.slice none 0 0)), Bo false, I 0, .r (.v (.slice none 0 0))]) rfl rfl rfl rfl fun b2 => ?_
  refine RW.nil ?_
  refine CW.le [(1, .obj b1 ((Happen.c a).map .r)), (2, .obj b2 [I 0, I 0, I 0, I 0, I 0, I 0, I 0, S (⟨#[]⟩), S (⟨#[]⟩), I 0, .r (.v (.slice none 0 0)), Bo false, I 0, .r (.v (.slice none 0 0))])] rfl (Le.c rfl <| Le.c rfl <| Le.e) ?_
  refine CW.seq ?_
  refine CW.region ?_
  refine RW.alloc (ds := [I 0, I 0, I 0, I 0, I 0, I 0, I 0, S (⟨#[]⟩), S (⟨#[]⟩), I 0, .r (.v (.slice none 0 0)), Bo false, I 0, .r (.v (.slice none 0 0))]) rfl rfl rfl rfl fun b3 => ?_
  refine RW.nil ?_
  refine CW.le [(1, .obj b1 ((Happen.c a).map .r)), (2, .obj b2 [I 0, I 0, I 0, I 0, I 0, I 0, I 0, S (⟨#[]⟩), S (⟨#[]⟩), I 0, .r (.v (.slice none 0 0)), Bo false, I 0, .r (.v (.slice none 0 0))]), (3, .obj b3 [I 0, I 0, I 0, I 0, I 0, I 0, I 0, S (⟨#[]⟩), S (⟨#[]⟩), I 0, .r (.v (.slice none 0 0)), Bo false, I 0, .r (.v (.slice none 0 0))])] rfl (Le.c rfl <| Le.c rfl <| Le.c rfl <| Le.e) ?_
  refine CW.seq ?_
  refine CW.region ?_
  refine RW.v rfl (V.field rfl rfl rfl rfl (by decide) rfl) ?_
  refine RW.v rfl (V.loadPrim (d := I a.kind) rfl rfl (.inl rfl) rfl rfl rfl) ?_
  refine RW.v rfl (V.field rfl rfl rfl rfl (by decide) rfl) ?_
  refine RW.store (d := I a.kind) rfl rfl rfl rfl rfl rfl rfl (Nat.le_of_ble_eq_true rfl) rfl rfl ?_
  refine RW.nil ?_
  refine CW.le [(1, .obj b1 ((Happen.c a).map .r)), (2, .obj b2 [I 0, I 0, I 0, I 0, I 0, I 0, I 0, S (⟨#[]⟩), S (⟨#[]⟩), I 0, .r (.v (.slice none 0 0)), Bo false, I 0, .r (.v (.slice none 0 0))]), (3, .obj b3 [I a.kind, I 0, I 0, I 0, I 0, I 0, I 0, S (⟨#[]⟩), S (⟨#[]⟩), I 0, .r (.v (.slice none 0 0)), Bo false, I 0, .r (.v (.slice none 0 0))])] rfl (Le.c rfl <| Le.c rfl <| Le.c rfl <| Le.e) ?_
  refine CW.seq ?_
  refine CW.region ?_
  refine RW.v rfl (V.field rfl rfl rfl rfl (by decide) rfl) ?_
  refine RW.v rfl (V.loadPrim (d := I a.node) rfl rfl (.inl rfl) rfl rfl rfl) ?_
  refine RW.v rfl (V.field rfl rfl rfl rfl (by decide) rfl) ?_
  refine RW.store (d := I a.node) rfl rfl rfl rfl rfl rfl rfl (Nat.le_of_ble_eq_true rfl) rfl rfl ?_
  refine RW.nil ?_
  refine CW.le [(1, .obj b1 ((Happen.c a).map .r)), (2, .obj b2 [I 0, I 0, I 0, I 0, I 0, I 0, I 0, S (⟨#[]⟩), S (⟨#[]⟩), I 0, .r (.v (.slice none 0 0)), Bo false, I 0, .r (.v (.slice none 0 0))]), (3, .obj b3 [I a.kind, I a.node, I 0, I 0, I 0, I 0, I 0, S (⟨#[]⟩), S (⟨#[]⟩), I 0, .r (.v (.slice none 0 0)), Bo false, I 0, .r (.v (.slice none 0 0))])] rfl (Le.c rfl <| Le.c rfl <| Le.c rfl <| Le.e) ?_
  refine CW.seq ?_
  refine CW.region ?_
  refine RW.v rfl (V.field rfl rfl rfl rfl (by decide) rfl) ?_
  refine RW.v rfl (V.loadPrim (d := I a.at_) rfl rfl (.inl rfl) rfl rfl rfl) ?_
  refine RW.v rfl (V.field rfl rfl rfl rfl (by decide) rfl) ?_
  refine RW.store (d := I a.at_) rfl rfl rfl rfl rfl rfl rfl (Nat.le_of_ble_eq_true rfl) rfl rfl ?_
  refine RW.nil ?_
  refine CW.le [(1, .obj b1 ((Happen.c a).map .r)), (2, .obj b2 [I 0, I 0, I 0, I 0, I 0, I 0, I 0, S (⟨#[]⟩), S (⟨#[]⟩), I 0, .r (.v (.slice none 0 0)), Bo false, I 0, .r (.v (.slice none 0 0))]), (3, .obj b3 [I a.kind, I a.node, I a.at_, I 0, I 0, I 0, I 0, S (⟨#[]⟩), S (⟨#[]⟩), I 0, .r (.v (.slice none 0 0)), Bo false, I 0, .r (.v (.slice none 0 0))])] rfl (Le.c rfl <| Le.c rfl <| Le.c rfl <| Le.e) ?_
  refine CW.seq ?_
  refine CW.region ?_
  refine RW.v rfl (V.field rfl rfl rfl rfl (by decide) rfl) ?_
  refine RW.v rfl (V.loadPrim (d := I a.limit) rfl rfl (.inl rfl) rfl rfl rfl) ?_
  refine RW.v rfl (V.field rfl rfl rfl rfl (by decide) rfl) ?_
  refine RW.store (d := I a.limit) rfl rfl rfl rfl rfl rfl rfl (Nat.le_of_ble_eq_true rfl) rfl rfl ?_
  refine RW.nil ?_
  refine CW.le [(1, .obj b1 ((Happen.c a).map .r)), (2, .obj b2 [I 0, I 0, I 0, I 0, I 0, I 0, I 0, S (⟨#[]⟩), S (⟨#[]⟩), I 0, .r (.v (.slice none 0 0)), Bo false, I 0, .r (.v (.slice none 0 0))]), (3, .obj b3 [I a.kind, I a.node, I a.at_, I a.limit, I 0, I 0, I 0, S (⟨#[]⟩), S (⟨#[]⟩), I 0, .r (.v (.slice none 0 0)), Bo false, I 0, .r (.v (.slice none 0 0))])] rfl (Le.c rfl <| Le.c rfl <| Le.c rfl <| Le.e) ?_
  refine CW.seq ?_
  refine CW.region ?_
  refine RW.v rfl (V.field rfl rfl rfl rfl (by decide) rfl) ?_
  refine RW.v rfl (V.loadAgg rfl rfl rfl rfl rfl (Nat.le_of_ble_eq_true rfl)) ?_
  refine RW.call rfl (laws_toCommand_fn a.command) rfl (.cons (.agg (.cons (.r .r) (.cons (.r .r) (.cons (.r .r) (.cons (.r .r) (.cons (.r .r) (.cons (.r .r) (.nil)))))))) (.nil)) fun g4 => ?_
  refine RW.v rfl (V.field rfl rfl rfl rfl (by decide) rfl) ?_
  refine RW.storeAgg (es := ((Command.c a.command).map .r)) rfl rfl rfl rfl rfl rfl rfl rfl (Nat.le_of_ble_eq_true rfl) rfl ?_
  refine RW.nil ?_
  refine CW.le [(1, .obj b1 ((Happen.c a).map .r)), (2, .obj b2 [I 0, I 0, I 0, I 0, I 0, I 0, I 0, S (⟨#[]⟩), S (⟨#[]⟩), I 0, .r (.v (.slice none 0 0)), Bo false, I 0, .r (.v (.slice none 0 0))]), (3, .obj b3 [I a.kind, I a.node, I a.at_, I a.limit, I a.command.op, I a.command.token, I a.command.seq, S a.command.key, S a.command.val, I a.command.ver, .r (.v (.slice none 0 0)), Bo false, I 0, .r (.v (.slice none 0 0))])] rfl (Le.c rfl <| Le.c rfl <| Le.c rfl <| Le.e) ?_
  refine CW.seq ?_
  refine CW.region ?_
  refine RW.v rfl (V.field rfl rfl rfl rfl (by decide) rfl) ?_
  refine RW.v rfl (V.loadPrim (d := .r (sl 1 cI a.conf)) rfl rfl (.inr ⟨_, rfl⟩) rfl rfl rfl) ?_
  refine RW.call rfl (laws_toIntS_fn a.conf hs.1.1) rfl (.cons (.one (.r .r)) (.nil)) fun g5 => ?_
  refine RW.v rfl (V.field rfl rfl rfl rfl (by decide) rfl) ?_
  refine RW.store (d := .al 22 none 1 a.conf.length (g5 0 0) 0) rfl rfl rfl rfl rfl rfl rfl (Nat.le_of_ble_eq_true rfl) rfl rfl ?_
  refine RW.pullT (k := 3) (l := 22) (j := 10) 3 22 10 rfl rfl rfl (by decide) rfl rfl rfl ?_
  refine RW.nil ?_
  refine CW.le [(1, .obj b1 ((Happen.c a).map .r)), (2, .obj b2 [I 0, I 0, I 0, I 0, I 0, I 0, I 0, S (⟨#[]⟩), S (⟨#[]⟩), I 0, .r (.v (.slice none 0 0)), Bo false, I 0, .r (.v (.slice none 0 0))]), (3, .obj b3 [I a.kind, I a.node, I a.at_, I a.limit, I a.command.op, I a.command.token, I a.command.seq, S a.command.key, S a.command.val, I a.command.ver, .w (sl 1 cI a.conf) (g5 0 0), Bo false, I 0, .r (.v (.slice none 0 0))])] rfl (Le.c rfl <| Le.c rfl <| Le.c rfl <| Le.e) ?_
  refine CW.seq ?_
  refine CW.region ?_
  refine RW.v rfl (V.field rfl rfl rfl rfl (by decide) rfl) ?_
  refine RW.v rfl (V.loadPrim (d := Bo a.cut) rfl rfl (.inl rfl) rfl rfl rfl) ?_
  refine RW.v rfl (V.field rfl rfl rfl rfl (by decide) rfl) ?_
  refine RW.store (d := Bo a.cut) rfl rfl rfl rfl rfl rfl rfl (Nat.le_of_ble_eq_true rfl) rfl rfl ?_
  refine RW.nil ?_
  refine CW.le [(1, .obj b1 ((Happen.c a).map .r)), (2, .obj b2 [I 0, I 0, I 0, I 0, I 0, I 0, I 0, S (⟨#[]⟩), S (⟨#[]⟩), I 0, .r (.v (.slice none 0 0)), Bo false, I 0, .r (.v (.slice none 0 0))]), (3, .obj b3 [I a.kind, I a.node, I a.at_, I a.limit, I a.command.op, I a.command.token, I a.command.seq, S a.command.key, S a.command.val, I a.command.ver, .w (sl 1 cI a.conf) (g5 0 0), Bo a.cut, I 0, .r (.v (.slice none 0 0))])] rfl (Le.c rfl <| Le.c rfl <| Le.c rfl <| Le.e) ?_
  refine CW.seq ?_
  refine CW.region ?_
  refine RW.v rfl (V.field rfl rfl rfl rfl (by decide) rfl) ?_
  refine RW.v rfl (V.loadPrim (d := I a.whole) rfl rfl (.inl rfl) rfl rfl rfl) ?_
  refine RW.v rfl (V.field rfl rfl rfl rfl (by decide) rfl) ?_
  refine RW.store (d := I a.whole) rfl rfl rfl rfl rfl rfl rfl (Nat.le_of_ble_eq_true rfl) rfl rfl ?_
  refine RW.nil ?_
  refine CW.le [(1, .obj b1 ((Happen.c a).map .r)), (2, .obj b2 [I 0, I 0, I 0, I 0, I 0, I 0, I 0, S (⟨#[]⟩), S (⟨#[]⟩), I 0, .r (.v (.slice none 0 0)), Bo false, I 0, .r (.v (.slice none 0 0))]), (3, .obj b3 [I a.kind, I a.node, I a.at_, I a.limit, I a.command.op, I a.command.token, I a.command.seq, S a.command.key, S a.command.val, I a.command.ver, .w (sl 1 cI a.conf) (g5 0 0), Bo a.cut, I a.whole, .r (.v (.slice none 0 0))])] rfl (Le.c rfl <| Le.c rfl <| Le.c rfl <| Le.e) ?_
  refine CW.seq ?_
  refine CW.region ?_
  refine RW.v rfl (V.field rfl rfl rfl rfl (by decide) rfl) ?_
  refine RW.v rfl (V.loadPrim (d := .r (sl 1 cI a.left)) rfl rfl (.inr ⟨_, rfl⟩) rfl rfl rfl) ?_
  refine RW.call rfl (laws_toIntS_fn a.left hs.2.1) rfl (.cons (.one (.r .r)) (.nil)) fun g6 => ?_
  refine RW.v rfl (V.field rfl rfl rfl rfl (by decide) rfl) ?_
  refine RW.store (d := .al 32 none 1 a.left.length (g6 0 0) 0) rfl rfl rfl rfl rfl rfl rfl (Nat.le_of_ble_eq_true rfl) rfl rfl ?_
  refine RW.pullT (k := 3) (l := 32) (j := 13) 3 32 13 rfl rfl rfl (by decide) rfl rfl rfl ?_
  refine RW.nil ?_
  refine CW.le [(2, .obj b2 [I 0, I 0, I 0, I 0, I 0, I 0, I 0, S (⟨#[]⟩), S (⟨#[]⟩), I 0, .r (.v (.slice none 0 0)), Bo false, I 0, .r (.v (.slice none 0 0))]), (3, .obj b3 [I a.kind, I a.node, I a.at_, I a.limit, I a.command.op, I a.command.token, I a.command.seq, S a.command.key, S a.command.val, I a.command.ver, .w (sl 1 cI a.conf) (g5 0 0), Bo a.cut, I a.whole, .w (sl 1 cI a.left) (g6 0 0)])] rfl (Le.c rfl <| Le.c rfl <| Le.e) ?_
  refine CW.seq ?_
  refine CW.region ?_
  refine RW.v rfl (V.loadAgg rfl rfl rfl rfl rfl (Nat.le_of_ble_eq_true rfl)) ?_
  refine RW.storeAgg (es := [I a.kind, I a.node, I a.at_, I a.limit, I a.command.op, I a.command.token, I a.command.seq, S a.command.key, S a.command.val, I a.command.ver, .al 3 (some 10) 1 a.conf.length (g5 0 0) 0, Bo a.cut, I a.whole, .al 3 (some 13) 1 a.left.length (g6 0 0) 0]) rfl rfl rfl rfl rfl rfl rfl rfl (Nat.le_of_ble_eq_true rfl) rfl ?_
  refine RW.pullO (k := 2) (l := 3) (j := 10) 2 3 10 rfl rfl rfl (by decide) rfl rfl rfl rfl ?_
  refine RW.pullO (k := 2) (l := 3) (j := 13) 2 3 13 rfl rfl rfl (by decide) rfl rfl rfl rfl ?_
  refine RW.nil ?_
  refine CW.le [(2, .obj b2 [I a.kind, I a.node, I a.at_, I a.limit, I a.command.op, I a.command.token, I a.command.seq, S a.command.key, S a.command.val, I a.command.ver, .w (sl 1 cI a.conf) (g5 0 0), Bo a.cut, I a.whole, .w (sl 1 cI a.left) (g6 0 0)])] rfl (Le.c rfl <| Le.e) ?_
  refine CW.ret ?_
  exact Post.cell rfl rfl rfl rfl (DT.v (DT.v (DT.v (DT.v (DT.v (DT.v (DT.v (DT.v (DT.v (DT.v (DT.w (DT.v (DT.v (DT.w DT.e)))))))))))))) (AOs.a rfl AOs.e)
set_option maxHeartbeats 4000000 in
theorem laws_eqCommand_fn (a : Command) (b : Command) : Eng.Fn E.P 61 [.agg ((Command.c a).map .r), .agg ((Command.c b).map .r)] (.one (.one (.w (.v (.bool (eqCommand a b)))))) [.agg ((Command.c a).map .r), .agg ((Command.c b).map .r)] := by
  refine Eng.Fn.intro (E := E) (rvs := [.tmp 4]) Try.func61 rfl rfl rfl (by simp [outSlots, moved, rvSlot]) ?_
  intro B g bo
  refine CW.le [(0, .agg ((Command.c a).map .r)), (1, .agg ((Command.c b).map .r))] rfl (Le.c rfl <| Le.c rfl <| Le.e) ?_
  refine CW.seq ?_
  refine CW.region ?_
  refine RW.box (ds := ((Command.c a).map .r)) rfl rfl rfl fun b1 => ?_
  refine RW.box (ds := ((Command.c b).map .r)) rfl rfl rfl fun b2 => ?_
  refine RW.v rfl (V.as (d := Bo false) rfl rfl) ?_
  refine RW.nil ?_
  refine CW.le [(2, .obj b1 ((Command.c a).map .r)), (3, .obj b2 ((Command.c b).map .r))] rfl (Le.c rfl <| Le.c rfl <| Le.e) ?_
  refine CW.seq ?_
  refine CW.seq ?_
  refine CW.region ?_
  refine RW.v rfl (V.field rfl rfl rfl rfl (by decide) rfl) ?_
  refine RW.v rfl (V.loadPrim (d := I a.op) rfl rfl (.inl rfl) rfl rfl rfl) ?_
  refine RW.v rfl (V.field rfl rfl rfl rfl (by decide) rfl) ?_
  refine RW.v rfl (V.loadPrim (d := I b.op) rfl rfl (.inl rfl) rfl rfl rfl) ?_
  refine RW.v rfl (V.cmpInt rfl rfl rfl rfl) ?_
  refine RW.nil ?_
  refine CW.le [(2, .obj b1 ((Command.c a).map .r)), (3, .obj b2 ((Command.c b).map .r)), (9, Bo (a.op != b.op))] rfl (Le.c rfl <| Le.c rfl <| Le.c rfl <| Le.e) ?_
  refine CW.cond rfl (fun h3 => ?_) (fun h3 => ?_)
  · skip
    refine CW.seq ?_
    refine CW.region ?_
    refine RW.v rfl (V.as (d := Bo false) rfl rfl) ?_
    refine RW.nil ?_
    refine CW.le [(4, Bo false)] rfl (Le.c rfl <| Le.e) ?_
    refine CW.ret ?_
    exact Post.bool rfl (by simp_all [eqCommand]) (AOs.a rfl (AOs.a rfl AOs.e))
  · skip
    refine CW.skip ?_
    refine CW.le [(2, .obj b1 ((Command.c a).map .r)), (3, .obj b2 ((Command.c b).map .r))] rfl (Le.c rfl <| Le.c rfl <| Le.e) ?_
    refine CW.seq ?_
    refine CW.seq ?_
    refine CW.region ?_
    refine RW.v rfl (V.field rfl rfl rfl rfl (by decide) rfl) ?_
    refine RW.v rfl (V.loadPrim (d := I a.token) rfl rfl (.inl rfl) rfl rfl rfl) ?_
    refine RW.v rfl (V.field rfl rfl rfl rfl (by decide) rfl) ?_
    refine RW.v rfl (V.loadPrim (d := I b.token) rfl rfl (.inl rfl) rfl rfl rfl) ?_
    refine RW.v rfl (V.cmpInt rfl rfl rfl rfl) ?_
    refine RW.nil ?_
    refine CW.le [(2, .obj b1 ((Command.c a).map .r)), (3, .obj b2 ((Command.c b).map .r)), (14, Bo (a.token != b.token))] rfl (Le.c rfl <| Le.c rfl <| Le.c rfl <| Le.e) ?_
    refine CW.cond rfl (fun h4 => ?_) (fun h4 => ?_)
    · skip
      refine CW.seq ?_
      refine CW.region ?_
      refine RW.v rfl (V.as (d := Bo false) rfl rfl) ?_
      refine RW.nil ?_
      refine CW.le [(4, Bo false)] rfl (Le.c rfl <| Le.e) ?_
      refine CW.ret ?_
      exact Post.bool rfl (by simp_all [eqCommand]) (AOs.a rfl (AOs.a rfl AOs.e))
    · skip
      refine CW.skip ?_
      refine CW.le [(2, .obj b1 ((Command.c a).map .r)), (3, .obj b2 ((Command.c b).map .r))] rfl (Le.c rfl <| Le.c rfl <| Le.e) ?_
      refine CW.seq ?_
      refine CW.seq ?_
      refine CW.region ?_
      refine RW.v rfl (V.field rfl rfl rfl rfl (by decide) rfl) ?_
      refine RW.v rfl (V.loadPrim (d := I a.seq) rfl rfl (.inl rfl) rfl rfl rfl) ?_
      refine RW.v rfl (V.field rfl rfl rfl rfl (by decide) rfl) ?_
      refine RW.v rfl (V.loadPrim (d := I b.seq) rfl rfl (.inl rfl) rfl rfl rfl) ?_
      refine RW.v rfl (V.cmpInt rfl rfl rfl rfl) ?_
      refine RW.nil ?_
      refine CW.le [(2, .obj b1 ((Command.c a).map .r)), (3, .obj b2 ((Command.c b).map .r)), (19, Bo (a.seq != b.seq))] rfl (Le.c rfl <| Le.c rfl <| Le.c rfl <| Le.e) ?_
      refine CW.cond rfl (fun h5 => ?_) (fun h5 => ?_)
      · skip
        refine CW.seq ?_
        refine CW.region ?_
        refine RW.v rfl (V.as (d := Bo false) rfl rfl) ?_
        refine RW.nil ?_
        refine CW.le [(4, Bo false)] rfl (Le.c rfl <| Le.e) ?_
        refine CW.ret ?_
        exact Post.bool rfl (by simp_all [eqCommand]) (AOs.a rfl (AOs.a rfl AOs.e))
      · skip
        refine CW.skip ?_
        refine CW.le [(2, .obj b1 ((Command.c a).map .r)), (3, .obj b2 ((Command.c b).map .r))] rfl (Le.c rfl <| Le.c rfl <| Le.e) ?_
        refine CW.seq ?_
        refine CW.seq ?_
        refine CW.region ?_
        refine RW.v rfl (V.field rfl rfl rfl rfl (by decide) rfl) ?_
        refine RW.v rfl (V.loadPrim (d := S a.key) rfl rfl (.inl rfl) rfl rfl rfl) ?_
        refine RW.v rfl (V.field rfl rfl rfl rfl (by decide) rfl) ?_
        refine RW.v rfl (V.loadPrim (d := S b.key) rfl rfl (.inl rfl) rfl rfl rfl) ?_
        refine RW.v rfl (V.strCmp rfl rfl rfl rfl) ?_
        refine RW.nil ?_
        refine CW.le [(2, .obj b1 ((Command.c a).map .r)), (3, .obj b2 ((Command.c b).map .r)), (24, Bo (!(a.key.toList == b.key.toList)))] rfl (Le.c rfl <| Le.c rfl <| Le.c rfl <| Le.e) ?_
        refine CW.cond rfl (fun h6 => ?_) (fun h6 => ?_)
        · skip
          refine CW.seq ?_
          refine CW.region ?_
          refine RW.v rfl (V.as (d := Bo false) rfl rfl) ?_
          refine RW.nil ?_
          refine CW.le [(4, Bo false)] rfl (Le.c rfl <| Le.e) ?_
          refine CW.ret ?_
          exact Post.bool rfl (by simp_all [eqCommand]) (AOs.a rfl (AOs.a rfl AOs.e))
        · skip
          refine CW.skip ?_
          refine CW.le [(2, .obj b1 ((Command.c a).map .r)), (3, .obj b2 ((Command.c b).map .r))] rfl (Le.c rfl <| Le.c rfl <| Le.e) ?_
          refine CW.seq ?_
          refine CW.seq ?_
          refine CW.region ?_
          refine RW.v rfl (V.field rfl rfl rfl rfl (by decide) rfl) ?_
          refine RW.v rfl (V.loadPrim (d := S a.val) rfl rfl (.inl rfl) rfl rfl rfl) ?_
          refine RW.v rfl (V.field rfl rfl rfl rfl (by decide) rfl) ?_
          refine RW.v rfl (V.loadPrim (d := S b.val) rfl rfl (.inl rfl) rfl rfl rfl) ?_
          refine RW.v rfl (V.strCmp rfl rfl rfl rfl) ?_
          refine RW.nil ?_
          refine CW.le [(2, .obj b1 ((Command.c a).map .r)), (3, .obj b2 ((Command.c b).map .r)), (29, Bo (!(a.val.toList == b.val.toList)))] rfl (Le.c rfl <| Le.c rfl <| Le.c rfl <| Le.e) ?_
          refine CW.cond rfl (fun h7 => ?_) (fun h7 => ?_)
          · skip
            refine CW.seq ?_
            refine CW.region ?_
            refine RW.v rfl (V.as (d := Bo false) rfl rfl) ?_
            refine RW.nil ?_
            refine CW.le [(4, Bo false)] rfl (Le.c rfl <| Le.e) ?_
            refine CW.ret ?_
            exact Post.bool rfl (by simp_all [eqCommand]) (AOs.a rfl (AOs.a rfl AOs.e))
          · skip
            refine CW.skip ?_
            refine CW.le [(2, .obj b1 ((Command.c a).map .r)), (3, .obj b2 ((Command.c b).map .r))] rfl (Le.c rfl <| Le.c rfl <| Le.e) ?_
            refine CW.seq ?_
            refine CW.seq ?_
            refine CW.region ?_
            refine RW.v rfl (V.field rfl rfl rfl rfl (by decide) rfl) ?_
            refine RW.v rfl (V.loadPrim (d := I a.ver) rfl rfl (.inl rfl) rfl rfl rfl) ?_
            refine RW.v rfl (V.field rfl rfl rfl rfl (by decide) rfl) ?_
            refine RW.v rfl (V.loadPrim (d := I b.ver) rfl rfl (.inl rfl) rfl rfl rfl) ?_
            refine RW.v rfl (V.cmpInt rfl rfl rfl rfl) ?_
            refine RW.nil ?_
            refine CW.le [(34, Bo (a.ver != b.ver))] rfl (Le.c rfl <| Le.e) ?_
            refine CW.cond rfl (fun h8 => ?_) (fun h8 => ?_)
            · skip
              refine CW.seq ?_
              refine CW.region ?_
              refine RW.v rfl (V.as (d := Bo false) rfl rfl) ?_
              refine RW.nil ?_
              refine CW.le [(4, Bo false)] rfl (Le.c rfl <| Le.e) ?_
              refine CW.ret ?_
              exact Post.bool rfl (by simp_all [eqCommand]) (AOs.a rfl (AOs.a rfl AOs.e))
            · skip
              refine CW.skip ?_
              refine CW.le [] rfl (Le.e) ?_
              refine CW.seq ?_
              refine CW.region ?_
              refine RW.v rfl (V.as (d := Bo true) rfl rfl) ?_
              refine RW.nil ?_
              refine CW.le [(4, Bo true)] rfl (Le.c rfl <| Le.e) ?_
              refine CW.ret ?_
              exact Post.bool rfl (by simp_all [eqCommand]) (AOs.a rfl (AOs.a rfl AOs.e))
set_option maxHeartbeats 4000000 in
theorem laws_eqIntS_fn (a : List Int) (b : List Int) : Eng.Fn E.P 62 [.one (.r (sl 1 cI a)), .one (.r (sl 1 cI b))] (.one (.one (.w (.v (.bool (eqS eqI a b)))))) [.one (.r (sl 1 cI a)), .one (.r (sl 1 cI b))] := by
  refine Eng.Fn.intro (E := E) (rvs := [.tmp 4]) Try.func62 rfl rfl rfl (by simp [outSlots, moved, rvSlot]) ?_
  intro B g bo
  refine CW.bound (x := .tmp 0) (n := a.length) (AsT.r) (fun hl0 => ?_)
  refine CW.bound (x := .tmp 1) (n := b.length) (AsT.r) (fun hl1 => ?_)
  refine CW.le [(0, .r (sl 1 cI a)), (1, .r (sl 1 cI b))] rfl (Le.c rfl <| Le.c rfl <| Le.e) ?_
  refine CW.seq ?_
  refine CW.region ?_
  refine RW.v rfl (V.as (d := Bo false) rfl rfl) ?_
  refine RW.nil ?_
  refine CW.le [(0, .r (sl 1 cI a)), (1, .r (sl 1 cI b))] rfl (Le.c rfl <| Le.c rfl <| Le.e) ?_
  refine CW.seq ?_
  refine CW.seq ?_
  refine CW.region ?_
  refine RW.v rfl (V.mv (d := .r (sl 1 cI a)) rfl rfl) ?_
  refine RW.v rfl (V.lenT (n := a.length) rfl rfl rfl .r) ?_
  refine RW.v rfl (V.mv (d := .r (sl 1 cI b)) rfl rfl) ?_
  refine RW.v rfl (V.lenT (n := b.length) rfl rfl rfl .r) ?_
  refine RW.v rfl (V.cmpInt rfl rfl rfl rfl) ?_
  refine RW.nil ?_
  refine CW.le [(0, .r (sl 1 cI a)), (1, .r (sl 1 cI b)), (10, Bo ((a.length : Int) != (b.length : Int)))] rfl (Le.c rfl <| Le.c rfl <| Le.c rfl <| Le.e) ?_
  refine CW.cond rfl (fun h1 => ?_) (fun h1 => ?_)
  · skip
    refine CW.seq ?_
    refine CW.region ?_
    refine RW.v rfl (V.as (d := Bo false) rfl rfl) ?_
    refine RW.nil ?_
    refine CW.le [(4, Bo false)] rfl (Le.c rfl <| Le.e) ?_
    refine CW.ret ?_
    exact Post.bool rfl (by first | (simp_all [eqS, eqI, eqStr, eqB]; done) | exact (eqS_ne (by simp_all; omega)).symm) (AOs.r (AOs.r AOs.e))
  · skip
    refine CW.skip ?_
    refine CW.le [(0, .r (sl 1 cI a)), (1, .r (sl 1 cI b))] rfl (Le.c rfl <| Le.c rfl <| Le.e) ?_
    refine CW.seq ?_
    refine CW.seq ?_
    refine CW.region ?_
    refine RW.v rfl (V.as (d := I 0) rfl rfl) ?_
    refine RW.nil ?_
    refine CW.le [(0, .r (sl 1 cI a)), (1, .r (sl 1 cI b)), (5, I 0)] rfl (Le.c rfl <| Le.c rfl <| Le.c rfl <| Le.e) ?_
    refine CW.block ?_
    refine CW.loopI 26 (fun (i : Nat) => [(0, .r (sl 1 cI a)), (1, .r (sl 1 cI b)), (5, I (i : Int))]) (fun (i : Nat) => i ≤ a.length ∧ eqS eqI (a.drop i) (b.drop i) = eqS eqI a b) (fun (i : Nat) => a.length - i) 0 rfl (Le.c rfl <| Le.c rfl <| Le.c rfl <| Le.e) ⟨by omega, by simp⟩ ?_
    rintro i ⟨hb, hr⟩
    have hlen : a.length = b.length := by simp at h1; omega
    refine CW.seq ?_
    refine CW.seq ?_
    refine CW.region ?_
    refine RW.v rfl (V.mv (d := I (i : Int)) rfl rfl) ?_
    refine RW.v rfl (V.mv (d := .r (sl 1 cI a)) rfl rfl) ?_
    refine RW.v rfl (V.lenT (n := a.length) rfl rfl rfl .r) ?_
    refine RW.v rfl (V.cmpInt rfl rfl rfl rfl) ?_
    refine RW.nil ?_
    refine CW.le [(0, .r (sl 1 cI a)), (1, .r (sl 1 cI b)), (5, I (i : Int)), (14, Bo (decide ((i : Int) < (a.length : Int))))] rfl (Le.c rfl <| Le.c rfl <| Le.c rfl <| Le.c rfl <| Le.e) ?_
    refine CW.cond rfl (fun h2 => ?_) (fun h2 => ?_)
    · skip
      have hii : i < a.length := by have := h2; simp at this; first | exact this | (simp; omega)
      obtain ⟨ei, hei⟩ : ∃ e, a[i]? = some e := ⟨_, List.getElem?_eq_getElem hii⟩
      have hdi := drop_get hei
      have hib : i < b.length := by omega
      obtain ⟨eb, heb⟩ : ∃ e, b[i]? = some e := ⟨_, List.getElem?_eq_getElem hib⟩
      have hdb := drop_get heb
      refine CW.skip ?_
      refine CW.le [(0, .r (sl 1 cI a)), (1, .r (sl 1 cI b)), (5, I (i : Int))] rfl (Le.c rfl <| Le.c rfl <| Le.c rfl <| Le.e) ?_
      refine CW.seq ?_
      refine CW.block ?_
      refine CW.seq ?_
      refine CW.drawn (by kernel_rfl) ?_
      refine RQ.v rfl (V.mv (d := .r (sl 1 cI a)) rfl rfl) ?_
      refine RQ.v rfl (V.mv (d := I (i : Int)) rfl rfl) ?_
      refine RQ.v rfl (V.indexS rfl rfl rfl rfl rfl rfl cI.len hei) ?_
      refine RQ.v rfl (V.loadPrimR (t0 := .v (.int .i64 ei)) rfl rfl (.inl rfl) rfl rfl) ?_
      refine RQ.v rfl (V.mv (d := .r (sl 1 cI b)) rfl rfl) ?_
      refine RQ.v rfl (V.mv (d := I (i : Int)) rfl rfl) ?_
      refine RQ.v rfl (V.indexS rfl rfl rfl rfl rfl rfl cI.len heb) ?_
      refine RQ.v rfl (V.loadPrimR (t0 := .v (.int .i64 eb)) rfl rfl (.inl rfl) rfl rfl) ?_
      refine RQ.v rfl (V.cmpInt rfl rfl rfl rfl) ?_
      refine RQ.nil ?_
      refine CW.le [(0, .r (sl 1 cI a)), (1, .r (sl 1 cI b)), (5, I (i : Int)), (25, Bo (ei != eb))] rfl (Le.c rfl <| Le.c rfl <| Le.c rfl <| Le.c rfl <| Le.e) ?_
      refine CW.cond rfl (fun h3 => ?_) (fun h3 => ?_)
      · skip
        refine CW.seq ?_
        refine CW.region ?_
        refine RW.v rfl (V.as (d := Bo false) rfl rfl) ?_
        refine RW.nil ?_
        refine CW.le [(4, Bo false)] rfl (Le.c rfl <| Le.e) ?_
        refine CW.ret ?_
        exact Post.bool rfl (by first | (simp_all [eqS, eqI, eqStr, eqB]; done) | exact (eqS_ne (by simp_all; omega)).symm) (AOs.r (AOs.r AOs.e))
      · skip
        refine CW.skip ?_
        refine CW.le [(0, .r (sl 1 cI a)), (1, .r (sl 1 cI b)), (5, I (i : Int))] rfl (Le.c rfl <| Le.c rfl <| Le.c rfl <| Le.e) ?_
        refine CW.region ?_
        refine RW.v rfl (V.mv (d := I (i : Int)) rfl rfl) ?_
        refine RW.v rfl (V.inc rfl rfl rfl hii hl0) ?_
        refine RW.v rfl (V.as (d := I ((i + 1 : Nat) : Int)) rfl rfl) ?_
        refine RW.nil ?_
        exact ⟨i + 1, by omega, ⟨by omega, by simp_all [eqS, eqI, eqStr, eqB]⟩, rfl, Le.c rfl <| Le.c rfl <| Le.c rfl <| Le.e⟩
    · skip
      have hii : a.length ≤ i := by have := h2; simp at this; first | exact this | (simp; omega)
      have hdi : a.drop i = [] := List.drop_eq_nil_of_le hii
      refine CW.exit ?_
      refine CW.le [] rfl (Le.e) ?_
      refine CW.seq ?_
      refine CW.region ?_
      refine RW.v rfl (V.as (d := Bo true) rfl rfl) ?_
      refine RW.nil ?_
      refine CW.le [(4, Bo true)] rfl (Le.c rfl <| Le.e) ?_
      refine CW.ret ?_
      exact Post.bool rfl (by rw [← hr, hdi, List.drop_eq_nil_of_le (show b.length ≤ i by omega)]; rfl) (AOs.r (AOs.r AOs.e))
set_option maxHeartbeats 4000000 in
theorem laws_eqHappen_fn (a : Happen) (b : Happen) : Eng.Fn E.P 36 [.agg ((Happen.c a).map .r), .agg ((Happen.c b).map .r)] (.one (.one (.w (.v (.bool (eqHappen a b)))))) [.agg ((Happen.c a).map .r), .agg ((Happen.c b).map .r)] := by
  refine Eng.Fn.intro (E := E) (rvs := [.tmp 4]) Try.func36 rfl rfl rfl (by simp [outSlots, moved, rvSlot]) ?_
  intro B g bo
  refine CW.le [(0, .agg ((Happen.c a).map .r)), (1, .agg ((Happen.c b).map .r))] rfl (Le.c rfl <| Le.c rfl <| Le.e) ?_
  refine CW.seq ?_
  refine CW.region ?_
  refine RW.box (ds := ((Happen.c a).map .r)) rfl rfl rfl fun b1 => ?_
  refine RW.box (ds := ((Happen.c b).map .r)) rfl rfl rfl fun b2 => ?_
  refine RW.v rfl (V.as (d := Bo false) rfl rfl) ?_
  refine RW.nil ?_
  refine CW.le [(2, .obj b1 ((Happen.c a).map .r)), (3, .obj b2 ((Happen.c b).map .r))] rfl (Le.c rfl <| Le.c rfl <| Le.e) ?_
  refine CW.seq ?_
  refine CW.seq ?_
  refine CW.region ?_
  refine RW.v rfl (V.field rfl rfl rfl rfl (by decide) rfl) ?_
  refine RW.v rfl (V.loadPrim (d := I a.kind) rfl rfl (.inl rfl) rfl rfl rfl) ?_
  refine RW.v rfl (V.field rfl rfl rfl rfl (by decide) rfl) ?_
  refine RW.v rfl (V.loadPrim (d := I b.kind) rfl rfl (.inl rfl) rfl rfl rfl) ?_
  refine RW.v rfl (V.cmpInt rfl rfl rfl rfl) ?_
  refine RW.nil ?_
  refine CW.le [(2, .obj b1 ((Happen.c a).map .r)), (3, .obj b2 ((Happen.c b).map .r)), (9, Bo (a.kind != b.kind))] rfl (Le.c rfl <| Le.c rfl <| Le.c rfl <| Le.e) ?_
  refine CW.cond rfl (fun h3 => ?_) (fun h3 => ?_)
  · skip
    refine CW.seq ?_
    refine CW.region ?_
    refine RW.v rfl (V.as (d := Bo false) rfl rfl) ?_
    refine RW.nil ?_
    refine CW.le [(4, Bo false)] rfl (Le.c rfl <| Le.e) ?_
    refine CW.ret ?_
    exact Post.bool rfl (by simp_all [eqHappen]) (AOs.a rfl (AOs.a rfl AOs.e))
  · skip
    refine CW.skip ?_
    refine CW.le [(2, .obj b1 ((Happen.c a).map .r)), (3, .obj b2 ((Happen.c b).map .r))] rfl (Le.c rfl <| Le.c rfl <| Le.e) ?_
    refine CW.seq ?_
    refine CW.seq ?_
    refine CW.region ?_
    refine RW.v rfl (V.field rfl rfl rfl rfl (by decide) rfl) ?_
    refine RW.v rfl (V.loadPrim (d := I a.node) rfl rfl (.inl rfl) rfl rfl rfl) ?_
    refine RW.v rfl (V.field rfl rfl rfl rfl (by decide) rfl) ?_
    refine RW.v rfl (V.loadPrim (d := I b.node) rfl rfl (.inl rfl) rfl rfl rfl) ?_
    refine RW.v rfl (V.cmpInt rfl rfl rfl rfl) ?_
    refine RW.nil ?_
    refine CW.le [(2, .obj b1 ((Happen.c a).map .r)), (3, .obj b2 ((Happen.c b).map .r)), (14, Bo (a.node != b.node))] rfl (Le.c rfl <| Le.c rfl <| Le.c rfl <| Le.e) ?_
    refine CW.cond rfl (fun h4 => ?_) (fun h4 => ?_)
    · skip
      refine CW.seq ?_
      refine CW.region ?_
      refine RW.v rfl (V.as (d := Bo false) rfl rfl) ?_
      refine RW.nil ?_
      refine CW.le [(4, Bo false)] rfl (Le.c rfl <| Le.e) ?_
      refine CW.ret ?_
      exact Post.bool rfl (by simp_all [eqHappen]) (AOs.a rfl (AOs.a rfl AOs.e))
    · skip
      refine CW.skip ?_
      refine CW.le [(2, .obj b1 ((Happen.c a).map .r)), (3, .obj b2 ((Happen.c b).map .r))] rfl (Le.c rfl <| Le.c rfl <| Le.e) ?_
      refine CW.seq ?_
      refine CW.seq ?_
      refine CW.region ?_
      refine RW.v rfl (V.field rfl rfl rfl rfl (by decide) rfl) ?_
      refine RW.v rfl (V.loadPrim (d := I a.at_) rfl rfl (.inl rfl) rfl rfl rfl) ?_
      refine RW.v rfl (V.field rfl rfl rfl rfl (by decide) rfl) ?_
      refine RW.v rfl (V.loadPrim (d := I b.at_) rfl rfl (.inl rfl) rfl rfl rfl) ?_
      refine RW.v rfl (V.cmpInt rfl rfl rfl rfl) ?_
      refine RW.nil ?_
      refine CW.le [(2, .obj b1 ((Happen.c a).map .r)), (3, .obj b2 ((Happen.c b).map .r)), (19, Bo (a.at_ != b.at_))] rfl (Le.c rfl <| Le.c rfl <| Le.c rfl <| Le.e) ?_
      refine CW.cond rfl (fun h5 => ?_) (fun h5 => ?_)
      · skip
        refine CW.seq ?_
        refine CW.region ?_
        refine RW.v rfl (V.as (d := Bo false) rfl rfl) ?_
        refine RW.nil ?_
        refine CW.le [(4, Bo false)] rfl (Le.c rfl <| Le.e) ?_
        refine CW.ret ?_
        exact Post.bool rfl (by simp_all [eqHappen]) (AOs.a rfl (AOs.a rfl AOs.e))
      · skip
        refine CW.skip ?_
        refine CW.le [(2, .obj b1 ((Happen.c a).map .r)), (3, .obj b2 ((Happen.c b).map .r))] rfl (Le.c rfl <| Le.c rfl <| Le.e) ?_
        refine CW.seq ?_
        refine CW.seq ?_
        refine CW.region ?_
        refine RW.v rfl (V.field rfl rfl rfl rfl (by decide) rfl) ?_
        refine RW.v rfl (V.loadPrim (d := I a.limit) rfl rfl (.inl rfl) rfl rfl rfl) ?_
        refine RW.v rfl (V.field rfl rfl rfl rfl (by decide) rfl) ?_
        refine RW.v rfl (V.loadPrim (d := I b.limit) rfl rfl (.inl rfl) rfl rfl rfl) ?_
        refine RW.v rfl (V.cmpInt rfl rfl rfl rfl) ?_
        refine RW.nil ?_
        refine CW.le [(2, .obj b1 ((Happen.c a).map .r)), (3, .obj b2 ((Happen.c b).map .r)), (24, Bo (a.limit != b.limit))] rfl (Le.c rfl <| Le.c rfl <| Le.c rfl <| Le.e) ?_
        refine CW.cond rfl (fun h6 => ?_) (fun h6 => ?_)
        · skip
          refine CW.seq ?_
          refine CW.region ?_
          refine RW.v rfl (V.as (d := Bo false) rfl rfl) ?_
          refine RW.nil ?_
          refine CW.le [(4, Bo false)] rfl (Le.c rfl <| Le.e) ?_
          refine CW.ret ?_
          exact Post.bool rfl (by simp_all [eqHappen]) (AOs.a rfl (AOs.a rfl AOs.e))
        · skip
          refine CW.skip ?_
          refine CW.le [(2, .obj b1 ((Happen.c a).map .r)), (3, .obj b2 ((Happen.c b).map .r))] rfl (Le.c rfl <| Le.c rfl <| Le.e) ?_
          refine CW.seq ?_
          refine CW.seq ?_
          refine CW.region ?_
          refine RW.v rfl (V.field rfl rfl rfl rfl (by decide) rfl) ?_
          refine RW.v rfl (V.loadAgg rfl rfl rfl rfl rfl (Nat.le_of_ble_eq_true rfl)) ?_
          refine RW.v rfl (V.field rfl rfl rfl rfl (by decide) rfl) ?_
          refine RW.v rfl (V.loadAgg rfl rfl rfl rfl rfl (Nat.le_of_ble_eq_true rfl)) ?_
          refine RW.call rfl (laws_eqCommand_fn a.command b.command) rfl (.cons (.agg (.cons (.r .r) (.cons (.r .r) (.cons (.r .r) (.cons (.r .r) (.cons (.r .r) (.cons (.r .r) (.nil)))))))) (.cons (.agg (.cons (.r .r) (.cons (.r .r) (.cons (.r .r) (.cons (.r .r) (.cons (.r .r) (.cons (.r .r) (.nil)))))))) (.nil))) fun g7 => ?_
          refine RW.v rfl (V.not rfl rfl) ?_
          refine RW.nil ?_
          refine CW.le [(2, .obj b1 ((Happen.c a).map .r)), (3, .obj b2 ((Happen.c b).map .r)), (30, Bo (!(eqCommand a.command b.command)))] rfl (Le.c rfl <| Le.c rfl <| Le.c rfl <| Le.e) ?_
          refine CW.cond rfl (fun h8 => ?_) (fun h8 => ?_)
          · skip
            refine CW.seq ?_
            refine CW.region ?_
            refine RW.v rfl (V.as (d := Bo false) rfl rfl) ?_
            refine RW.nil ?_
            refine CW.le [(4, Bo false)] rfl (Le.c rfl <| Le.e) ?_
            refine CW.ret ?_
            exact Post.bool rfl (by simp_all [eqHappen]) (AOs.a rfl (AOs.a rfl AOs.e))
          · skip
            refine CW.skip ?_
            refine CW.le [(2, .obj b1 ((Happen.c a).map .r)), (3, .obj b2 ((Happen.c b).map .r))] rfl (Le.c rfl <| Le.c rfl <| Le.e) ?_
            refine CW.seq ?_
            refine CW.seq ?_
            refine CW.region ?_
            refine RW.v rfl (V.field rfl rfl rfl rfl (by decide) rfl) ?_
            refine RW.v rfl (V.loadPrim (d := .r (sl 1 cI a.conf)) rfl rfl (.inr ⟨_, rfl⟩) rfl rfl rfl) ?_
            refine RW.v rfl (V.field rfl rfl rfl rfl (by decide) rfl) ?_
            refine RW.v rfl (V.loadPrim (d := .r (sl 1 cI b.conf)) rfl rfl (.inr ⟨_, rfl⟩) rfl rfl rfl) ?_
            refine RW.call rfl (laws_eqIntS_fn a.conf b.conf) rfl (.cons (.one (.r .r)) (.cons (.one (.r .r)) (.nil))) fun g9 => ?_
            refine RW.v rfl (V.not rfl rfl) ?_
            refine RW.nil ?_
            refine CW.le [(2, .obj b1 ((Happen.c a).map .r)), (3, .obj b2 ((Happen.c b).map .r)), (36, Bo (!(eqS eqI a.conf b.conf)))] rfl (Le.c rfl <| Le.c rfl <| Le.c rfl <| Le.e) ?_
            refine CW.cond rfl (fun h10 => ?_) (fun h10 => ?_)
            · skip
              refine CW.seq ?_
              refine CW.region ?_
              refine RW.v rfl (V.as (d := Bo false) rfl rfl) ?_
              refine RW.nil ?_
              refine CW.le [(4, Bo false)] rfl (Le.c rfl <| Le.e) ?_
              refine CW.ret ?_
              exact Post.bool rfl (by simp_all [eqHappen]) (AOs.a rfl (AOs.a rfl AOs.e))
            · skip
              refine CW.skip ?_
              refine CW.le [(2, .obj b1 ((Happen.c a).map .r)), (3, .obj b2 ((Happen.c b).map .r))] rfl (Le.c rfl <| Le.c rfl <| Le.e) ?_
              refine CW.seq ?_
              refine CW.seq ?_
              refine CW.region ?_
              refine RW.v rfl (V.field rfl rfl rfl rfl (by decide) rfl) ?_
              refine RW.v rfl (V.loadPrim (d := Bo a.cut) rfl rfl (.inl rfl) rfl rfl rfl) ?_
              refine RW.v rfl (V.field rfl rfl rfl rfl (by decide) rfl) ?_
              refine RW.v rfl (V.loadPrim (d := Bo b.cut) rfl rfl (.inl rfl) rfl rfl rfl) ?_
              refine RW.v rfl (V.eqBool rfl rfl rfl (by kernel_rfl) (.inr ⟨rfl, rfl⟩)) ?_
              refine RW.nil ?_
              refine CW.le [(2, .obj b1 ((Happen.c a).map .r)), (3, .obj b2 ((Happen.c b).map .r)), (41, Bo (!(a.cut == b.cut)))] rfl (Le.c rfl <| Le.c rfl <| Le.c rfl <| Le.e) ?_
              refine CW.cond rfl (fun h11 => ?_) (fun h11 => ?_)
              · skip
                refine CW.seq ?_
                refine CW.region ?_
                refine RW.v rfl (V.as (d := Bo false) rfl rfl) ?_
                refine RW.nil ?_
                refine CW.le [(4, Bo false)] rfl (Le.c rfl <| Le.e) ?_
                refine CW.ret ?_
                exact Post.bool rfl (by simp_all [eqHappen]) (AOs.a rfl (AOs.a rfl AOs.e))
              · skip
                refine CW.skip ?_
                refine CW.le [(2, .obj b1 ((Happen.c a).map .r)), (3, .obj b2 ((Happen.c b).map .r))] rfl (Le.c rfl <| Le.c rfl <| Le.e) ?_
                refine CW.seq ?_
                refine CW.seq ?_
                refine CW.region ?_
                refine RW.v rfl (V.field rfl rfl rfl rfl (by decide) rfl) ?_
                refine RW.v rfl (V.loadPrim (d := I a.whole) rfl rfl (.inl rfl) rfl rfl rfl) ?_
                refine RW.v rfl (V.field rfl rfl rfl rfl (by decide) rfl) ?_
                refine RW.v rfl (V.loadPrim (d := I b.whole) rfl rfl (.inl rfl) rfl rfl rfl) ?_
                refine RW.v rfl (V.cmpInt rfl rfl rfl rfl) ?_
                refine RW.nil ?_
                refine CW.le [(2, .obj b1 ((Happen.c a).map .r)), (3, .obj b2 ((Happen.c b).map .r)), (46, Bo (a.whole != b.whole))] rfl (Le.c rfl <| Le.c rfl <| Le.c rfl <| Le.e) ?_
                refine CW.cond rfl (fun h12 => ?_) (fun h12 => ?_)
                · skip
                  refine CW.seq ?_
                  refine CW.region ?_
                  refine RW.v rfl (V.as (d := Bo false) rfl rfl) ?_
                  refine RW.nil ?_
                  refine CW.le [(4, Bo false)] rfl (Le.c rfl <| Le.e) ?_
                  refine CW.ret ?_
                  exact Post.bool rfl (by simp_all [eqHappen]) (AOs.a rfl (AOs.a rfl AOs.e))
                · skip
                  refine CW.skip ?_
                  refine CW.le [(2, .obj b1 ((Happen.c a).map .r)), (3, .obj b2 ((Happen.c b).map .r))] rfl (Le.c rfl <| Le.c rfl <| Le.e) ?_
                  refine CW.seq ?_
                  refine CW.seq ?_
                  refine CW.region ?_
                  refine RW.v rfl (V.field rfl rfl rfl rfl (by decide) rfl) ?_
                  refine RW.v rfl (V.loadPrim (d := .r (sl 1 cI a.left)) rfl rfl (.inr ⟨_, rfl⟩) rfl rfl rfl) ?_
                  refine RW.v rfl (V.field rfl rfl rfl rfl (by decide) rfl) ?_
                  refine RW.v rfl (V.loadPrim (d := .r (sl 1 cI b.left)) rfl rfl (.inr ⟨_, rfl⟩) rfl rfl rfl) ?_
                  refine RW.call rfl (laws_eqIntS_fn a.left b.left) rfl (.cons (.one (.r .r)) (.cons (.one (.r .r)) (.nil))) fun g13 => ?_
                  refine RW.v rfl (V.not rfl rfl) ?_
                  refine RW.nil ?_
                  refine CW.le [(52, Bo (!(eqS eqI a.left b.left)))] rfl (Le.c rfl <| Le.e) ?_
                  refine CW.cond rfl (fun h14 => ?_) (fun h14 => ?_)
                  · skip
                    refine CW.seq ?_
                    refine CW.region ?_
                    refine RW.v rfl (V.as (d := Bo false) rfl rfl) ?_
                    refine RW.nil ?_
                    refine CW.le [(4, Bo false)] rfl (Le.c rfl <| Le.e) ?_
                    refine CW.ret ?_
                    exact Post.bool rfl (by simp_all [eqHappen]) (AOs.a rfl (AOs.a rfl AOs.e))
                  · skip
                    refine CW.skip ?_
                    refine CW.le [] rfl (Le.e) ?_
                    refine CW.seq ?_
                    refine CW.region ?_
                    refine RW.v rfl (V.as (d := Bo true) rfl rfl) ?_
                    refine RW.nil ?_
                    refine CW.le [(4, Bo true)] rfl (Le.c rfl <| Le.e) ?_
                    refine CW.ret ?_
                    exact Post.bool rfl (by simp_all [eqHappen]) (AOs.a rfl (AOs.a rfl AOs.e))
set_option maxHeartbeats 4000000 in
theorem spec_l01In_fn (n : Int) (x : Int) (y : Int) : Eng.Fn E.P 52 [.one (.r (.v (.int .i64 n))), .one (.r (.v (.int .i64 x))), .one (.r (.v (.int .i64 y)))] (.one (.one (.w (.v (.bool (inR n x y)))))) [.one (.r (.v (.int .i64 n))), .one (.r (.v (.int .i64 x))), .one (.r (.v (.int .i64 y)))] := by
  refine Eng.Fn.intro (E := E) (rvs := [.tmp 6]) Try.func52 rfl rfl rfl (by simp [outSlots, moved, rvSlot]) ?_
  intro B g bo
  refine CW.le [(0, I n), (1, I x), (2, I y)] rfl (Le.c rfl <| Le.c rfl <| Le.c rfl <| Le.e) ?_
  refine CW.seq ?_
  refine CW.region ?_
  refine RW.v rfl (V.as (d := Bo false) rfl rfl) ?_
  refine RW.nil ?_
  refine CW.le [(0, I n), (1, I x), (2, I y)] rfl (Le.c rfl <| Le.c rfl <| Le.c rfl <| Le.e) ?_
  refine CW.seqJ 15 (fun (v1 : Bool) => [(6, Bo v1)]) (fun v1 => v1 = (decide (n ≥ x) && decide (n ≤ y))) ?_ ?_
  · refine CW.region ?_
    refine RW.v rfl (V.mv (d := I n) rfl rfl) ?_
    refine RW.v rfl (V.mv (d := I x) rfl rfl) ?_
    refine RW.v rfl (V.cmpInt rfl rfl rfl rfl) ?_
    refine RW.v rfl (V.mv (d := Bo (decide (n ≥ x))) rfl rfl) ?_
    refine RW.gv rfl rfl rfl rfl (fun h2 => V.mv (d := I n) rfl rfl) (fun h2 => ?_) (fun h2 => ?_)
    · skip
      refine RW.gt rfl rfl rfl rfl (V.mv (d := I y) rfl rfl) ?_
      refine RW.gt rfl rfl rfl rfl (V.cmpInt rfl rfl rfl rfl) ?_
      refine RW.v rfl (V.pickT (d := Bo (decide (n ≤ y))) rfl rfl rfl) ?_
      refine RW.v rfl (V.as (d := Bo (decide (n ≤ y))) rfl rfl) ?_
      refine RW.nil ?_
      exact ⟨_, by first | rfl | (simp_all; done) | (simp_all; omega) | grind, rfl, Le.c rfl <| Le.e⟩
    · skip
      refine RW.guardF rfl rfl rfl rfl ?_
      refine RW.guardF rfl rfl rfl rfl ?_
      refine RW.v rfl (V.pickF (d := Bo false) rfl rfl rfl) ?_
      refine RW.v rfl (V.as (d := Bo false) rfl rfl) ?_
      refine RW.nil ?_
      exact ⟨_, by first | rfl | (simp_all; done) | (simp_all; omega) | grind, rfl, Le.c rfl <| Le.e⟩
  · intro v1 hv3
    refine CW.ret ?_
    exact Post.bool rfl (by simp_all [inR]) (AOs.r (AOs.r (AOs.r AOs.e)))
set_option maxHeartbeats 4000000 in
theorem impl_within_fn (n : Int) (x : Int) (y : Int) : Eng.Fn E.P 58 [.one (.r (.v (.int .i64 n))), .one (.r (.v (.int .i64 x))), .one (.r (.v (.int .i64 y)))] (.one (.one (.w (.v (.bool (inR n x y)))))) [.one (.r (.v (.int .i64 n))), .one (.r (.v (.int .i64 x))), .one (.r (.v (.int .i64 y)))] := by
  refine Eng.Fn.intro (E := E) (rvs := [.tmp 6]) Try.func58 rfl rfl rfl (by simp [outSlots, moved, rvSlot]) ?_
  intro B g bo
  refine CW.le [(0, I n), (1, I x), (2, I y)] rfl (Le.c rfl <| Le.c rfl <| Le.c rfl <| Le.e) ?_
  refine CW.seq ?_
  refine CW.region ?_
  refine RW.v rfl (V.as (d := Bo false) rfl rfl) ?_
  refine RW.nil ?_
  refine CW.le [(0, I n), (1, I x), (2, I y)] rfl (Le.c rfl <| Le.c rfl <| Le.c rfl <| Le.e) ?_
  refine CW.seqJ 15 (fun (v1 : Bool) => [(6, Bo v1)]) (fun v1 => v1 = (decide (n ≥ x) && decide (n ≤ y))) ?_ ?_
  · refine CW.region ?_
    refine RW.v rfl (V.mv (d := I n) rfl rfl) ?_
    refine RW.v rfl (V.mv (d := I x) rfl rfl) ?_
    refine RW.v rfl (V.cmpInt rfl rfl rfl rfl) ?_
    refine RW.v rfl (V.mv (d := Bo (decide (n ≥ x))) rfl rfl) ?_
    refine RW.gv rfl rfl rfl rfl (fun h2 => V.mv (d := I n) rfl rfl) (fun h2 => ?_) (fun h2 => ?_)
    · skip
      refine RW.gt rfl rfl rfl rfl (V.mv (d := I y) rfl rfl) ?_
      refine RW.gt rfl rfl rfl rfl (V.cmpInt rfl rfl rfl rfl) ?_
      refine RW.v rfl (V.pickT (d := Bo (decide (n ≤ y))) rfl rfl rfl) ?_
      refine RW.v rfl (V.as (d := Bo (decide (n ≤ y))) rfl rfl) ?_
      refine RW.nil ?_
      exact ⟨_, by first | rfl | (simp_all; done) | (simp_all; omega) | grind, rfl, Le.c rfl <| Le.e⟩
    · skip
      refine RW.guardF rfl rfl rfl rfl ?_
      refine RW.guardF rfl rfl rfl rfl ?_
      refine RW.v rfl (V.pickF (d := Bo false) rfl rfl rfl) ?_
      refine RW.v rfl (V.as (d := Bo false) rfl rfl) ?_
      refine RW.nil ?_
      exact ⟨_, by first | rfl | (simp_all; done) | (simp_all; omega) | grind, rfl, Le.c rfl <| Le.e⟩
  · intro v1 hv3
    refine CW.ret ?_
    exact Post.bool rfl (by simp_all [inR]) (AOs.r (AOs.r (AOs.r AOs.e)))
set_option maxHeartbeats 4000000 in
theorem impl_isNode_fn (n : Int) : Eng.Fn E.P 57 [.one (.r (.v (.int .i64 n)))] (.one (.one (.w (.v (.bool (inR n 1 4)))))) [.one (.r (.v (.int .i64 n)))] := by
  refine Eng.Fn.intro (E := E) (rvs := [.tmp 2]) Try.func57 rfl rfl rfl (by simp [outSlots, moved, rvSlot]) ?_
  intro B g bo
  refine CW.le [(0, I n)] rfl (Le.c rfl <| Le.e) ?_
  refine CW.seq ?_
  refine CW.region ?_
  refine RW.v rfl (V.as (d := Bo false) rfl rfl) ?_
  refine RW.nil ?_
  refine CW.le [(0, I n)] rfl (Le.c rfl <| Le.e) ?_
  refine CW.seq ?_
  refine CW.region ?_
  refine RW.v rfl (V.mv (d := I n) rfl rfl) ?_
  refine RW.call rfl (impl_within_fn n 1 4) rfl (.cons (.one (.r .r)) (.cons (.one (.r .r)) (.cons (.one (.r .r)) (.nil)))) fun g1 => ?_
  refine RW.v rfl (V.as (d := Bo (inR n 1 4)) rfl rfl) ?_
  refine RW.nil ?_
  refine CW.le [(2, Bo (inR n 1 4))] rfl (Le.c rfl <| Le.e) ?_
  refine CW.ret ?_
  exact Post.bool rfl (by rfl) (AOs.r AOs.e)
set_option maxHeartbeats 4000000 in
theorem impl_isIndex_fn (n : Int) : Eng.Fn E.P 69 [.one (.r (.v (.int .i64 n)))] (.one (.one (.w (.v (.bool (inR n 0 1000000)))))) [.one (.r (.v (.int .i64 n)))] := by
  refine Eng.Fn.intro (E := E) (rvs := [.tmp 2]) Try.func69 rfl rfl rfl (by simp [outSlots, moved, rvSlot]) ?_
  intro B g bo
  refine CW.le [(0, I n)] rfl (Le.c rfl <| Le.e) ?_
  refine CW.seq ?_
  refine CW.region ?_
  refine RW.v rfl (V.as (d := Bo false) rfl rfl) ?_
  refine RW.nil ?_
  refine CW.le [(0, I n)] rfl (Le.c rfl <| Le.e) ?_
  refine CW.seq ?_
  refine CW.region ?_
  refine RW.v rfl (V.mv (d := I n) rfl rfl) ?_
  refine RW.call rfl (impl_within_fn n 0 1000000) rfl (.cons (.one (.r .r)) (.cons (.one (.r .r)) (.cons (.one (.r .r)) (.nil)))) fun g1 => ?_
  refine RW.v rfl (V.as (d := Bo (inR n 0 1000000)) rfl rfl) ?_
  refine RW.nil ?_
  refine CW.le [(2, Bo (inR n 0 1000000))] rfl (Le.c rfl <| Le.e) ?_
  refine CW.ret ?_
  exact Post.bool rfl (by rfl) (AOs.r AOs.e)
set_option maxHeartbeats 4000000 in
theorem impl_keyOk_fn (s : ByteArray) : Eng.Fn E.P 70 [.one (.r (.v (.string s)))] (.one (.one (.w (.v (.bool (inR (s.size : Int) 1 8)))))) [.one (.r (.v (.string s)))] := by
  refine Eng.Fn.intro (E := E) (rvs := [.tmp 2]) Try.func70 rfl rfl rfl (by simp [outSlots, moved, rvSlot]) ?_
  intro B g bo
  refine CW.le [(0, S s)] rfl (Le.c rfl <| Le.e) ?_
  refine CW.seq ?_
  refine CW.region ?_
  refine RW.v rfl (V.as (d := Bo false) rfl rfl) ?_
  refine RW.nil ?_
  refine CW.le [(0, S s)] rfl (Le.c rfl <| Le.e) ?_
  refine CW.seq ?_
  refine CW.region ?_
  refine RW.v rfl (V.mv (d := S s) rfl rfl) ?_
  refine RW.v rfl (V.lenStr rfl (by kernel_rfl) rfl) ?_
  refine RW.call rfl (impl_within_fn (s.size : Int) 1 8) rfl (.cons (.one (.r .r)) (.cons (.one (.r .r)) (.cons (.one (.r .r)) (.nil)))) fun g1 => ?_
  refine RW.v rfl (V.as (d := Bo (inR (s.size : Int) 1 8)) rfl rfl) ?_
  refine RW.nil ?_
  refine CW.le [(2, Bo (inR (s.size : Int) 1 8))] rfl (Le.c rfl <| Le.e) ?_
  refine CW.ret ?_
  exact Post.bool rfl (by rfl) (AOs.r AOs.e)
set_option maxHeartbeats 4000000 in
theorem impl_valOk_fn (s : ByteArray) : Eng.Fn E.P 71 [.one (.r (.v (.string s)))] (.one (.one (.w (.v (.bool (decide ((s.size : Int) ≤ 20))))))) [.one (.r (.v (.string s)))] := by
  refine Eng.Fn.intro (E := E) (rvs := [.tmp 2]) Try.func71 rfl rfl rfl (by simp [outSlots, moved, rvSlot]) ?_
  intro B g bo
  refine CW.le [(0, S s)] rfl (Le.c rfl <| Le.e) ?_
  refine CW.seq ?_
  refine CW.region ?_
  refine RW.v rfl (V.as (d := Bo false) rfl rfl) ?_
  refine RW.nil ?_
  refine CW.le [(0, S s)] rfl (Le.c rfl <| Le.e) ?_
  refine CW.seq ?_
  refine CW.region ?_
  refine RW.v rfl (V.mv (d := S s) rfl rfl) ?_
  refine RW.v rfl (V.lenStr rfl (by kernel_rfl) rfl) ?_
  refine RW.v rfl (V.cmpInt rfl rfl rfl rfl) ?_
  refine RW.v rfl (V.as (d := Bo (decide ((s.size : Int) ≤ 20))) rfl rfl) ?_
  refine RW.nil ?_
  refine CW.le [(2, Bo (decide ((s.size : Int) ≤ 20)))] rfl (Le.c rfl <| Le.e) ?_
  refine CW.ret ?_
  exact Post.bool rfl (by rfl) (AOs.r AOs.e)
set_option maxHeartbeats 4000000 in
theorem spec_l05Rise_fn (a : List Int) (lo : Int) (hi : Int) : Eng.Fn E.P 68 [.one (.r (sl 1 cI a)), .one (.r (.v (.int .i64 lo))), .one (.r (.v (.int .i64 hi)))] (.one (.one (.w (.v (.bool (riseOk lo hi none a)))))) [.one (.r (sl 1 cI a)), .one (.r (.v (.int .i64 lo))), .one (.r (.v (.int .i64 hi)))] := by
  refine Eng.Fn.intro (E := E) (rvs := [.tmp 6]) Try.func68 rfl rfl rfl (by simp [outSlots, moved, rvSlot]) ?_
  intro B g bo
  refine CW.bound (x := .tmp 0) (n := a.length) (AsT.r) (fun hl0 => ?_)
  refine CW.le [(0, .r (sl 1 cI a)), (1, I lo), (2, I hi)] rfl (Le.c rfl <| Le.c rfl <| Le.c rfl <| Le.e) ?_
  refine CW.seq ?_
  refine CW.region ?_
  refine RW.v rfl (V.as (d := Bo false) rfl rfl) ?_
  refine RW.nil ?_
  refine CW.le [(0, .r (sl 1 cI a)), (1, I lo), (2, I hi)] rfl (Le.c rfl <| Le.c rfl <| Le.c rfl <| Le.e) ?_
  refine CW.seq ?_
  refine CW.seq ?_
  refine CW.region ?_
  refine RW.v rfl (V.as (d := I 0) rfl rfl) ?_
  refine RW.nil ?_
  refine CW.le [(0, .r (sl 1 cI a)), (1, I lo), (2, I hi), (7, I 0)] rfl (Le.c rfl <| Le.c rfl <| Le.c rfl <| Le.c rfl <| Le.e) ?_
  refine CW.block ?_
  refine CW.loopI 38 (fun (i : Nat) => [(0, .r (sl 1 cI a)), (1, I lo), (2, I hi), (7, I (i : Int))]) (fun (i : Nat) => i ≤ a.length ∧ riseOk lo hi (prevI a i) (a.drop i) = riseOk lo hi none a) (fun (i : Nat) => a.length - i) 0 rfl (Le.c rfl <| Le.c rfl <| Le.c rfl <| Le.c rfl <| Le.e) ⟨by omega, by simp [prevI]⟩ ?_
  rintro i ⟨hb, hr⟩
  refine CW.seq ?_
  refine CW.seq ?_
  refine CW.region ?_
  refine RW.v rfl (V.mv (d := I (i : Int)) rfl rfl) ?_
  refine RW.v rfl (V.mv (d := .r (sl 1 cI a)) rfl rfl) ?_
  refine RW.v rfl (V.lenT (n := a.length) rfl rfl rfl .r) ?_
  refine RW.v rfl (V.cmpInt rfl rfl rfl rfl) ?_
  refine RW.nil ?_
  refine CW.le [(0, .r (sl 1 cI a)), (1, I lo), (2, I hi), (7, I (i : Int)), (11, Bo (decide ((i : Int) < (a.length : Int))))] rfl (Le.c rfl <| Le.c rfl <| Le.c rfl <| Le.c rfl <| Le.c rfl <| Le.e) ?_
  refine CW.cond rfl (fun h1 => ?_) (fun h1 => ?_)
  · skip
    have hii : i < a.length := by have := h1; simp at this; first | exact this | (simp; omega)
    obtain ⟨ei, hei⟩ : ∃ e, a[i]? = some e := ⟨_, List.getElem?_eq_getElem hii⟩
    have hdi := drop_get hei
    refine CW.skip ?_
    refine CW.le [(0, .r (sl 1 cI a)), (1, I lo), (2, I hi), (7, I (i : Int))] rfl (Le.c rfl <| Le.c rfl <| Le.c rfl <| Le.c rfl <| Le.e) ?_
    refine CW.seq ?_
    refine CW.block ?_
    refine CW.seqJ 38 (fun (v2 : Bool) => [(0, .r (sl 1 cI a)), (1, I lo), (2, I hi), (7, I (i : Int)), (37, Bo v2)]) (fun v2 => v2 = ((!(inR ei lo hi)) || (decide ((i : Int) > 0) && decide ((a.getD (i - 1) 0) ≥ ei)))) ?_ ?_
    · refine CW.drawn (by kernel_rfl) ?_
      refine RQ.v rfl (V.mv (d := .r (sl 1 cI a)) rfl rfl) ?_
      refine RQ.v rfl (V.mv (d := I (i : Int)) rfl rfl) ?_
      refine RQ.v rfl (V.indexS rfl rfl rfl rfl rfl rfl cI.len hei) ?_
      refine RQ.v rfl (V.loadPrimR (t0 := .v (.int .i64 ei)) rfl rfl (.inl rfl) rfl rfl) ?_
      refine RQ.v rfl (V.mv (d := I lo) rfl rfl) ?_
      refine RQ.v rfl (V.mv (d := I hi) rfl rfl) ?_
      refine RQ.cons rfl (QOK.call (spec_l01In_fn ei lo hi) rfl (.cons (.one (.r .r)) (.cons (.one (.r .r)) (.cons (.one (.r .r)) (.nil)))) ?_)
      refine RQ.v rfl (V.not rfl rfl) ?_
      refine RQ.v rfl (V.mv (d := Bo (!(inR ei lo hi))) rfl rfl) ?_
      refine RQ.gv rfl rfl rfl rfl (fun h3 => V.mv (d := I (i : Int)) rfl rfl) (fun h3 => ?_) (fun h3 => ?_)
      · skip
        refine RQ.gt rfl rfl rfl rfl (V.cmpInt rfl rfl rfl rfl) ?_
        refine RQ.gt rfl rfl rfl rfl (V.mv (d := Bo (decide ((i : Int) > 0))) rfl rfl) ?_
        refine RQ.gv rfl rfl rfl rfl (fun h4 => V.mv (d := .r (sl 1 cI a)) rfl rfl) (fun h4 => ?_) (fun h4 => ?_)
        · skip
          refine RQ.gt rfl rfl rfl rfl (V.mv (d := I (i : Int)) rfl rfl) ?_
          refine RQ.gt rfl rfl rfl rfl (V.dec (m := i) rfl rfl rfl (by have := h4; simp at this; omega) (by omega)) ?_
          refine RQ.gt rfl rfl rfl rfl (V.indexS rfl rfl rfl rfl rfl rfl cI.len (getD_some (l := a) (j := i - 1) (z := 0) (by omega))) ?_
          refine RQ.gt rfl rfl rfl rfl (V.loadPrimR (t0 := .v (.int .i64 (a.getD (i - 1) 0))) rfl rfl (.inl rfl) rfl rfl) ?_
          refine RQ.gt rfl rfl rfl rfl (V.mv (d := .r (sl 1 cI a)) rfl rfl) ?_
          refine RQ.gt rfl rfl rfl rfl (V.mv (d := I (i : Int)) rfl rfl) ?_
          refine RQ.gt rfl rfl rfl rfl (V.indexS rfl rfl rfl rfl rfl rfl cI.len hei) ?_
          refine RQ.gt rfl rfl rfl rfl (V.loadPrimR (t0 := .v (.int .i64 ei)) rfl rfl (.inl rfl) rfl rfl) ?_
          refine RQ.gt rfl rfl rfl rfl (V.cmpInt rfl rfl rfl rfl) ?_
          refine RQ.gt rfl rfl rfl rfl (V.pickT (d := Bo (decide ((a.getD (i - 1) 0) ≥ ei))) rfl rfl rfl) ?_
          refine RQ.v rfl (V.pickF (d := Bo (decide ((a.getD (i - 1) 0) ≥ ei))) rfl rfl rfl) ?_
          refine RQ.nil ?_
          exact ⟨_, by first | rfl | (simp_all; done) | (simp_all; omega) | grind, rfl, Le.c rfl <| Le.c rfl <| Le.c rfl <| Le.c rfl <| Le.c rfl <| Le.e⟩
        · skip
          refine RQ.guardF rfl rfl rfl rfl ?_
          refine RQ.guardF rfl rfl rfl rfl ?_
          refine RQ.guardF rfl rfl rfl rfl ?_
          refine RQ.guardF rfl rfl rfl rfl ?_
          refine RQ.guardF rfl rfl rfl rfl ?_
          refine RQ.guardF rfl rfl rfl rfl ?_
          refine RQ.guardF rfl rfl rfl rfl ?_
          refine RQ.guardF rfl rfl rfl rfl ?_
          refine RQ.guardF rfl rfl rfl rfl ?_
          refine RQ.gt rfl rfl rfl rfl (V.pickF (d := Bo false) rfl rfl rfl) ?_
          refine RQ.v rfl (V.pickF (d := Bo false) rfl rfl rfl) ?_
          refine RQ.nil ?_
          exact ⟨_, by first | rfl | (simp_all; done) | (simp_all; omega) | grind, rfl, Le.c rfl <| Le.c rfl <| Le.c rfl <| Le.c rfl <| Le.c rfl <| Le.e⟩
      · skip
        refine RQ.guardF rfl rfl rfl rfl ?_
        refine RQ.guardF rfl rfl rfl rfl ?_
        refine RQ.guardU rfl rfl rfl rfl ?_
        refine RQ.guardU rfl rfl rfl rfl ?_
        refine RQ.guardU rfl rfl rfl rfl ?_
        refine RQ.guardU rfl rfl rfl rfl ?_
        refine RQ.guardU rfl rfl rfl rfl ?_
        refine RQ.guardU rfl rfl rfl rfl ?_
        refine RQ.guardU rfl rfl rfl rfl ?_
        refine RQ.guardU rfl rfl rfl rfl ?_
        refine RQ.guardU rfl rfl rfl rfl ?_
        refine RQ.guardU rfl rfl rfl rfl ?_
        refine RQ.guardF rfl rfl rfl rfl ?_
        refine RQ.v rfl (V.pickT (d := Bo true) rfl rfl rfl) ?_
        refine RQ.nil ?_
        exact ⟨_, by first | rfl | (simp_all; done) | (simp_all; omega) | grind, rfl, Le.c rfl <| Le.c rfl <| Le.c rfl <| Le.c rfl <| Le.c rfl <| Le.e⟩
    · intro v2 hv5
      refine CW.cond rfl (fun h6 => ?_) (fun h6 => ?_)
      · skip
        refine CW.seq ?_
        refine CW.region ?_
        refine RW.v rfl (V.as (d := Bo false) rfl rfl) ?_
        refine RW.nil ?_
        refine CW.le [(6, Bo false)] rfl (Le.c rfl <| Le.e) ?_
        refine CW.ret ?_
        exact Post.bool rfl (by rw [← hr, hdi, riseOk_cons]; grind [prevI]) (AOs.r (AOs.r (AOs.r AOs.e)))
      · skip
        refine CW.skip ?_
        refine CW.le [(0, .r (sl 1 cI a)), (1, I lo), (2, I hi), (7, I (i : Int))] rfl (Le.c rfl <| Le.c rfl <| Le.c rfl <| Le.c rfl <| Le.e) ?_
        refine CW.region ?_
        refine RW.v rfl (V.mv (d := I (i : Int)) rfl rfl) ?_
        refine RW.v rfl (V.inc rfl rfl rfl hii hl0) ?_
        refine RW.v rfl (V.as (d := I ((i + 1 : Nat) : Int)) rfl rfl) ?_
        refine RW.nil ?_
        exact ⟨i + 1, by omega, ⟨by omega, by rw [← hr, hdi, riseOk_cons, prevI_succ hei]; grind [prevI]⟩, rfl, Le.c rfl <| Le.c rfl <| Le.c rfl <| Le.c rfl <| Le.e⟩
  · skip
    have hii : a.length ≤ i := by have := h1; simp at this; first | exact this | (simp; omega)
    have hdi : a.drop i = [] := List.drop_eq_nil_of_le hii
    refine CW.exit ?_
    refine CW.le [] rfl (Le.e) ?_
    refine CW.seq ?_
    refine CW.region ?_
    refine RW.v rfl (V.as (d := Bo true) rfl rfl) ?_
    refine RW.nil ?_
    refine CW.le [(6, Bo true)] rfl (Le.c rfl <| Le.e) ?_
    refine CW.ret ?_
    exact Post.bool rfl (by rw [← hr, hdi, riseOk_nil]) (AOs.r (AOs.r (AOs.r AOs.e)))
set_option maxHeartbeats 4000000 in
theorem impl_nodesOk_fn (a : List Int) : Eng.Fn E.P 75 [.one (.r (sl 1 cI a))] (.one (.one (.w (.v (.bool (riseOk 1 4 none a)))))) [.one (.r (sl 1 cI a))] := by
  refine Eng.Fn.intro (E := E) (rvs := [.tmp 2]) Try.func75 rfl rfl rfl (by simp [outSlots, moved, rvSlot]) ?_
  intro B g bo
  refine CW.bound (x := .tmp 0) (n := a.length) (AsT.r) (fun hl0 => ?_)
  refine CW.le [(0, .r (sl 1 cI a))] rfl (Le.c rfl <| Le.e) ?_
  refine CW.seq ?_
  refine CW.region ?_
  refine RW.v rfl (V.as (d := Bo false) rfl rfl) ?_
  refine RW.nil ?_
  refine CW.le [(0, .r (sl 1 cI a))] rfl (Le.c rfl <| Le.e) ?_
  refine CW.seq ?_
  refine CW.seq ?_
  refine CW.region ?_
  refine RW.v rfl (V.mv (d := .r (sl 1 cI a)) rfl rfl) ?_
  refine RW.v rfl (V.lenT (n := a.length) rfl rfl rfl .r) ?_
  refine RW.v rfl (V.mv (d := I 0) rfl rfl) ?_
  refine RW.nil ?_
  refine CW.le [(0, .r (sl 1 cI a)), (5, .r (sl 1 cI a)), (6, I (a.length : Int)), (7, I 0)] rfl (Le.c rfl <| Le.c rfl <| Le.c rfl <| Le.c rfl <| Le.e) ?_
  refine CW.block ?_
  refine CW.loopI 29 (fun (i : Nat) => [(0, .r (sl 1 cI a)), (5, .r (sl 1 cI a)), (6, I (a.length : Int)), (7, I (i : Int))]) (fun (i : Nat) => i ≤ a.length ∧ riseOk 1 4 (prevI a i) (a.drop i) = riseOk 1 4 none a) (fun (i : Nat) => a.length - i) 0 rfl (Le.c rfl <| Le.c rfl <| Le.c rfl <| Le.c rfl <| Le.e) ⟨by omega, by simp [prevI]⟩ ?_
  rintro i ⟨hb, hr⟩
  refine CW.seq ?_
  refine CW.region ?_
  refine RW.v rfl (V.cmpInt rfl rfl rfl rfl) ?_
  refine RW.nil ?_
  refine CW.le [(0, .r (sl 1 cI a)), (5, .r (sl 1 cI a)), (6, I (a.length : Int)), (7, I (i : Int)), (8, Bo (decide ((i : Int) < (a.length : Int))))] rfl (Le.c rfl <| Le.c rfl <| Le.c rfl <| Le.c rfl <| Le.c rfl <| Le.e) ?_
  refine CW.seq ?_
  refine CW.cond rfl (fun h1 => ?_) (fun h1 => ?_)
  · skip
    have hii : i < a.length := by have := h1; simp at this; first | exact this | (simp; omega)
    obtain ⟨ei, hei⟩ : ∃ e, a[i]? = some e := ⟨_, List.getElem?_eq_getElem hii⟩
    have hdi := drop_get hei
    refine CW.skip ?_
    refine CW.le [(0, .r (sl 1 cI a)), (5, .r (sl 1 cI a)), (6, I (a.length : Int)), (7, I (i : Int))] rfl (Le.c rfl <| Le.c rfl <| Le.c rfl <| Le.c rfl <| Le.e) ?_
    refine CW.seq ?_
    refine CW.block ?_
    refine CW.seq ?_
    refine CW.region ?_
    refine RW.v rfl (V.mv (d := I (i : Int)) rfl rfl) ?_
    refine RW.v rfl (V.indexS rfl rfl rfl rfl rfl rfl cI.len hei) ?_
    refine RW.v rfl (V.loadPrimR (t0 := .v (.int .i64 ei)) rfl rfl (.inl rfl) rfl rfl) ?_
    refine RW.v rfl (V.as (d := I (i : Int)) rfl rfl) ?_
    refine RW.v rfl (V.as (d := I ei) rfl rfl) ?_
    refine RW.nil ?_
    refine CW.le [(0, .r (sl 1 cI a)), (3, I (i : Int)), (4, I ei), (5, .r (sl 1 cI a)), (6, I (a.length : Int)), (7, I (i : Int))] rfl (Le.c rfl <| Le.c rfl <| Le.c rfl <| Le.c rfl <| Le.c rfl <| Le.c rfl <| Le.e) ?_
    refine CW.seqJ 29 (fun (v2 : Bool) => [(0, .r (sl 1 cI a)), (5, .r (sl 1 cI a)), (6, I (a.length : Int)), (7, I (i : Int)), (27, Bo v2)]) (fun v2 => v2 = ((!(inR ei 1 4)) || (decide ((i : Int) > 0) && decide ((a.getD (i - 1) 0) ≥ ei)))) ?_ ?_
    · refine CW.region ?_
      refine RW.v rfl (V.mv (d := I ei) rfl rfl) ?_
      refine RW.call rfl (impl_isNode_fn ei) rfl (.cons (.one (.r .r)) (.nil)) fun g3 => ?_
      refine RW.v rfl (V.not rfl rfl) ?_
      refine RW.v rfl (V.mv (d := Bo (!(inR ei 1 4))) rfl rfl) ?_
      refine RW.gv rfl rfl rfl rfl (fun h4 => V.mv (d := I (i : Int)) rfl rfl) (fun h4 => ?_) (fun h4 => ?_)
      · skip
        refine RW.gt rfl rfl rfl rfl (V.cmpInt rfl rfl rfl rfl) ?_
        refine RW.gt rfl rfl rfl rfl (V.mv (d := Bo (decide ((i : Int) > 0))) rfl rfl) ?_
        refine RW.gv rfl rfl rfl rfl (fun h5 => V.mv (d := .r (sl 1 cI a)) rfl rfl) (fun h5 => ?_) (fun h5 => ?_)
        · skip
          refine RW.gt rfl rfl rfl rfl (V.mv (d := I (i : Int)) rfl rfl) ?_
          refine RW.gt rfl rfl rfl rfl (V.dec (m := i) rfl rfl rfl (by have := h5; simp at this; omega) (by omega)) ?_
          refine RW.gt rfl rfl rfl rfl (V.indexS rfl rfl rfl rfl rfl rfl cI.len (getD_some (l := a) (j := i - 1) (z := 0) (by omega))) ?_
          refine RW.gt rfl rfl rfl rfl (V.loadPrimR (t0 := .v (.int .i64 (a.getD (i - 1) 0))) rfl rfl (.inl rfl) rfl rfl) ?_
          refine RW.gt rfl rfl rfl rfl (V.mv (d := I ei) rfl rfl) ?_
          refine RW.gt rfl rfl rfl rfl (V.cmpInt rfl rfl rfl rfl) ?_
          refine RW.gt rfl rfl rfl rfl (V.pickT (d := Bo (decide ((a.getD (i - 1) 0) ≥ ei))) rfl rfl rfl) ?_
          refine RW.v rfl (V.pickF (d := Bo (decide ((a.getD (i - 1) 0) ≥ ei))) rfl rfl rfl) ?_
          refine RW.nil ?_
          exact ⟨_, by first | rfl | (simp_all; done) | (simp_all; omega) | grind, rfl, Le.c rfl <| Le.c rfl <| Le.c rfl <| Le.c rfl <| Le.c rfl <| Le.e⟩
        · skip
          refine RW.guardF rfl rfl rfl rfl ?_
          refine RW.guardF rfl rfl rfl rfl ?_
          refine RW.guardF rfl rfl rfl rfl ?_
          refine RW.guardF rfl rfl rfl rfl ?_
          refine RW.guardF rfl rfl rfl rfl ?_
          refine RW.guardF rfl rfl rfl rfl ?_
          refine RW.gt rfl rfl rfl rfl (V.pickF (d := Bo false) rfl rfl rfl) ?_
          refine RW.v rfl (V.pickF (d := Bo false) rfl rfl rfl) ?_
          refine RW.nil ?_
          exact ⟨_, by first | rfl | (simp_all; done) | (simp_all; omega) | grind, rfl, Le.c rfl <| Le.c rfl <| Le.c rfl <| Le.c rfl <| Le.c rfl <| Le.e⟩
      · skip
        refine RW.guardF rfl rfl rfl rfl ?_
        refine RW.guardF rfl rfl rfl rfl ?_
        refine RW.guardU rfl rfl rfl rfl ?_
        refine RW.guardU rfl rfl rfl rfl ?_
        refine RW.guardU rfl rfl rfl rfl ?_
        refine RW.guardU rfl rfl rfl rfl ?_
        refine RW.guardU rfl rfl rfl rfl ?_
        refine RW.guardU rfl rfl rfl rfl ?_
        refine RW.guardU rfl rfl rfl rfl ?_
        refine RW.guardF rfl rfl rfl rfl ?_
        refine RW.v rfl (V.pickT (d := Bo true) rfl rfl rfl) ?_
        refine RW.nil ?_
        exact ⟨_, by first | rfl | (simp_all; done) | (simp_all; omega) | grind, rfl, Le.c rfl <| Le.c rfl <| Le.c rfl <| Le.c rfl <| Le.c rfl <| Le.e⟩
    · intro v2 hv6
      refine CW.cond rfl (fun h7 => ?_) (fun h7 => ?_)
      · skip
        refine CW.seq ?_
        refine CW.region ?_
        refine RW.v rfl (V.as (d := Bo false) rfl rfl) ?_
        refine RW.nil ?_
        refine CW.le [(2, Bo false)] rfl (Le.c rfl <| Le.e) ?_
        refine CW.ret ?_
        exact Post.bool rfl (by rw [← hr, hdi, riseOk_cons]; grind [prevI]) (AOs.r AOs.e)
      · skip
        refine CW.skip ?_
        refine CW.le [(0, .r (sl 1 cI a)), (5, .r (sl 1 cI a)), (6, I (a.length : Int)), (7, I (i : Int))] rfl (Le.c rfl <| Le.c rfl <| Le.c rfl <| Le.c rfl <| Le.e) ?_
        refine CW.region ?_
        refine RW.v rfl (V.inc rfl rfl rfl hii hl0) ?_
        refine RW.v rfl (V.mv (d := I ((i + 1 : Nat) : Int)) rfl rfl) ?_
        refine RW.nil ?_
        exact ⟨i + 1, by omega, ⟨by omega, by rw [← hr, hdi, riseOk_cons, prevI_succ hei]; grind [prevI]⟩, rfl, Le.c rfl <| Le.c rfl <| Le.c rfl <| Le.c rfl <| Le.e⟩
  · skip
    have hii : a.length ≤ i := by have := h1; simp at this; first | exact this | (simp; omega)
    have hdi : a.drop i = [] := List.drop_eq_nil_of_le hii
    refine CW.exit ?_
    refine CW.le [] rfl (Le.e) ?_
    refine CW.seq ?_
    refine CW.region ?_
    refine RW.v rfl (V.as (d := Bo true) rfl rfl) ?_
    refine RW.nil ?_
    refine CW.le [(2, Bo true)] rfl (Le.c rfl <| Le.e) ?_
    refine CW.ret ?_
    exact Post.bool rfl (by rw [← hr, hdi, riseOk_nil]) (AOs.r AOs.e)
set_option maxHeartbeats 4000000 in
theorem spec_ConfOk_fn (a : List Int) : Eng.Fn E.P 54 [.one (.r (sl 1 cI a))] (.one (.one (.w (.v (.bool (confOk a)))))) [.one (.r (sl 1 cI a))] := by
  refine Eng.Fn.intro (E := E) (rvs := [.tmp 2]) Try.func54 rfl rfl rfl (by simp [outSlots, moved, rvSlot]) ?_
  intro B g bo
  refine CW.bound (x := .tmp 0) (n := a.length) (AsT.r) (fun hl0 => ?_)
  refine CW.le [(0, .r (sl 1 cI a))] rfl (Le.c rfl <| Le.e) ?_
  refine CW.seq ?_
  refine CW.region ?_
  refine RW.v rfl (V.as (d := Bo false) rfl rfl) ?_
  refine RW.nil ?_
  refine CW.le [(0, .r (sl 1 cI a))] rfl (Le.c rfl <| Le.e) ?_
  refine CW.seqJ 10 (fun (v1 : Bool) => [(2, Bo v1)]) (fun v1 => v1 = ((inR (a.length : Int) 1 4) && (riseOk 1 4 none a))) ?_ ?_
  · refine CW.region ?_
    refine RW.v rfl (V.mv (d := .r (sl 1 cI a)) rfl rfl) ?_
    refine RW.v rfl (V.lenT (n := a.length) rfl rfl rfl .r) ?_
    refine RW.call rfl (spec_l01In_fn (a.length : Int) 1 4) rfl (.cons (.one (.r .r)) (.cons (.one (.r .r)) (.cons (.one (.r .r)) (.nil)))) fun g2 => ?_
    refine RW.v rfl (V.mv (d := Bo (inR (a.length : Int) 1 4)) rfl rfl) ?_
    refine RW.gv rfl rfl rfl rfl (fun h3 => V.mv (d := .r (sl 1 cI a)) rfl rfl) (fun h3 => ?_) (fun h3 => ?_)
    · skip
      refine RW.gcall rfl rfl rfl rfl (spec_l05Rise_fn a 1 4) rfl (.cons (.one (.r .r)) (.cons (.one (.r .r)) (.cons (.one (.r .r)) (.nil)))) fun g4 => ?_
      refine RW.v rfl (V.pickT (d := Bo (riseOk 1 4 none a)) rfl rfl rfl) ?_
      refine RW.v rfl (V.as (d := Bo (riseOk 1 4 none a)) rfl rfl) ?_
      refine RW.nil ?_
      exact ⟨_, by first | rfl | (simp_all; done) | (simp_all; omega) | grind, rfl, Le.c rfl <| Le.e⟩
    · skip
      refine RW.guardF rfl rfl rfl rfl ?_
      refine RW.v rfl (V.pickF (d := Bo false) rfl rfl rfl) ?_
      refine RW.v rfl (V.as (d := Bo false) rfl rfl) ?_
      refine RW.nil ?_
      exact ⟨_, by first | rfl | (simp_all; done) | (simp_all; omega) | grind, rfl, Le.c rfl <| Le.e⟩
  · intro v1 hv5
    refine CW.ret ?_
    exact Post.bool rfl (by simp_all [confOk]) (AOs.r AOs.e)
set_option maxHeartbeats 4000000 in
theorem impl_ConfOk_fn (a : List Int) : Eng.Fn E.P 72 [.one (.r (sl 1 cI a))] (.one (.one (.w (.v (.bool (confOk a)))))) [.one (.r (sl 1 cI a))] := by
  refine Eng.Fn.intro (E := E) (rvs := [.tmp 2]) Try.func72 rfl rfl rfl (by simp [outSlots, moved, rvSlot]) ?_
  intro B g bo
  refine CW.bound (x := .tmp 0) (n := a.length) (AsT.r) (fun hl0 => ?_)
  refine CW.le [(0, .r (sl 1 cI a))] rfl (Le.c rfl <| Le.e) ?_
  refine CW.seq ?_
  refine CW.region ?_
  refine RW.v rfl (V.as (d := Bo false) rfl rfl) ?_
  refine RW.nil ?_
  refine CW.le [(0, .r (sl 1 cI a))] rfl (Le.c rfl <| Le.e) ?_
  refine CW.seqJ 10 (fun (v1 : Bool) => [(2, Bo v1)]) (fun v1 => v1 = (decide ((a.length : Int) > 0) && (riseOk 1 4 none a))) ?_ ?_
  · refine CW.region ?_
    refine RW.v rfl (V.mv (d := .r (sl 1 cI a)) rfl rfl) ?_
    refine RW.v rfl (V.lenT (n := a.length) rfl rfl rfl .r) ?_
    refine RW.v rfl (V.cmpInt rfl rfl rfl rfl) ?_
    refine RW.v rfl (V.mv (d := Bo (decide ((a.length : Int) > 0))) rfl rfl) ?_
    refine RW.gv rfl rfl rfl rfl (fun h2 => V.mv (d := .r (sl 1 cI a)) rfl rfl) (fun h2 => ?_) (fun h2 => ?_)
    · skip
      refine RW.gcall rfl rfl rfl rfl (impl_nodesOk_fn a) rfl (.cons (.one (.r .r)) (.nil)) fun g3 => ?_
      refine RW.v rfl (V.pickT (d := Bo (riseOk 1 4 none a)) rfl rfl rfl) ?_
      refine RW.v rfl (V.as (d := Bo (riseOk 1 4 none a)) rfl rfl) ?_
      refine RW.nil ?_
      exact ⟨_, by first | rfl | (simp_all; done) | (simp_all; omega) | grind, rfl, Le.c rfl <| Le.e⟩
    · skip
      refine RW.guardF rfl rfl rfl rfl ?_
      refine RW.v rfl (V.pickF (d := Bo false) rfl rfl rfl) ?_
      refine RW.v rfl (V.as (d := Bo false) rfl rfl) ?_
      refine RW.nil ?_
      exact ⟨_, by first | rfl | (simp_all; done) | (simp_all; omega) | grind, rfl, Le.c rfl <| Le.e⟩
  · intro v1 hv4
    refine CW.ret ?_
    exact Post.bool rfl (by (subst_vars; exact confOk_impl a)) (AOs.r AOs.e)
set_option maxHeartbeats 4000000 in
theorem impl_confFits_fn (n : Int) (a : List Int) : Eng.Fn E.P 60 [.one (.r (.v (.int .i64 n))), .one (.r (sl 1 cI a))] (.one (.one (.w (.v (.bool (confFits n a)))))) [.one (.r (.v (.int .i64 n))), .one (.r (sl 1 cI a))] := by
  refine Eng.Fn.intro (E := E) (rvs := [.tmp 4]) Try.func60 rfl rfl rfl (by simp [outSlots, moved, rvSlot]) ?_
  intro B g bo
  refine CW.bound (x := .tmp 1) (n := a.length) (AsT.r) (fun hl1 => ?_)
  refine CW.le [(0, I n), (1, .r (sl 1 cI a))] rfl (Le.c rfl <| Le.c rfl <| Le.e) ?_
  refine CW.seq ?_
  refine CW.region ?_
  refine RW.v rfl (V.as (d := Bo false) rfl rfl) ?_
  refine RW.nil ?_
  refine CW.le [(0, I n), (1, .r (sl 1 cI a))] rfl (Le.c rfl <| Le.c rfl <| Le.e) ?_
  refine CW.seqJ 17 (fun (v1 : Bool) => [(4, Bo v1)]) (fun v1 => v1 = ((confOk a) && decide ((a.getD (a.length - 1) 0) ≤ n))) ?_ ?_
  · refine CW.region ?_
    refine RW.v rfl (V.mv (d := .r (sl 1 cI a)) rfl rfl) ?_
    refine RW.call rfl (impl_ConfOk_fn a) rfl (.cons (.one (.r .r)) (.nil)) fun g2 => ?_
    refine RW.v rfl (V.mv (d := Bo (confOk a)) rfl rfl) ?_
    refine RW.gv rfl rfl rfl rfl (fun h3 => V.mv (d := .r (sl 1 cI a)) rfl rfl) (fun h3 => ?_) (fun h3 => ?_)
    · skip
      refine RW.gt rfl rfl rfl rfl (V.mv (d := .r (sl 1 cI a)) rfl rfl) ?_
      refine RW.gt rfl rfl rfl rfl (V.lenT (n := a.length) rfl rfl rfl .r) ?_
      refine RW.gt rfl rfl rfl rfl (V.dec (m := a.length) rfl rfl rfl (confOk_pos h3) hl1) ?_
      refine RW.gt rfl rfl rfl rfl (V.indexS rfl rfl rfl rfl rfl rfl cI.len (getD_some (l := a) (j := a.length - 1) (z := 0) (by have := confOk_pos h3; omega))) ?_
      refine RW.gt rfl rfl rfl rfl (V.loadPrimR (t0 := .v (.int .i64 (a.getD (a.length - 1) 0))) rfl rfl (.inl rfl) rfl rfl) ?_
      refine RW.gt rfl rfl rfl rfl (V.mv (d := I n) rfl rfl) ?_
      refine RW.gt rfl rfl rfl rfl (V.cmpInt rfl rfl rfl rfl) ?_
      refine RW.v rfl (V.pickT (d := Bo (decide ((a.getD (a.length - 1) 0) ≤ n))) rfl rfl rfl) ?_
      refine RW.v rfl (V.as (d := Bo (decide ((a.getD (a.length - 1) 0) ≤ n))) rfl rfl) ?_
      refine RW.nil ?_
      exact ⟨_, by first | rfl | (simp_all; done) | (simp_all; omega) | grind, rfl, Le.c rfl <| Le.e⟩
    · skip
      refine RW.guardF rfl rfl rfl rfl ?_
      refine RW.guardF rfl rfl rfl rfl ?_
      refine RW.guardF rfl rfl rfl rfl ?_
      refine RW.guardF rfl rfl rfl rfl ?_
      refine RW.guardF rfl rfl rfl rfl ?_
      refine RW.guardF rfl rfl rfl rfl ?_
      refine RW.guardF rfl rfl rfl rfl ?_
      refine RW.v rfl (V.pickF (d := Bo false) rfl rfl rfl) ?_
      refine RW.v rfl (V.as (d := Bo false) rfl rfl) ?_
      refine RW.nil ?_
      exact ⟨_, by first | rfl | (simp_all; done) | (simp_all; omega) | grind, rfl, Le.c rfl <| Le.e⟩
  · intro v1 hv4
    refine CW.ret ?_
    exact Post.bool rfl (by simp_all [confFits]) (AOs.r (AOs.r AOs.e))
set_option maxHeartbeats 4000000 in
theorem spec_CommandOk_fn (c : Command) : Eng.Fn E.P 53 [.agg ((Command.c c).map .r)] (.one (.one (.w (.v (.bool (cmdOk c)))))) [.agg ((Command.c c).map .r)] := by
  refine Eng.Fn.intro (E := E) (rvs := [.tmp 2]) Try.func53 rfl rfl rfl (by simp [outSlots, moved, rvSlot]) ?_
  intro B g bo
  refine CW.le [(0, .agg ((Command.c c).map .r))] rfl (Le.c rfl <| Le.e) ?_
  refine CW.seq ?_
  refine CW.region ?_
  refine RW.box (ds := ((Command.c c).map .r)) rfl rfl rfl fun b1 => ?_
  refine RW.v rfl (V.as (d := Bo false) rfl rfl) ?_
  refine RW.nil ?_
  refine CW.le [(1, .obj b1 ((Command.c c).map .r))] rfl (Le.c rfl <| Le.e) ?_
  refine CW.seq ?_
  refine CW.seqJ 76 (fun (v2 : Bool) => [(1, .obj b1 ((Command.c c).map .r)), (18, Bo v2)]) (fun v2 => v2 = (((!(inR c.token 0 1000000)) || (!(inR c.seq 0 1000000))) || (!(inR c.op 1 5)))) ?_ ?_
  · refine CW.region ?_
    refine RW.v rfl (V.field rfl rfl rfl rfl (by decide) rfl) ?_
    refine RW.v rfl (V.loadPrim (d := I c.token) rfl rfl (.inl rfl) rfl rfl rfl) ?_
    refine RW.call rfl (spec_l01In_fn c.token 0 1000000) rfl (.cons (.one (.r .r)) (.cons (.one (.r .r)) (.cons (.one (.r .r)) (.nil)))) fun g3 => ?_
    refine RW.v rfl (V.not rfl rfl) ?_
    refine RW.v rfl (V.mv (d := Bo (!(inR c.token 0 1000000))) rfl rfl) ?_
    refine RW.gv rfl rfl rfl rfl (fun h4 => V.field rfl rfl rfl rfl (by decide) rfl) (fun h4 => ?_) (fun h4 => ?_)
    · skip
      refine RW.gt rfl rfl rfl rfl (V.loadPrim (d := I c.seq) rfl rfl (.inl rfl) rfl rfl rfl) ?_
      refine RW.gcall rfl rfl rfl rfl (spec_l01In_fn c.seq 0 1000000) rfl (.cons (.one (.r .r)) (.cons (.one (.r .r)) (.cons (.one (.r .r)) (.nil)))) fun g5 => ?_
      refine RW.gt rfl rfl rfl rfl (V.not rfl rfl) ?_
      refine RW.v rfl (V.pickF (d := Bo (!(inR c.seq 0 1000000))) rfl rfl rfl) ?_
      refine RW.v rfl (V.mv (d := Bo (!(inR c.seq 0 1000000))) rfl rfl) ?_
      refine RW.gv rfl rfl rfl rfl (fun h6 => V.field rfl rfl rfl rfl (by decide) rfl) (fun h6 => ?_) (fun h6 => ?_)
      · skip
        refine RW.gt rfl rfl rfl rfl (V.loadPrim (d := I c.op) rfl rfl (.inl rfl) rfl rfl rfl) ?_
        refine RW.gcall rfl rfl rfl rfl (spec_l01In_fn c.op 1 5) rfl (.cons (.one (.r .r)) (.cons (.one (.r .r)) (.cons (.one (.r .r)) (.nil)))) fun g7 => ?_
        refine RW.gt rfl rfl rfl rfl (V.not rfl rfl) ?_
        refine RW.v rfl (V.pickF (d := Bo (!(inR c.op 1 5))) rfl rfl rfl) ?_
        refine RW.nil ?_
        exact ⟨_, by first | rfl | (simp_all; done) | (simp_all; omega) | grind, rfl, Le.c rfl <| Le.c rfl <| Le.e⟩
      · skip
        refine RW.guardF rfl rfl rfl rfl ?_
        refine RW.guardF rfl rfl rfl rfl ?_
        refine RW.guardF rfl rfl rfl rfl ?_
        refine RW.v rfl (V.pickT (d := Bo true) rfl rfl rfl) ?_
        refine RW.nil ?_
        exact ⟨_, by first | rfl | (simp_all; done) | (simp_all; omega) | grind, rfl, Le.c rfl <| Le.c rfl <| Le.e⟩
    · skip
      refine RW.guardF rfl rfl rfl rfl ?_
      refine RW.guardF rfl rfl rfl rfl ?_
      refine RW.guardF rfl rfl rfl rfl ?_
      refine RW.v rfl (V.pickT (d := Bo true) rfl rfl rfl) ?_
      refine RW.v rfl (V.mv (d := Bo true) rfl rfl) ?_
      refine RW.guardF rfl rfl rfl rfl ?_
      refine RW.guardF rfl rfl rfl rfl ?_
      refine RW.guardF rfl rfl rfl rfl ?_
      refine RW.guardF rfl rfl rfl rfl ?_
      refine RW.v rfl (V.pickT (d := Bo true) rfl rfl rfl) ?_
      refine RW.nil ?_
      exact ⟨_, by first | rfl | (simp_all; done) | (simp_all; omega) | grind, rfl, Le.c rfl <| Le.c rfl <| Le.e⟩
  · intro v2 hv8
    refine CW.cond rfl (fun h9 => ?_) (fun h9 => ?_)
    · skip
      refine CW.seq ?_
      refine CW.region ?_
      refine RW.v rfl (V.as (d := Bo false) rfl rfl) ?_
      refine RW.nil ?_
      refine CW.le [(2, Bo false)] rfl (Le.c rfl <| Le.e) ?_
      refine CW.ret ?_
      exact Post.bool rfl (by first | (simp_all [cmdOk]; done) | grind [cmdOk, inR]) (AOs.a rfl AOs.e)
    · skip
      refine CW.skip ?_
      refine CW.le [(1, .obj b1 ((Command.c c).map .r))] rfl (Le.c rfl <| Le.e) ?_
      refine CW.seq ?_
      refine CW.seq ?_
      refine CW.region ?_
      refine RW.v rfl (V.field rfl rfl rfl rfl (by decide) rfl) ?_
      refine RW.v rfl (V.loadPrim (d := I c.op) rfl rfl (.inl rfl) rfl rfl rfl) ?_
      refine RW.v rfl (V.cmpInt rfl rfl rfl rfl) ?_
      refine RW.nil ?_
      refine CW.le [(1, .obj b1 ((Command.c c).map .r)), (21, Bo (c.op == 1))] rfl (Le.c rfl <| Le.c rfl <| Le.e) ?_
      refine CW.cond rfl (fun h10 => ?_) (fun h10 => ?_)
      · skip
        refine CW.seqJ 76 (fun (v11 : Bool) => [(2, Bo v11)]) (fun v11 => v11 = (((((c.token == 0) && (c.seq == 0)) && (c.key.toList == (⟨#[]⟩ : ByteArray).toList)) && (c.val.toList == (⟨#[]⟩ : ByteArray).toList)) && (c.ver == 0))) ?_ ?_
        · refine CW.region ?_
          refine RW.v rfl (V.field rfl rfl rfl rfl (by decide) rfl) ?_
          refine RW.v rfl (V.loadPrim (d := I c.token) rfl rfl (.inl rfl) rfl rfl rfl) ?_
          refine RW.v rfl (V.cmpInt rfl rfl rfl rfl) ?_
          refine RW.v rfl (V.mv (d := Bo (c.token == 0)) rfl rfl) ?_
          refine RW.gv rfl rfl rfl rfl (fun h12 => V.field rfl rfl rfl rfl (by decide) rfl) (fun h12 => ?_) (fun h12 => ?_)
          · skip
            refine RW.gt rfl rfl rfl rfl (V.loadPrim (d := I c.seq) rfl rfl (.inl rfl) rfl rfl rfl) ?_
            refine RW.gt rfl rfl rfl rfl (V.cmpInt rfl rfl rfl rfl) ?_
            refine RW.v rfl (V.pickT (d := Bo (c.seq == 0)) rfl rfl rfl) ?_
            refine RW.v rfl (V.mv (d := Bo (c.seq == 0)) rfl rfl) ?_
            refine RW.gv rfl rfl rfl rfl (fun h13 => V.field rfl rfl rfl rfl (by decide) rfl) (fun h13 => ?_) (fun h13 => ?_)
            · skip
              refine RW.gt rfl rfl rfl rfl (V.loadPrim (d := S c.key) rfl rfl (.inl rfl) rfl rfl rfl) ?_
              refine RW.gt rfl rfl rfl rfl (V.strCmp rfl rfl rfl rfl) ?_
              refine RW.v rfl (V.pickT (d := Bo (c.key.toList == (⟨#[]⟩ : ByteArray).toList)) rfl rfl rfl) ?_
              refine RW.v rfl (V.mv (d := Bo (c.key.toList == (⟨#[]⟩ : ByteArray).toList)) rfl rfl) ?_
              refine RW.gv rfl rfl rfl rfl (fun h14 => V.field rfl rfl rfl rfl (by decide) rfl) (fun h14 => ?_) (fun h14 => ?_)
              · skip
                refine RW.gt rfl rfl rfl rfl (V.loadPrim (d := S c.val) rfl rfl (.inl rfl) rfl rfl rfl) ?_
                refine RW.gt rfl rfl rfl rfl (V.strCmp rfl rfl rfl rfl) ?_
                refine RW.v rfl (V.pickT (d := Bo (c.val.toList == (⟨#[]⟩ : ByteArray).toList)) rfl rfl rfl) ?_
                refine RW.v rfl (V.mv (d := Bo (c.val.toList == (⟨#[]⟩ : ByteArray).toList)) rfl rfl) ?_
                refine RW.gv rfl rfl rfl rfl (fun h15 => V.field rfl rfl rfl rfl (by decide) rfl) (fun h15 => ?_) (fun h15 => ?_)
                · skip
                  refine RW.gt rfl rfl rfl rfl (V.loadPrim (d := I c.ver) rfl rfl (.inl rfl) rfl rfl rfl) ?_
                  refine RW.gt rfl rfl rfl rfl (V.cmpInt rfl rfl rfl rfl) ?_
                  refine RW.v rfl (V.pickT (d := Bo (c.ver == 0)) rfl rfl rfl) ?_
                  refine RW.v rfl (V.as (d := Bo (c.ver == 0)) rfl rfl) ?_
                  refine RW.nil ?_
                  exact ⟨_, by first | rfl | (simp_all; done) | (simp_all; omega) | grind, rfl, Le.c rfl <| Le.e⟩
                · skip
                  refine RW.guardF rfl rfl rfl rfl ?_
                  refine RW.guardF rfl rfl rfl rfl ?_
                  refine RW.v rfl (V.pickF (d := Bo false) rfl rfl rfl) ?_
                  refine RW.v rfl (V.as (d := Bo false) rfl rfl) ?_
                  refine RW.nil ?_
                  exact ⟨_, by first | rfl | (simp_all; done) | (simp_all; omega) | grind, rfl, Le.c rfl <| Le.e⟩
              · skip
                refine RW.guardF rfl rfl rfl rfl ?_
                refine RW.guardF rfl rfl rfl rfl ?_
                refine RW.v rfl (V.pickF (d := Bo false) rfl rfl rfl) ?_
                refine RW.v rfl (V.mv (d := Bo false) rfl rfl) ?_
                refine RW.guardF rfl rfl rfl rfl ?_
                refine RW.guardF rfl rfl rfl rfl ?_
                refine RW.guardF rfl rfl rfl rfl ?_
                refine RW.v rfl (V.pickF (d := Bo false) rfl rfl rfl) ?_
                refine RW.v rfl (V.as (d := Bo false) rfl rfl) ?_
                refine RW.nil ?_
                exact ⟨_, by first | rfl | (simp_all; done) | (simp_all; omega) | grind, rfl, Le.c rfl <| Le.e⟩
            · skip
              refine RW.guardF rfl rfl rfl rfl ?_
              refine RW.guardF rfl rfl rfl rfl ?_
              refine RW.v rfl (V.pickF (d := Bo false) rfl rfl rfl) ?_
              refine RW.v rfl (V.mv (d := Bo false) rfl rfl) ?_
              refine RW.guardF rfl rfl rfl rfl ?_
              refine RW.guardF rfl rfl rfl rfl ?_
              refine RW.guardF rfl rfl rfl rfl ?_
              refine RW.v rfl (V.pickF (d := Bo false) rfl rfl rfl) ?_
              refine RW.v rfl (V.mv (d := Bo false) rfl rfl) ?_
              refine RW.guardF rfl rfl rfl rfl ?_
              refine RW.guardF rfl rfl rfl rfl ?_
              refine RW.guardF rfl rfl rfl rfl ?_
              refine RW.v rfl (V.pickF (d := Bo false) rfl rfl rfl) ?_
              refine RW.v rfl (V.as (d := Bo false) rfl rfl) ?_
              refine RW.nil ?_
              exact ⟨_, by first | rfl | (simp_all; done) | (simp_all; omega) | grind, rfl, Le.c rfl <| Le.e⟩
          · skip
            refine RW.guardF rfl rfl rfl rfl ?_
            refine RW.guardF rfl rfl rfl rfl ?_
            refine RW.v rfl (V.pickF (d := Bo false) rfl rfl rfl) ?_
            refine RW.v rfl (V.mv (d := Bo false) rfl rfl) ?_
            refine RW.guardF rfl rfl rfl rfl ?_
            refine RW.guardF rfl rfl rfl rfl ?_
            refine RW.guardF rfl rfl rfl rfl ?_
            refine RW.v rfl (V.pickF (d := Bo false) rfl rfl rfl) ?_
            refine RW.v rfl (V.mv (d := Bo false) rfl rfl) ?_
            refine RW.guardF rfl rfl rfl rfl ?_
            refine RW.guardF rfl rfl rfl rfl ?_
            refine RW.guardF rfl rfl rfl rfl ?_
            refine RW.v rfl (V.pickF (d := Bo false) rfl rfl rfl) ?_
            refine RW.v rfl (V.mv (d := Bo false) rfl rfl) ?_
            refine RW.guardF rfl rfl rfl rfl ?_
            refine RW.guardF rfl rfl rfl rfl ?_
            refine RW.guardF rfl rfl rfl rfl ?_
            refine RW.v rfl (V.pickF (d := Bo false) rfl rfl rfl) ?_
            refine RW.v rfl (V.as (d := Bo false) rfl rfl) ?_
            refine RW.nil ?_
            exact ⟨_, by first | rfl | (simp_all; done) | (simp_all; omega) | grind, rfl, Le.c rfl <| Le.e⟩
        · intro v11 hv16
          refine CW.ret ?_
          exact Post.bool rfl (by first | (simp_all [cmdOk]; done) | grind [cmdOk, inR]) (AOs.a rfl AOs.e)
      · skip
        refine CW.skip ?_
        refine CW.le [(1, .obj b1 ((Command.c c).map .r))] rfl (Le.c rfl <| Le.e) ?_
        refine CW.seq ?_
        refine CW.seqJ 76 (fun (v17 : Bool) => [(1, .obj b1 ((Command.c c).map .r)), (55, Bo v17)]) (fun v17 => v17 = ((!(inR (c.key.size : Int) 1 8)) || decide ((c.val.size : Int) > 20))) ?_ ?_
        · refine CW.region ?_
          refine RW.v rfl (V.field rfl rfl rfl rfl (by decide) rfl) ?_
          refine RW.v rfl (V.loadPrim (d := S c.key) rfl rfl (.inl rfl) rfl rfl rfl) ?_
          refine RW.v rfl (V.lenStr rfl (by kernel_rfl) rfl) ?_
          refine RW.call rfl (spec_l01In_fn (c.key.size : Int) 1 8) rfl (.cons (.one (.r .r)) (.cons (.one (.r .r)) (.cons (.one (.r .r)) (.nil)))) fun g18 => ?_
          refine RW.v rfl (V.not rfl rfl) ?_
          refine RW.v rfl (V.mv (d := Bo (!(inR (c.key.size : Int) 1 8))) rfl rfl) ?_
          refine RW.gv rfl rfl rfl rfl (fun h19 => V.field rfl rfl rfl rfl (by decide) rfl) (fun h19 => ?_) (fun h19 => ?_)
          · skip
            refine RW.gt rfl rfl rfl rfl (V.loadPrim (d := S c.val) rfl rfl (.inl rfl) rfl rfl rfl) ?_
            refine RW.gt rfl rfl rfl rfl (V.lenStr rfl (by kernel_rfl) rfl) ?_
            refine RW.gt rfl rfl rfl rfl (V.cmpInt rfl rfl rfl rfl) ?_
            refine RW.v rfl (V.pickF (d := Bo (decide ((c.val.size : Int) > 20))) rfl rfl rfl) ?_
            refine RW.nil ?_
            exact ⟨_, by first | rfl | (simp_all; done) | (simp_all; omega) | grind, rfl, Le.c rfl <| Le.c rfl <| Le.e⟩
          · skip
            refine RW.guardF rfl rfl rfl rfl ?_
            refine RW.guardF rfl rfl rfl rfl ?_
            refine RW.guardF rfl rfl rfl rfl ?_
            refine RW.v rfl (V.pickT (d := Bo true) rfl rfl rfl) ?_
            refine RW.nil ?_
            exact ⟨_, by first | rfl | (simp_all; done) | (simp_all; omega) | grind, rfl, Le.c rfl <| Le.c rfl <| Le.e⟩
        · intro v17 hv20
          refine CW.cond rfl (fun h21 => ?_) (fun h21 => ?_)
          · skip
            refine CW.seq ?_
            refine CW.region ?_
            refine RW.v rfl (V.as (d := Bo false) rfl rfl) ?_
            refine RW.nil ?_
            refine CW.le [(2, Bo false)] rfl (Le.c rfl <| Le.e) ?_
            refine CW.ret ?_
            exact Post.bool rfl (by first | (simp_all [cmdOk]; done) | grind [cmdOk, inR]) (AOs.a rfl AOs.e)
          · skip
            refine CW.skip ?_
            refine CW.le [(1, .obj b1 ((Command.c c).map .r))] rfl (Le.c rfl <| Le.e) ?_
            refine CW.seq ?_
            refine CW.seq ?_
            refine CW.region ?_
            refine RW.v rfl (V.field rfl rfl rfl rfl (by decide) rfl) ?_
            refine RW.v rfl (V.loadPrim (d := I c.op) rfl rfl (.inl rfl) rfl rfl rfl) ?_
            refine RW.nil ?_
            refine CW.le [(1, .obj b1 ((Command.c c).map .r)), (57, I c.op)] rfl (Le.c rfl <| Le.c rfl <| Le.e) ?_
            refine CW.block ?_
            refine CW.seq ?_
            refine CW.region ?_
            refine RW.v rfl (V.cmpInt rfl rfl rfl rfl) ?_
            refine RW.v rfl (V.as (d := Bo (c.op == 2)) rfl rfl) ?_
            refine RW.nil ?_
            refine CW.le [(1, .obj b1 ((Command.c c).map .r)), (57, I c.op), (58, Bo (c.op == 2))] rfl (Le.c rfl <| Le.c rfl <| Le.c rfl <| Le.e) ?_
            refine CW.cond rfl (fun h22 => ?_) (fun h22 => ?_)
            · skip
              refine CW.seq ?_
              refine CW.region ?_
              refine RW.v rfl (V.field rfl rfl rfl rfl (by decide) rfl) ?_
              refine RW.v rfl (V.loadPrim (d := I c.ver) rfl rfl (.inl rfl) rfl rfl rfl) ?_
              refine RW.v rfl (V.cmpInt rfl rfl rfl rfl) ?_
              refine RW.v rfl (V.as (d := Bo (c.ver == 0)) rfl rfl) ?_
              refine RW.nil ?_
              refine CW.le [(2, Bo (c.ver == 0))] rfl (Le.c rfl <| Le.e) ?_
              refine CW.ret ?_
              exact Post.bool rfl (by first | (simp_all [cmdOk]; done) | grind [cmdOk, inR]) (AOs.a rfl AOs.e)
            · skip
              refine CW.seq ?_
              refine CW.region ?_
              refine RW.v rfl (V.cmpInt rfl rfl rfl rfl) ?_
              refine RW.v rfl (V.as (d := Bo (c.op == 5)) rfl rfl) ?_
              refine RW.nil ?_
              refine CW.le [(1, .obj b1 ((Command.c c).map .r)), (63, Bo (c.op == 5))] rfl (Le.c rfl <| Le.c rfl <| Le.e) ?_
              refine CW.cond rfl (fun h23 => ?_) (fun h23 => ?_)
              · skip
                refine CW.seq ?_
                refine CW.region ?_
                refine RW.v rfl (V.field rfl rfl rfl rfl (by decide) rfl) ?_
                refine RW.v rfl (V.loadPrim (d := I c.ver) rfl rfl (.inl rfl) rfl rfl rfl) ?_
                refine RW.call rfl (spec_l01In_fn c.ver 1 1000000000) rfl (.cons (.one (.r .r)) (.cons (.one (.r .r)) (.cons (.one (.r .r)) (.nil)))) fun g24 => ?_
                refine RW.v rfl (V.as (d := Bo (inR c.ver 1 1000000000)) rfl rfl) ?_
                refine RW.nil ?_
                refine CW.le [(2, Bo (inR c.ver 1 1000000000))] rfl (Le.c rfl <| Le.e) ?_
                refine CW.ret ?_
                exact Post.bool rfl (by first | (simp_all [cmdOk]; done) | grind [cmdOk, inR]) (AOs.a rfl AOs.e)
              · skip
                refine CW.skip ?_
                refine CW.le [(1, .obj b1 ((Command.c c).map .r))] rfl (Le.c rfl <| Le.e) ?_
                refine CW.seqJ 76 (fun (v25 : Bool) => [(2, Bo v25)]) (fun v25 => v25 = ((c.val.toList == (⟨#[]⟩ : ByteArray).toList) && (c.ver == 0))) ?_ ?_
                · refine CW.region ?_
                  refine RW.v rfl (V.field rfl rfl rfl rfl (by decide) rfl) ?_
                  refine RW.v rfl (V.loadPrim (d := S c.val) rfl rfl (.inl rfl) rfl rfl rfl) ?_
                  refine RW.v rfl (V.strCmp rfl rfl rfl rfl) ?_
                  refine RW.v rfl (V.mv (d := Bo (c.val.toList == (⟨#[]⟩ : ByteArray).toList)) rfl rfl) ?_
                  refine RW.gv rfl rfl rfl rfl (fun h26 => V.field rfl rfl rfl rfl (by decide) rfl) (fun h26 => ?_) (fun h26 => ?_)
                  · skip
                    refine RW.gt rfl rfl rfl rfl (V.loadPrim (d := I c.ver) rfl rfl (.inl rfl) rfl rfl rfl) ?_
                    refine RW.gt rfl rfl rfl rfl (V.cmpInt rfl rfl rfl rfl) ?_
                    refine RW.v rfl (V.pickT (d := Bo (c.ver == 0)) rfl rfl rfl) ?_
                    refine RW.v rfl (V.as (d := Bo (c.ver == 0)) rfl rfl) ?_
                    refine RW.nil ?_
                    exact ⟨_, by first | rfl | (simp_all; done) | (simp_all; omega) | grind, rfl, Le.c rfl <| Le.e⟩
                  · skip
                    refine RW.guardF rfl rfl rfl rfl ?_
                    refine RW.guardF rfl rfl rfl rfl ?_
                    refine RW.v rfl (V.pickF (d := Bo false) rfl rfl rfl) ?_
                    refine RW.v rfl (V.as (d := Bo false) rfl rfl) ?_
                    refine RW.nil ?_
                    exact ⟨_, by first | rfl | (simp_all; done) | (simp_all; omega) | grind, rfl, Le.c rfl <| Le.e⟩
                · intro v25 hv27
                  refine CW.ret ?_
                  exact Post.bool rfl (by first | (simp_all [cmdOk]; done) | grind [cmdOk, inR]) (AOs.a rfl AOs.e)
set_option maxHeartbeats 4000000 in
theorem impl_CommandOk_fn (c : Command) : Eng.Fn E.P 59 [.agg ((Command.c c).map .r)] (.one (.one (.w (.v (.bool (cmdOk c)))))) [.agg ((Command.c c).map .r)] := by
  refine Eng.Fn.intro (E := E) (rvs := [.tmp 2]) Try.func59 rfl rfl rfl (by simp [outSlots, moved, rvSlot]) ?_
  intro B g bo
  refine CW.le [(0, .agg ((Command.c c).map .r))] rfl (Le.c rfl <| Le.e) ?_
  refine CW.seq ?_
  refine CW.region ?_
  refine RW.box (ds := ((Command.c c).map .r)) rfl rfl rfl fun b1 => ?_
  refine RW.v rfl (V.as (d := Bo false) rfl rfl) ?_
  refine RW.nil ?_
  refine CW.le [(1, .obj b1 ((Command.c c).map .r))] rfl (Le.c rfl <| Le.e) ?_
  refine CW.seq ?_
  refine CW.seq ?_
  refine CW.region ?_
  refine RW.v rfl (V.field rfl rfl rfl rfl (by decide) rfl) ?_
  refine RW.v rfl (V.loadPrim (d := I c.op) rfl rfl (.inl rfl) rfl rfl rfl) ?_
  refine RW.nil ?_
  refine CW.le [(1, .obj b1 ((Command.c c).map .r)), (4, I c.op)] rfl (Le.c rfl <| Le.c rfl <| Le.e) ?_
  refine CW.block ?_
  refine CW.seq ?_
  refine CW.region ?_
  refine RW.v rfl (V.cmpInt rfl rfl rfl rfl) ?_
  refine RW.v rfl (V.as (d := Bo (c.op == 1)) rfl rfl) ?_
  refine RW.nil ?_
  refine CW.le [(1, .obj b1 ((Command.c c).map .r)), (4, I c.op), (5, Bo (c.op == 1))] rfl (Le.c rfl <| Le.c rfl <| Le.c rfl <| Le.e) ?_
  refine CW.cond rfl (fun h2 => ?_) (fun h2 => ?_)
  · skip
    refine CW.seq ?_
    refine CW.region ?_
    refine RW.v rfl (V.loadAgg rfl rfl rfl rfl rfl (Nat.le_of_ble_eq_true rfl)) ?_
    refine RW.v rfl (V.build (ds := [I 1, I 0, I 0, S (⟨#[]⟩), S (⟨#[]⟩), I 0]) rfl rfl rfl rfl (.one rfl rfl rfl (Nat.le_of_ble_eq_true rfl) (.nil))) ?_
    refine RW.v rfl (V.eqAgg (xs := Command.vs c) (ys := Command.vs (⟨1, 0, 0, ⟨#[]⟩, ⟨#[]⟩, 0⟩ : Command)) rfl rfl rfl (by kernel_rfl) (eq56 c (⟨1, 0, 0, ⟨#[]⟩, ⟨#[]⟩, 0⟩ : Command)) (.inl ⟨rfl, rfl⟩)) ?_
    refine RW.v rfl (V.as (d := Bo (eqCommand c (⟨1, 0, 0, ⟨#[]⟩, ⟨#[]⟩, 0⟩ : Command))) rfl rfl) ?_
    refine RW.nil ?_
    refine CW.le [(2, Bo (eqCommand c (⟨1, 0, 0, ⟨#[]⟩, ⟨#[]⟩, 0⟩ : Command)))] rfl (Le.c rfl <| Le.e) ?_
    refine CW.ret ?_
    exact Post.bool rfl (by first | (simp_all [cmdOk]; done) | grind [cmdOk, inR, eqCommand]) (AOs.a rfl AOs.e)
  · skip
    refine CW.seq ?_
    refine CW.seq ?_
    refine CW.region ?_
    refine RW.v rfl (V.cmpInt rfl rfl rfl rfl) ?_
    refine RW.v rfl (V.as (d := Bo (c.op == 3)) rfl rfl) ?_
    refine RW.nil ?_
    refine CW.le [(1, .obj b1 ((Command.c c).map .r)), (4, I c.op), (10, Bo (c.op == 3))] rfl (Le.c rfl <| Le.c rfl <| Le.c rfl <| Le.e) ?_
    refine CW.cond rfl (fun h3 => ?_) (fun h3 => ?_)
    · skip
      refine CW.le [(1, .obj b1 ((Command.c c).map .r)), (4, I c.op), (10, Bo true)] rfl (Le.c rfl <| Le.c rfl <| Le.c (congrArg Bo h3) <| Le.e) ?_
      refine CW.skip ?_
      refine CW.le [(1, .obj b1 ((Command.c c).map .r)), (4, I c.op), (10, Bo true)] rfl (Le.c rfl <| Le.c rfl <| Le.c rfl <| Le.e) ?_
      refine CW.condT rfl ?_
      refine CW.seqJ 50 (fun (v5 : Bool) => [(1, .obj b1 ((Command.c c).map .r)), (20, Bo v5)]) (fun v5 => v5 = ((!(c.val.toList == (⟨#[]⟩ : ByteArray).toList)) || (c.ver != 0))) ?_ ?_
      · refine CW.region ?_
        refine RW.v rfl (V.field rfl rfl rfl rfl (by decide) rfl) ?_
        refine RW.v rfl (V.loadPrim (d := S c.val) rfl rfl (.inl rfl) rfl rfl rfl) ?_
        refine RW.v rfl (V.strCmp rfl rfl rfl rfl) ?_
        refine RW.v rfl (V.mv (d := Bo (!(c.val.toList == (⟨#[]⟩ : ByteArray).toList))) rfl rfl) ?_
        refine RW.gv rfl rfl rfl rfl (fun h6 => V.field rfl rfl rfl rfl (by decide) rfl) (fun h6 => ?_) (fun h6 => ?_)
        · skip
          refine RW.gt rfl rfl rfl rfl (V.loadPrim (d := I c.ver) rfl rfl (.inl rfl) rfl rfl rfl) ?_
          refine RW.gt rfl rfl rfl rfl (V.cmpInt rfl rfl rfl rfl) ?_
          refine RW.v rfl (V.pickF (d := Bo (c.ver != 0)) rfl rfl rfl) ?_
          refine RW.nil ?_
          exact ⟨_, by first | rfl | (simp_all; done) | (simp_all; omega) | grind, rfl, Le.c rfl <| Le.c rfl <| Le.e⟩
        · skip
          refine RW.guardF rfl rfl rfl rfl ?_
          refine RW.guardF rfl rfl rfl rfl ?_
          refine RW.v rfl (V.pickT (d := Bo true) rfl rfl rfl) ?_
          refine RW.nil ?_
          exact ⟨_, by first | rfl | (simp_all; done) | (simp_all; omega) | grind, rfl, Le.c rfl <| Le.c rfl <| Le.e⟩
      · intro v5 hv7
        refine CW.cond rfl (fun h8 => ?_) (fun h8 => ?_)
        · skip
          refine CW.seq ?_
          refine CW.region ?_
          refine RW.v rfl (V.as (d := Bo false) rfl rfl) ?_
          refine RW.nil ?_
          refine CW.le [(2, Bo false)] rfl (Le.c rfl <| Le.e) ?_
          refine CW.ret ?_
          exact Post.bool rfl (by first | (simp_all [cmdOk]; done) | grind [cmdOk, inR, eqCommand]) (AOs.a rfl AOs.e)
        · skip
          refine CW.skip ?_
          refine CW.le [(1, .obj b1 ((Command.c c).map .r))] rfl (Le.c rfl <| Le.e) ?_
          refine CW.seqJ 50 (fun (v9 : Bool) => [(2, Bo v9)]) (fun v9 => v9 = ((((inR c.token 0 1000000) && (inR c.seq 0 1000000)) && (inR (c.key.size : Int) 1 8)) && (decide ((c.val.size : Int) ≤ 20)))) ?_ ?_
          · refine CW.region ?_
            refine RW.v rfl (V.field rfl rfl rfl rfl (by decide) rfl) ?_
            refine RW.v rfl (V.loadPrim (d := I c.token) rfl rfl (.inl rfl) rfl rfl rfl) ?_
            refine RW.call rfl (impl_isIndex_fn c.token) rfl (.cons (.one (.r .r)) (.nil)) fun g10 => ?_
            refine RW.v rfl (V.mv (d := Bo (inR c.token 0 1000000)) rfl rfl) ?_
            refine RW.gv rfl rfl rfl rfl (fun h11 => V.field rfl rfl rfl rfl (by decide) rfl) (fun h11 => ?_) (fun h11 => ?_)
            · skip
              refine RW.gt rfl rfl rfl rfl (V.loadPrim (d := I c.seq) rfl rfl (.inl rfl) rfl rfl rfl) ?_
              refine RW.gcall rfl rfl rfl rfl (impl_isIndex_fn c.seq) rfl (.cons (.one (.r .r)) (.nil)) fun g12 => ?_
              refine RW.v rfl (V.pickT (d := Bo (inR c.seq 0 1000000)) rfl rfl rfl) ?_
              refine RW.v rfl (V.mv (d := Bo (inR c.seq 0 1000000)) rfl rfl) ?_
              refine RW.gv rfl rfl rfl rfl (fun h13 => V.field rfl rfl rfl rfl (by decide) rfl) (fun h13 => ?_) (fun h13 => ?_)
              · skip
                refine RW.gt rfl rfl rfl rfl (V.loadPrim (d := S c.key) rfl rfl (.inl rfl) rfl rfl rfl) ?_
                refine RW.gcall rfl rfl rfl rfl (impl_keyOk_fn c.key) rfl (.cons (.one (.r .r)) (.nil)) fun g14 => ?_
                refine RW.v rfl (V.pickT (d := Bo (inR (c.key.size : Int) 1 8)) rfl rfl rfl) ?_
                refine RW.v rfl (V.mv (d := Bo (inR (c.key.size : Int) 1 8)) rfl rfl) ?_
                refine RW.gv rfl rfl rfl rfl (fun h15 => V.field rfl rfl rfl rfl (by decide) rfl) (fun h15 => ?_) (fun h15 => ?_)
                · skip
                  refine RW.gt rfl rfl rfl rfl (V.loadPrim (d := S c.val) rfl rfl (.inl rfl) rfl rfl rfl) ?_
                  refine RW.gcall rfl rfl rfl rfl (impl_valOk_fn c.val) rfl (.cons (.one (.r .r)) (.nil)) fun g16 => ?_
                  refine RW.v rfl (V.pickT (d := Bo (decide ((c.val.size : Int) ≤ 20))) rfl rfl rfl) ?_
                  refine RW.v rfl (V.as (d := Bo (decide ((c.val.size : Int) ≤ 20))) rfl rfl) ?_
                  refine RW.nil ?_
                  exact ⟨_, by first | rfl | (simp_all; done) | (simp_all; omega) | grind, rfl, Le.c rfl <| Le.e⟩
                · skip
                  refine RW.guardF rfl rfl rfl rfl ?_
                  refine RW.guardF rfl rfl rfl rfl ?_
                  refine RW.v rfl (V.pickF (d := Bo false) rfl rfl rfl) ?_
                  refine RW.v rfl (V.as (d := Bo false) rfl rfl) ?_
                  refine RW.nil ?_
                  exact ⟨_, by first | rfl | (simp_all; done) | (simp_all; omega) | grind, rfl, Le.c rfl <| Le.e⟩
              · skip
                refine RW.guardF rfl rfl rfl rfl ?_
                refine RW.guardF rfl rfl rfl rfl ?_
                refine RW.v rfl (V.pickF (d := Bo false) rfl rfl rfl) ?_
                refine RW.v rfl (V.mv (d := Bo false) rfl rfl) ?_
                refine RW.guardF rfl rfl rfl rfl ?_
                refine RW.guardF rfl rfl rfl rfl ?_
                refine RW.guardF rfl rfl rfl rfl ?_
                refine RW.v rfl (V.pickF (d := Bo false) rfl rfl rfl) ?_
                refine RW.v rfl (V.as (d := Bo false) rfl rfl) ?_
                refine RW.nil ?_
                exact ⟨_, by first | rfl | (simp_all; done) | (simp_all; omega) | grind, rfl, Le.c rfl <| Le.e⟩
            · skip
              refine RW.guardF rfl rfl rfl rfl ?_
              refine RW.guardF rfl rfl rfl rfl ?_
              refine RW.v rfl (V.pickF (d := Bo false) rfl rfl rfl) ?_
              refine RW.v rfl (V.mv (d := Bo false) rfl rfl) ?_
              refine RW.guardF rfl rfl rfl rfl ?_
              refine RW.guardF rfl rfl rfl rfl ?_
              refine RW.guardF rfl rfl rfl rfl ?_
              refine RW.v rfl (V.pickF (d := Bo false) rfl rfl rfl) ?_
              refine RW.v rfl (V.mv (d := Bo false) rfl rfl) ?_
              refine RW.guardF rfl rfl rfl rfl ?_
              refine RW.guardF rfl rfl rfl rfl ?_
              refine RW.guardF rfl rfl rfl rfl ?_
              refine RW.v rfl (V.pickF (d := Bo false) rfl rfl rfl) ?_
              refine RW.v rfl (V.as (d := Bo false) rfl rfl) ?_
              refine RW.nil ?_
              exact ⟨_, by first | rfl | (simp_all; done) | (simp_all; omega) | grind, rfl, Le.c rfl <| Le.e⟩
          · intro v9 hv17
            refine CW.ret ?_
            exact Post.bool rfl (by first | (simp_all [cmdOk]; done) | grind [cmdOk, inR, eqCommand]) (AOs.a rfl AOs.e)
    · skip
      refine CW.region ?_
      refine RW.v rfl (V.cmpInt rfl rfl rfl rfl) ?_
      refine RW.v rfl (V.as (d := Bo (c.op == 4)) rfl rfl) ?_
      refine RW.nil ?_
      refine CW.le [(1, .obj b1 ((Command.c c).map .r)), (4, I c.op), (10, Bo (c.op == 4))] rfl (Le.c rfl <| Le.c rfl <| Le.c rfl <| Le.e) ?_
      refine CW.cond rfl (fun h18 => ?_) (fun h18 => ?_)
      · skip
        refine CW.seqJ 50 (fun (v19 : Bool) => [(1, .obj b1 ((Command.c c).map .r)), (20, Bo v19)]) (fun v19 => v19 = ((!(c.val.toList == (⟨#[]⟩ : ByteArray).toList)) || (c.ver != 0))) ?_ ?_
        · refine CW.region ?_
          refine RW.v rfl (V.field rfl rfl rfl rfl (by decide) rfl) ?_
          refine RW.v rfl (V.loadPrim (d := S c.val) rfl rfl (.inl rfl) rfl rfl rfl) ?_
          refine RW.v rfl (V.strCmp rfl rfl rfl rfl) ?_
          refine RW.v rfl (V.mv (d := Bo (!(c.val.toList == (⟨#[]⟩ : ByteArray).toList))) rfl rfl) ?_
          refine RW.gv rfl rfl rfl rfl (fun h20 => V.field rfl rfl rfl rfl (by decide) rfl) (fun h20 => ?_) (fun h20 => ?_)
          · skip
            refine RW.gt rfl rfl rfl rfl (V.loadPrim (d := I c.ver) rfl rfl (.inl rfl) rfl rfl rfl) ?_
            refine RW.gt rfl rfl rfl rfl (V.cmpInt rfl rfl rfl rfl) ?_
            refine RW.v rfl (V.pickF (d := Bo (c.ver != 0)) rfl rfl rfl) ?_
            refine RW.nil ?_
            exact ⟨_, by first | rfl | (simp_all; done) | (simp_all; omega) | grind, rfl, Le.c rfl <| Le.c rfl <| Le.e⟩
          · skip
            refine RW.guardF rfl rfl rfl rfl ?_
            refine RW.guardF rfl rfl rfl rfl ?_
            refine RW.v rfl (V.pickT (d := Bo true) rfl rfl rfl) ?_
            refine RW.nil ?_
            exact ⟨_, by first | rfl | (simp_all; done) | (simp_all; omega) | grind, rfl, Le.c rfl <| Le.c rfl <| Le.e⟩
        · intro v19 hv21
          refine CW.cond rfl (fun h22 => ?_) (fun h22 => ?_)
          · skip
            refine CW.seq ?_
            refine CW.region ?_
            refine RW.v rfl (V.as (d := Bo false) rfl rfl) ?_
            refine RW.nil ?_
            refine CW.le [(2, Bo false)] rfl (Le.c rfl <| Le.e) ?_
            refine CW.ret ?_
            exact Post.bool rfl (by first | (simp_all [cmdOk]; done) | grind [cmdOk, inR, eqCommand]) (AOs.a rfl AOs.e)
          · skip
            refine CW.skip ?_
            refine CW.le [(1, .obj b1 ((Command.c c).map .r))] rfl (Le.c rfl <| Le.e) ?_
            refine CW.seqJ 50 (fun (v23 : Bool) => [(2, Bo v23)]) (fun v23 => v23 = ((((inR c.token 0 1000000) && (inR c.seq 0 1000000)) && (inR (c.key.size : Int) 1 8)) && (decide ((c.val.size : Int) ≤ 20)))) ?_ ?_
            · refine CW.region ?_
              refine RW.v rfl (V.field rfl rfl rfl rfl (by decide) rfl) ?_
              refine RW.v rfl (V.loadPrim (d := I c.token) rfl rfl (.inl rfl) rfl rfl rfl) ?_
              refine RW.call rfl (impl_isIndex_fn c.token) rfl (.cons (.one (.r .r)) (.nil)) fun g24 => ?_
              refine RW.v rfl (V.mv (d := Bo (inR c.token 0 1000000)) rfl rfl) ?_
              refine RW.gv rfl rfl rfl rfl (fun h25 => V.field rfl rfl rfl rfl (by decide) rfl) (fun h25 => ?_) (fun h25 => ?_)
              · skip
                refine RW.gt rfl rfl rfl rfl (V.loadPrim (d := I c.seq) rfl rfl (.inl rfl) rfl rfl rfl) ?_
                refine RW.gcall rfl rfl rfl rfl (impl_isIndex_fn c.seq) rfl (.cons (.one (.r .r)) (.nil)) fun g26 => ?_
                refine RW.v rfl (V.pickT (d := Bo (inR c.seq 0 1000000)) rfl rfl rfl) ?_
                refine RW.v rfl (V.mv (d := Bo (inR c.seq 0 1000000)) rfl rfl) ?_
                refine RW.gv rfl rfl rfl rfl (fun h27 => V.field rfl rfl rfl rfl (by decide) rfl) (fun h27 => ?_) (fun h27 => ?_)
                · skip
                  refine RW.gt rfl rfl rfl rfl (V.loadPrim (d := S c.key) rfl rfl (.inl rfl) rfl rfl rfl) ?_
                  refine RW.gcall rfl rfl rfl rfl (impl_keyOk_fn c.key) rfl (.cons (.one (.r .r)) (.nil)) fun g28 => ?_
                  refine RW.v rfl (V.pickT (d := Bo (inR (c.key.size : Int) 1 8)) rfl rfl rfl) ?_
                  refine RW.v rfl (V.mv (d := Bo (inR (c.key.size : Int) 1 8)) rfl rfl) ?_
                  refine RW.gv rfl rfl rfl rfl (fun h29 => V.field rfl rfl rfl rfl (by decide) rfl) (fun h29 => ?_) (fun h29 => ?_)
                  · skip
                    refine RW.gt rfl rfl rfl rfl (V.loadPrim (d := S c.val) rfl rfl (.inl rfl) rfl rfl rfl) ?_
                    refine RW.gcall rfl rfl rfl rfl (impl_valOk_fn c.val) rfl (.cons (.one (.r .r)) (.nil)) fun g30 => ?_
                    refine RW.v rfl (V.pickT (d := Bo (decide ((c.val.size : Int) ≤ 20))) rfl rfl rfl) ?_
                    refine RW.v rfl (V.as (d := Bo (decide ((c.val.size : Int) ≤ 20))) rfl rfl) ?_
                    refine RW.nil ?_
                    exact ⟨_, by first | rfl | (simp_all; done) | (simp_all; omega) | grind, rfl, Le.c rfl <| Le.e⟩
                  · skip
                    refine RW.guardF rfl rfl rfl rfl ?_
                    refine RW.guardF rfl rfl rfl rfl ?_
                    refine RW.v rfl (V.pickF (d := Bo false) rfl rfl rfl) ?_
                    refine RW.v rfl (V.as (d := Bo false) rfl rfl) ?_
                    refine RW.nil ?_
                    exact ⟨_, by first | rfl | (simp_all; done) | (simp_all; omega) | grind, rfl, Le.c rfl <| Le.e⟩
                · skip
                  refine RW.guardF rfl rfl rfl rfl ?_
                  refine RW.guardF rfl rfl rfl rfl ?_
                  refine RW.v rfl (V.pickF (d := Bo false) rfl rfl rfl) ?_
                  refine RW.v rfl (V.mv (d := Bo false) rfl rfl) ?_
                  refine RW.guardF rfl rfl rfl rfl ?_
                  refine RW.guardF rfl rfl rfl rfl ?_
                  refine RW.guardF rfl rfl rfl rfl ?_
                  refine RW.v rfl (V.pickF (d := Bo false) rfl rfl rfl) ?_
                  refine RW.v rfl (V.as (d := Bo false) rfl rfl) ?_
                  refine RW.nil ?_
                  exact ⟨_, by first | rfl | (simp_all; done) | (simp_all; omega) | grind, rfl, Le.c rfl <| Le.e⟩
              · skip
                refine RW.guardF rfl rfl rfl rfl ?_
                refine RW.guardF rfl rfl rfl rfl ?_
                refine RW.v rfl (V.pickF (d := Bo false) rfl rfl rfl) ?_
                refine RW.v rfl (V.mv (d := Bo false) rfl rfl) ?_
                refine RW.guardF rfl rfl rfl rfl ?_
                refine RW.guardF rfl rfl rfl rfl ?_
                refine RW.guardF rfl rfl rfl rfl ?_
                refine RW.v rfl (V.pickF (d := Bo false) rfl rfl rfl) ?_
                refine RW.v rfl (V.mv (d := Bo false) rfl rfl) ?_
                refine RW.guardF rfl rfl rfl rfl ?_
                refine RW.guardF rfl rfl rfl rfl ?_
                refine RW.guardF rfl rfl rfl rfl ?_
                refine RW.v rfl (V.pickF (d := Bo false) rfl rfl rfl) ?_
                refine RW.v rfl (V.as (d := Bo false) rfl rfl) ?_
                refine RW.nil ?_
                exact ⟨_, by first | rfl | (simp_all; done) | (simp_all; omega) | grind, rfl, Le.c rfl <| Le.e⟩
            · intro v23 hv31
              refine CW.ret ?_
              exact Post.bool rfl (by first | (simp_all [cmdOk]; done) | grind [cmdOk, inR, eqCommand]) (AOs.a rfl AOs.e)
      · skip
        refine CW.seq ?_
        refine CW.region ?_
        refine RW.v rfl (V.cmpInt rfl rfl rfl rfl) ?_
        refine RW.v rfl (V.as (d := Bo (c.op == 2)) rfl rfl) ?_
        refine RW.nil ?_
        refine CW.le [(1, .obj b1 ((Command.c c).map .r)), (4, I c.op), (21, Bo (c.op == 2))] rfl (Le.c rfl <| Le.c rfl <| Le.c rfl <| Le.e) ?_
        refine CW.cond rfl (fun h32 => ?_) (fun h32 => ?_)
        · skip
          refine CW.seq ?_
          refine CW.region ?_
          refine RW.v rfl (V.field rfl rfl rfl rfl (by decide) rfl) ?_
          refine RW.v rfl (V.loadPrim (d := I c.ver) rfl rfl (.inl rfl) rfl rfl rfl) ?_
          refine RW.v rfl (V.cmpInt rfl rfl rfl rfl) ?_
          refine RW.nil ?_
          refine CW.le [(1, .obj b1 ((Command.c c).map .r)), (25, Bo (c.ver != 0))] rfl (Le.c rfl <| Le.c rfl <| Le.e) ?_
          refine CW.cond rfl (fun h33 => ?_) (fun h33 => ?_)
          · skip
            refine CW.seq ?_
            refine CW.region ?_
            refine RW.v rfl (V.as (d := Bo false) rfl rfl) ?_
            refine RW.nil ?_
            refine CW.le [(2, Bo false)] rfl (Le.c rfl <| Le.e) ?_
            refine CW.ret ?_
            exact Post.bool rfl (by first | (simp_all [cmdOk]; done) | grind [cmdOk, inR, eqCommand]) (AOs.a rfl AOs.e)
          · skip
            refine CW.skip ?_
            refine CW.le [(1, .obj b1 ((Command.c c).map .r))] rfl (Le.c rfl <| Le.e) ?_
            refine CW.seqJ 50 (fun (v34 : Bool) => [(2, Bo v34)]) (fun v34 => v34 = ((((inR c.token 0 1000000) && (inR c.seq 0 1000000)) && (inR (c.key.size : Int) 1 8)) && (decide ((c.val.size : Int) ≤ 20)))) ?_ ?_
            · refine CW.region ?_
              refine RW.v rfl (V.field rfl rfl rfl rfl (by decide) rfl) ?_
              refine RW.v rfl (V.loadPrim (d := I c.token) rfl rfl (.inl rfl) rfl rfl rfl) ?_
              refine RW.call rfl (impl_isIndex_fn c.token) rfl (.cons (.one (.r .r)) (.nil)) fun g35 => ?_
              refine RW.v rfl (V.mv (d := Bo (inR c.token 0 1000000)) rfl rfl) ?_
              refine RW.gv rfl rfl rfl rfl (fun h36 => V.field rfl rfl rfl rfl (by decide) rfl) (fun h36 => ?_) (fun h36 => ?_)
              · skip
                refine RW.gt rfl rfl rfl rfl (V.loadPrim (d := I c.seq) rfl rfl (.inl rfl) rfl rfl rfl) ?_
                refine RW.gcall rfl rfl rfl rfl (impl_isIndex_fn c.seq) rfl (.cons (.one (.r .r)) (.nil)) fun g37 => ?_
                refine RW.v rfl (V.pickT (d := Bo (inR c.seq 0 1000000)) rfl rfl rfl) ?_
                refine RW.v rfl (V.mv (d := Bo (inR c.seq 0 1000000)) rfl rfl) ?_
                refine RW.gv rfl rfl rfl rfl (fun h38 => V.field rfl rfl rfl rfl (by decide) rfl) (fun h38 => ?_) (fun h38 => ?_)
                · skip
                  refine RW.gt rfl rfl rfl rfl (V.loadPrim (d := S c.key) rfl rfl (.inl rfl) rfl rfl rfl) ?_
                  refine RW.gcall rfl rfl rfl rfl (impl_keyOk_fn c.key) rfl (.cons (.one (.r .r)) (.nil)) fun g39 => ?_
                  refine RW.v rfl (V.pickT (d := Bo (inR (c.key.size : Int) 1 8)) rfl rfl rfl) ?_
                  refine RW.v rfl (V.mv (d := Bo (inR (c.key.size : Int) 1 8)) rfl rfl) ?_
                  refine RW.gv rfl rfl rfl rfl (fun h40 => V.field rfl rfl rfl rfl (by decide) rfl) (fun h40 => ?_) (fun h40 => ?_)
                  · skip
                    refine RW.gt rfl rfl rfl rfl (V.loadPrim (d := S c.val) rfl rfl (.inl rfl) rfl rfl rfl) ?_
                    refine RW.gcall rfl rfl rfl rfl (impl_valOk_fn c.val) rfl (.cons (.one (.r .r)) (.nil)) fun g41 => ?_
                    refine RW.v rfl (V.pickT (d := Bo (decide ((c.val.size : Int) ≤ 20))) rfl rfl rfl) ?_
                    refine RW.v rfl (V.as (d := Bo (decide ((c.val.size : Int) ≤ 20))) rfl rfl) ?_
                    refine RW.nil ?_
                    exact ⟨_, by first | rfl | (simp_all; done) | (simp_all; omega) | grind, rfl, Le.c rfl <| Le.e⟩
                  · skip
                    refine RW.guardF rfl rfl rfl rfl ?_
                    refine RW.guardF rfl rfl rfl rfl ?_
                    refine RW.v rfl (V.pickF (d := Bo false) rfl rfl rfl) ?_
                    refine RW.v rfl (V.as (d := Bo false) rfl rfl) ?_
                    refine RW.nil ?_
                    exact ⟨_, by first | rfl | (simp_all; done) | (simp_all; omega) | grind, rfl, Le.c rfl <| Le.e⟩
                · skip
                  refine RW.guardF rfl rfl rfl rfl ?_
                  refine RW.guardF rfl rfl rfl rfl ?_
                  refine RW.v rfl (V.pickF (d := Bo false) rfl rfl rfl) ?_
                  refine RW.v rfl (V.mv (d := Bo false) rfl rfl) ?_
                  refine RW.guardF rfl rfl rfl rfl ?_
                  refine RW.guardF rfl rfl rfl rfl ?_
                  refine RW.guardF rfl rfl rfl rfl ?_
                  refine RW.v rfl (V.pickF (d := Bo false) rfl rfl rfl) ?_
                  refine RW.v rfl (V.as (d := Bo false) rfl rfl) ?_
                  refine RW.nil ?_
                  exact ⟨_, by first | rfl | (simp_all; done) | (simp_all; omega) | grind, rfl, Le.c rfl <| Le.e⟩
              · skip
                refine RW.guardF rfl rfl rfl rfl ?_
                refine RW.guardF rfl rfl rfl rfl ?_
                refine RW.v rfl (V.pickF (d := Bo false) rfl rfl rfl) ?_
                refine RW.v rfl (V.mv (d := Bo false) rfl rfl) ?_
                refine RW.guardF rfl rfl rfl rfl ?_
                refine RW.guardF rfl rfl rfl rfl ?_
                refine RW.guardF rfl rfl rfl rfl ?_
                refine RW.v rfl (V.pickF (d := Bo false) rfl rfl rfl) ?_
                refine RW.v rfl (V.mv (d := Bo false) rfl rfl) ?_
                refine RW.guardF rfl rfl rfl rfl ?_
                refine RW.guardF rfl rfl rfl rfl ?_
                refine RW.guardF rfl rfl rfl rfl ?_
                refine RW.v rfl (V.pickF (d := Bo false) rfl rfl rfl) ?_
                refine RW.v rfl (V.as (d := Bo false) rfl rfl) ?_
                refine RW.nil ?_
                exact ⟨_, by first | rfl | (simp_all; done) | (simp_all; omega) | grind, rfl, Le.c rfl <| Le.e⟩
            · intro v34 hv42
              refine CW.ret ?_
              exact Post.bool rfl (by first | (simp_all [cmdOk]; done) | grind [cmdOk, inR, eqCommand]) (AOs.a rfl AOs.e)
        · skip
          refine CW.seq ?_
          refine CW.region ?_
          refine RW.v rfl (V.cmpInt rfl rfl rfl rfl) ?_
          refine RW.v rfl (V.as (d := Bo (c.op == 5)) rfl rfl) ?_
          refine RW.nil ?_
          refine CW.le [(1, .obj b1 ((Command.c c).map .r)), (26, Bo (c.op == 5))] rfl (Le.c rfl <| Le.c rfl <| Le.e) ?_
          refine CW.cond rfl (fun h43 => ?_) (fun h43 => ?_)
          · skip
            refine CW.seq ?_
            refine CW.region ?_
            refine RW.v rfl (V.field rfl rfl rfl rfl (by decide) rfl) ?_
            refine RW.v rfl (V.loadPrim (d := I c.ver) rfl rfl (.inl rfl) rfl rfl rfl) ?_
            refine RW.call rfl (impl_within_fn c.ver 1 1000000000) rfl (.cons (.one (.r .r)) (.cons (.one (.r .r)) (.cons (.one (.r .r)) (.nil)))) fun g44 => ?_
            refine RW.v rfl (V.not rfl rfl) ?_
            refine RW.nil ?_
            refine CW.le [(1, .obj b1 ((Command.c c).map .r)), (31, Bo (!(inR c.ver 1 1000000000)))] rfl (Le.c rfl <| Le.c rfl <| Le.e) ?_
            refine CW.cond rfl (fun h45 => ?_) (fun h45 => ?_)
            · skip
              refine CW.seq ?_
              refine CW.region ?_
              refine RW.v rfl (V.as (d := Bo false) rfl rfl) ?_
              refine RW.nil ?_
              refine CW.le [(2, Bo false)] rfl (Le.c rfl <| Le.e) ?_
              refine CW.ret ?_
              exact Post.bool rfl (by first | (simp_all [cmdOk]; done) | grind [cmdOk, inR, eqCommand]) (AOs.a rfl AOs.e)
            · skip
              refine CW.skip ?_
              refine CW.le [(1, .obj b1 ((Command.c c).map .r))] rfl (Le.c rfl <| Le.e) ?_
              refine CW.seqJ 50 (fun (v46 : Bool) => [(2, Bo v46)]) (fun v46 => v46 = ((((inR c.token 0 1000000) && (inR c.seq 0 1000000)) && (inR (c.key.size : Int) 1 8)) && (decide ((c.val.size : Int) ≤ 20)))) ?_ ?_
              · refine CW.region ?_
                refine RW.v rfl (V.field rfl rfl rfl rfl (by decide) rfl) ?_
                refine RW.v rfl (V.loadPrim (d := I c.token) rfl rfl (.inl rfl) rfl rfl rfl) ?_
                refine RW.call rfl (impl_isIndex_fn c.token) rfl (.cons (.one (.r .r)) (.nil)) fun g47 => ?_
                refine RW.v rfl (V.mv (d := Bo (inR c.token 0 1000000)) rfl rfl) ?_
                refine RW.gv rfl rfl rfl rfl (fun h48 => V.field rfl rfl rfl rfl (by decide) rfl) (fun h48 => ?_) (fun h48 => ?_)
                · skip
                  refine RW.gt rfl rfl rfl rfl (V.loadPrim (d := I c.seq) rfl rfl (.inl rfl) rfl rfl rfl) ?_
                  refine RW.gcall rfl rfl rfl rfl (impl_isIndex_fn c.seq) rfl (.cons (.one (.r .r)) (.nil)) fun g49 => ?_
                  refine RW.v rfl (V.pickT (d := Bo (inR c.seq 0 1000000)) rfl rfl rfl) ?_
                  refine RW.v rfl (V.mv (d := Bo (inR c.seq 0 1000000)) rfl rfl) ?_
                  refine RW.gv rfl rfl rfl rfl (fun h50 => V.field rfl rfl rfl rfl (by decide) rfl) (fun h50 => ?_) (fun h50 => ?_)
                  · skip
                    refine RW.gt rfl rfl rfl rfl (V.loadPrim (d := S c.key) rfl rfl (.inl rfl) rfl rfl rfl) ?_
                    refine RW.gcall rfl rfl rfl rfl (impl_keyOk_fn c.key) rfl (.cons (.one (.r .r)) (.nil)) fun g51 => ?_
                    refine RW.v rfl (V.pickT (d := Bo (inR (c.key.size : Int) 1 8)) rfl rfl rfl) ?_
                    refine RW.v rfl (V.mv (d := Bo (inR (c.key.size : Int) 1 8)) rfl rfl) ?_
                    refine RW.gv rfl rfl rfl rfl (fun h52 => V.field rfl rfl rfl rfl (by decide) rfl) (fun h52 => ?_) (fun h52 => ?_)
                    · skip
                      refine RW.gt rfl rfl rfl rfl (V.loadPrim (d := S c.val) rfl rfl (.inl rfl) rfl rfl rfl) ?_
                      refine RW.gcall rfl rfl rfl rfl (impl_valOk_fn c.val) rfl (.cons (.one (.r .r)) (.nil)) fun g53 => ?_
                      refine RW.v rfl (V.pickT (d := Bo (decide ((c.val.size : Int) ≤ 20))) rfl rfl rfl) ?_
                      refine RW.v rfl (V.as (d := Bo (decide ((c.val.size : Int) ≤ 20))) rfl rfl) ?_
                      refine RW.nil ?_
                      exact ⟨_, by first | rfl | (simp_all; done) | (simp_all; omega) | grind, rfl, Le.c rfl <| Le.e⟩
                    · skip
                      refine RW.guardF rfl rfl rfl rfl ?_
                      refine RW.guardF rfl rfl rfl rfl ?_
                      refine RW.v rfl (V.pickF (d := Bo false) rfl rfl rfl) ?_
                      refine RW.v rfl (V.as (d := Bo false) rfl rfl) ?_
                      refine RW.nil ?_
                      exact ⟨_, by first | rfl | (simp_all; done) | (simp_all; omega) | grind, rfl, Le.c rfl <| Le.e⟩
                  · skip
                    refine RW.guardF rfl rfl rfl rfl ?_
                    refine RW.guardF rfl rfl rfl rfl ?_
                    refine RW.v rfl (V.pickF (d := Bo false) rfl rfl rfl) ?_
                    refine RW.v rfl (V.mv (d := Bo false) rfl rfl) ?_
                    refine RW.guardF rfl rfl rfl rfl ?_
                    refine RW.guardF rfl rfl rfl rfl ?_
                    refine RW.guardF rfl rfl rfl rfl ?_
                    refine RW.v rfl (V.pickF (d := Bo false) rfl rfl rfl) ?_
                    refine RW.v rfl (V.as (d := Bo false) rfl rfl) ?_
                    refine RW.nil ?_
                    exact ⟨_, by first | rfl | (simp_all; done) | (simp_all; omega) | grind, rfl, Le.c rfl <| Le.e⟩
                · skip
                  refine RW.guardF rfl rfl rfl rfl ?_
                  refine RW.guardF rfl rfl rfl rfl ?_
                  refine RW.v rfl (V.pickF (d := Bo false) rfl rfl rfl) ?_
                  refine RW.v rfl (V.mv (d := Bo false) rfl rfl) ?_
                  refine RW.guardF rfl rfl rfl rfl ?_
                  refine RW.guardF rfl rfl rfl rfl ?_
                  refine RW.guardF rfl rfl rfl rfl ?_
                  refine RW.v rfl (V.pickF (d := Bo false) rfl rfl rfl) ?_
                  refine RW.v rfl (V.mv (d := Bo false) rfl rfl) ?_
                  refine RW.guardF rfl rfl rfl rfl ?_
                  refine RW.guardF rfl rfl rfl rfl ?_
                  refine RW.guardF rfl rfl rfl rfl ?_
                  refine RW.v rfl (V.pickF (d := Bo false) rfl rfl rfl) ?_
                  refine RW.v rfl (V.as (d := Bo false) rfl rfl) ?_
                  refine RW.nil ?_
                  exact ⟨_, by first | rfl | (simp_all; done) | (simp_all; omega) | grind, rfl, Le.c rfl <| Le.e⟩
              · intro v46 hv54
                refine CW.ret ?_
                exact Post.bool rfl (by first | (simp_all [cmdOk]; done) | grind [cmdOk, inR, eqCommand]) (AOs.a rfl AOs.e)
          · skip
            refine CW.seq ?_
            refine CW.region ?_
            refine RW.v rfl (V.as (d := Bo false) rfl rfl) ?_
            refine RW.nil ?_
            refine CW.le [(2, Bo false)] rfl (Le.c rfl <| Le.e) ?_
            refine CW.ret ?_
            exact Post.bool rfl (by first | (simp_all [cmdOk]; done) | grind [cmdOk, inR, eqCommand]) (AOs.a rfl AOs.e)
set_option maxHeartbeats 4000000 in
theorem spec_HappenOk_fn (n : Int) (e : Happen) (hlc : e.conf.length ≤ maxLen) : Eng.Fn E.P 33 [.one (.r (.v (.int .i64 n))), .agg ((Happen.c e).map .r)] (.one (.one (.w (.v (.bool (happenOk n e)))))) [.one (.r (.v (.int .i64 n))), .agg ((Happen.c e).map .r)] := by
  refine Eng.Fn.intro (E := E) (rvs := [.tmp 4]) Try.func33 rfl rfl rfl (by simp [outSlots, moved, rvSlot]) ?_
  intro B g bo
  refine CW.le [(0, I n), (1, .agg ((Happen.c e).map .r))] rfl (Le.c rfl <| Le.c rfl <| Le.e) ?_
  refine CW.seq ?_
  refine CW.region ?_
  refine RW.box (ds := ((Happen.c e).map .r)) rfl rfl rfl fun b1 => ?_
  refine RW.v rfl (V.as (d := Bo false) rfl rfl) ?_
  refine RW.nil ?_
  refine CW.le [(0, I n), (3, .obj b1 ((Happen.c e).map .r))] rfl (Le.c rfl <| Le.c rfl <| Le.e) ?_
  refine CW.seq ?_
  refine CW.seqJ 62 (fun (v2 : Bool) => [(0, I n), (3, .obj b1 ((Happen.c e).map .r)), (31, Bo v2)]) (fun v2 => v2 = (((((!(inR n 1 4)) || (!(inR e.kind 1 9))) || (!(inR e.node 1 n))) || decide (e.at_ < 0)) || decide ((e.left.length : Int) > 30))) ?_ ?_
  · refine CW.region ?_
    refine RW.v rfl (V.mv (d := I n) rfl rfl) ?_
    refine RW.call rfl (spec_l01In_fn n 1 4) rfl (.cons (.one (.r .r)) (.cons (.one (.r .r)) (.cons (.one (.r .r)) (.nil)))) fun g3 => ?_
    refine RW.v rfl (V.not rfl rfl) ?_
    refine RW.v rfl (V.mv (d := Bo (!(inR n 1 4))) rfl rfl) ?_
    refine RW.gv rfl rfl rfl rfl (fun h4 => V.field rfl rfl rfl rfl (by decide) rfl) (fun h4 => ?_) (fun h4 => ?_)
    · skip
      refine RW.gt rfl rfl rfl rfl (V.loadPrim (d := I e.kind) rfl rfl (.inl rfl) rfl rfl rfl) ?_
      refine RW.gcall rfl rfl rfl rfl (spec_l01In_fn e.kind 1 9) rfl (.cons (.one (.r .r)) (.cons (.one (.r .r)) (.cons (.one (.r .r)) (.nil)))) fun g5 => ?_
      refine RW.gt rfl rfl rfl rfl (V.not rfl rfl) ?_
      refine RW.v rfl (V.pickF (d := Bo (!(inR e.kind 1 9))) rfl rfl rfl) ?_
      refine RW.v rfl (V.mv (d := Bo (!(inR e.kind 1 9))) rfl rfl) ?_
      refine RW.gv rfl rfl rfl rfl (fun h6 => V.field rfl rfl rfl rfl (by decide) rfl) (fun h6 => ?_) (fun h6 => ?_)
      · skip
        refine RW.gt rfl rfl rfl rfl (V.loadPrim (d := I e.node) rfl rfl (.inl rfl) rfl rfl rfl) ?_
        refine RW.gt rfl rfl rfl rfl (V.mv (d := I n) rfl rfl) ?_
        refine RW.gcall rfl rfl rfl rfl (spec_l01In_fn e.node 1 n) rfl (.cons (.one (.r .r)) (.cons (.one (.r .r)) (.cons (.one (.r .r)) (.nil)))) fun g7 => ?_
        refine RW.gt rfl rfl rfl rfl (V.not rfl rfl) ?_
        refine RW.v rfl (V.pickF (d := Bo (!(inR e.node 1 n))) rfl rfl rfl) ?_
        refine RW.v rfl (V.mv (d := Bo (!(inR e.node 1 n))) rfl rfl) ?_
        refine RW.gv rfl rfl rfl rfl (fun h8 => V.field rfl rfl rfl rfl (by decide) rfl) (fun h8 => ?_) (fun h8 => ?_)
        · skip
          refine RW.gt rfl rfl rfl rfl (V.loadPrim (d := I e.at_) rfl rfl (.inl rfl) rfl rfl rfl) ?_
          refine RW.gt rfl rfl rfl rfl (V.cmpInt rfl rfl rfl rfl) ?_
          refine RW.v rfl (V.pickF (d := Bo (decide (e.at_ < 0))) rfl rfl rfl) ?_
          refine RW.v rfl (V.mv (d := Bo (decide (e.at_ < 0))) rfl rfl) ?_
          refine RW.gv rfl rfl rfl rfl (fun h9 => V.field rfl rfl rfl rfl (by decide) rfl) (fun h9 => ?_) (fun h9 => ?_)
          · skip
            refine RW.gt rfl rfl rfl rfl (V.loadPrim (d := .r (sl 1 cI e.left)) rfl rfl (.inr ⟨_, rfl⟩) rfl rfl rfl) ?_
            refine RW.gt rfl rfl rfl rfl (V.lenT (n := e.left.length) rfl rfl rfl .r) ?_
            refine RW.gt rfl rfl rfl rfl (V.cmpInt rfl rfl rfl rfl) ?_
            refine RW.v rfl (V.pickF (d := Bo (decide ((e.left.length : Int) > 30))) rfl rfl rfl) ?_
            refine RW.nil ?_
            exact ⟨_, by first | rfl | (simp_all; done) | (simp_all; omega) | grind, rfl, Le.c rfl <| Le.c rfl <| Le.c rfl <| Le.e⟩
          · skip
            refine RW.guardF rfl rfl rfl rfl ?_
            refine RW.guardF rfl rfl rfl rfl ?_
            refine RW.guardF rfl rfl rfl rfl ?_
            refine RW.v rfl (V.pickT (d := Bo true) rfl rfl rfl) ?_
            refine RW.nil ?_
            exact ⟨_, by first | rfl | (simp_all; done) | (simp_all; omega) | grind, rfl, Le.c rfl <| Le.c rfl <| Le.c rfl <| Le.e⟩
        · skip
          refine RW.guardF rfl rfl rfl rfl ?_
          refine RW.guardF rfl rfl rfl rfl ?_
          refine RW.v rfl (V.pickT (d := Bo true) rfl rfl rfl) ?_
          refine RW.v rfl (V.mv (d := Bo true) rfl rfl) ?_
          refine RW.guardF rfl rfl rfl rfl ?_
          refine RW.guardF rfl rfl rfl rfl ?_
          refine RW.guardF rfl rfl rfl rfl ?_
          refine RW.guardF rfl rfl rfl rfl ?_
          refine RW.v rfl (V.pickT (d := Bo true) rfl rfl rfl) ?_
          refine RW.nil ?_
          exact ⟨_, by first | rfl | (simp_all; done) | (simp_all; omega) | grind, rfl, Le.c rfl <| Le.c rfl <| Le.c rfl <| Le.e⟩
      · skip
        refine RW.guardF rfl rfl rfl rfl ?_
        refine RW.guardF rfl rfl rfl rfl ?_
        refine RW.guardF rfl rfl rfl rfl ?_
        refine RW.guardF rfl rfl rfl rfl ?_
        refine RW.v rfl (V.pickT (d := Bo true) rfl rfl rfl) ?_
        refine RW.v rfl (V.mv (d := Bo true) rfl rfl) ?_
        refine RW.guardF rfl rfl rfl rfl ?_
        refine RW.guardF rfl rfl rfl rfl ?_
        refine RW.guardF rfl rfl rfl rfl ?_
        refine RW.v rfl (V.pickT (d := Bo true) rfl rfl rfl) ?_
        refine RW.v rfl (V.mv (d := Bo true) rfl rfl) ?_
        refine RW.guardF rfl rfl rfl rfl ?_
        refine RW.guardF rfl rfl rfl rfl ?_
        refine RW.guardF rfl rfl rfl rfl ?_
        refine RW.guardF rfl rfl rfl rfl ?_
        refine RW.v rfl (V.pickT (d := Bo true) rfl rfl rfl) ?_
        refine RW.nil ?_
        exact ⟨_, by first | rfl | (simp_all; done) | (simp_all; omega) | grind, rfl, Le.c rfl <| Le.c rfl <| Le.c rfl <| Le.e⟩
    · skip
      refine RW.guardF rfl rfl rfl rfl ?_
      refine RW.guardF rfl rfl rfl rfl ?_
      refine RW.guardF rfl rfl rfl rfl ?_
      refine RW.v rfl (V.pickT (d := Bo true) rfl rfl rfl) ?_
      refine RW.v rfl (V.mv (d := Bo true) rfl rfl) ?_
      refine RW.guardF rfl rfl rfl rfl ?_
      refine RW.guardF rfl rfl rfl rfl ?_
      refine RW.guardF rfl rfl rfl rfl ?_
      refine RW.guardF rfl rfl rfl rfl ?_
      refine RW.guardF rfl rfl rfl rfl ?_
      refine RW.v rfl (V.pickT (d := Bo true) rfl rfl rfl) ?_
      refine RW.v rfl (V.mv (d := Bo true) rfl rfl) ?_
      refine RW.guardF rfl rfl rfl rfl ?_
      refine RW.guardF rfl rfl rfl rfl ?_
      refine RW.guardF rfl rfl rfl rfl ?_
      refine RW.v rfl (V.pickT (d := Bo true) rfl rfl rfl) ?_
      refine RW.v rfl (V.mv (d := Bo true) rfl rfl) ?_
      refine RW.guardF rfl rfl rfl rfl ?_
      refine RW.guardF rfl rfl rfl rfl ?_
      refine RW.guardF rfl rfl rfl rfl ?_
      refine RW.guardF rfl rfl rfl rfl ?_
      refine RW.v rfl (V.pickT (d := Bo true) rfl rfl rfl) ?_
      refine RW.nil ?_
      exact ⟨_, by first | rfl | (simp_all; done) | (simp_all; omega) | grind, rfl, Le.c rfl <| Le.c rfl <| Le.c rfl <| Le.e⟩
  · intro v2 hv10
    refine CW.cond rfl (fun h11 => ?_) (fun h11 => ?_)
    · skip
      refine CW.seq ?_
      refine CW.region ?_
      refine RW.v rfl (V.as (d := Bo false) rfl rfl) ?_
      refine RW.nil ?_
      refine CW.le [(4, Bo false)] rfl (Le.c rfl <| Le.e) ?_
      refine CW.ret ?_
      exact Post.bool rfl (by first | (simp_all [happenOk]; done) | grind [happenOk, confFits]) (AOs.r (AOs.a rfl AOs.e))
    · skip
      refine CW.skip ?_
      refine CW.le [(0, I n), (3, .obj b1 ((Happen.c e).map .r))] rfl (Le.c rfl <| Le.c rfl <| Le.e) ?_
      refine CW.seq ?_
      refine CW.seq ?_
      refine CW.region ?_
      refine RW.v rfl (V.field rfl rfl rfl rfl (by decide) rfl) ?_
      refine RW.v rfl (V.loadPrim (d := I e.kind) rfl rfl (.inl rfl) rfl rfl rfl) ?_
      refine RW.nil ?_
      refine CW.le [(0, I n), (3, .obj b1 ((Happen.c e).map .r)), (33, I e.kind)] rfl (Le.c rfl <| Le.c rfl <| Le.c rfl <| Le.e) ?_
      refine CW.block ?_
      refine CW.seq ?_
      refine CW.seq ?_
      refine CW.region ?_
      refine RW.v rfl (V.cmpInt rfl rfl rfl rfl) ?_
      refine RW.v rfl (V.as (d := Bo (e.kind == 1)) rfl rfl) ?_
      refine RW.nil ?_
      refine CW.le [(0, I n), (3, .obj b1 ((Happen.c e).map .r)), (33, I e.kind), (34, Bo (e.kind == 1))] rfl (Le.c rfl <| Le.c rfl <| Le.c rfl <| Le.c rfl <| Le.e) ?_
      refine CW.cond rfl (fun h12 => ?_) (fun h12 => ?_)
      · skip
        refine CW.le [(0, I n), (3, .obj b1 ((Happen.c e).map .r)), (33, I e.kind), (34, Bo true)] rfl (Le.c rfl <| Le.c rfl <| Le.c rfl <| Le.c (congrArg Bo h12) <| Le.e) ?_
        refine CW.skip ?_
        refine CW.le [(0, I n), (3, .obj b1 ((Happen.c e).map .r)), (33, I e.kind), (34, Bo true)] rfl (Le.c rfl <| Le.c rfl <| Le.c rfl <| Le.c rfl <| Le.e) ?_
        refine CW.condT rfl ?_
        refine CW.seq ?_
        refine CW.region ?_
        refine RW.v rfl (V.field rfl rfl rfl rfl (by decide) rfl) ?_
        refine RW.v rfl (V.loadPrim (d := I e.limit) rfl rfl (.inl rfl) rfl rfl rfl) ?_
        refine RW.call rfl (spec_l01In_fn e.limit 1 20) rfl (.cons (.one (.r .r)) (.cons (.one (.r .r)) (.cons (.one (.r .r)) (.nil)))) fun g14 => ?_
        refine RW.v rfl (V.as (d := Bo (inR e.limit 1 20)) rfl rfl) ?_
        refine RW.nil ?_
        refine CW.le [(4, Bo (inR e.limit 1 20))] rfl (Le.c rfl <| Le.e) ?_
        refine CW.ret ?_
        exact Post.bool rfl (by first | (simp_all [happenOk]; done) | grind [happenOk, confFits]) (AOs.r (AOs.a rfl AOs.e))
      · skip
        refine CW.region ?_
        refine RW.v rfl (V.cmpInt rfl rfl rfl rfl) ?_
        refine RW.v rfl (V.as (d := Bo (e.kind == 9)) rfl rfl) ?_
        refine RW.nil ?_
        refine CW.le [(0, I n), (3, .obj b1 ((Happen.c e).map .r)), (33, I e.kind), (34, Bo (e.kind == 9))] rfl (Le.c rfl <| Le.c rfl <| Le.c rfl <| Le.c rfl <| Le.e) ?_
        refine CW.cond rfl (fun h15 => ?_) (fun h15 => ?_)
        · skip
          refine CW.seq ?_
          refine CW.region ?_
          refine RW.v rfl (V.field rfl rfl rfl rfl (by decide) rfl) ?_
          refine RW.v rfl (V.loadPrim (d := I e.limit) rfl rfl (.inl rfl) rfl rfl rfl) ?_
          refine RW.call rfl (spec_l01In_fn e.limit 1 20) rfl (.cons (.one (.r .r)) (.cons (.one (.r .r)) (.cons (.one (.r .r)) (.nil)))) fun g16 => ?_
          refine RW.v rfl (V.as (d := Bo (inR e.limit 1 20)) rfl rfl) ?_
          refine RW.nil ?_
          refine CW.le [(4, Bo (inR e.limit 1 20))] rfl (Le.c rfl <| Le.e) ?_
          refine CW.ret ?_
          exact Post.bool rfl (by first | (simp_all [happenOk]; done) | grind [happenOk, confFits]) (AOs.r (AOs.a rfl AOs.e))
        · skip
          refine CW.seq ?_
          refine CW.region ?_
          refine RW.v rfl (V.cmpInt rfl rfl rfl rfl) ?_
          refine RW.v rfl (V.as (d := Bo (e.kind == 5)) rfl rfl) ?_
          refine RW.nil ?_
          refine CW.le [(0, I n), (3, .obj b1 ((Happen.c e).map .r)), (33, I e.kind), (40, Bo (e.kind == 5))] rfl (Le.c rfl <| Le.c rfl <| Le.c rfl <| Le.c rfl <| Le.e) ?_
          refine CW.cond rfl (fun h17 => ?_) (fun h17 => ?_)
          · skip
            refine CW.seq ?_
            refine CW.region ?_
            refine RW.v rfl (V.field rfl rfl rfl rfl (by decide) rfl) ?_
            refine RW.v rfl (V.loadAgg rfl rfl rfl rfl rfl (Nat.le_of_ble_eq_true rfl)) ?_
            refine RW.call rfl (spec_CommandOk_fn e.command) rfl (.cons (.agg (.cons (.r .r) (.cons (.r .r) (.cons (.r .r) (.cons (.r .r) (.cons (.r .r) (.cons (.r .r) (.nil)))))))) (.nil)) fun g18 => ?_
            refine RW.v rfl (V.as (d := Bo (cmdOk e.command)) rfl rfl) ?_
            refine RW.nil ?_
            refine CW.le [(4, Bo (cmdOk e.command))] rfl (Le.c rfl <| Le.e) ?_
            refine CW.ret ?_
            exact Post.bool rfl (by first | (simp_all [happenOk]; done) | grind [happenOk, confFits]) (AOs.r (AOs.a rfl AOs.e))
          · skip
            refine CW.seq ?_
            refine CW.region ?_
            refine RW.v rfl (V.cmpInt rfl rfl rfl rfl) ?_
            refine RW.v rfl (V.as (d := Bo (e.kind == 6)) rfl rfl) ?_
            refine RW.nil ?_
            refine CW.le [(0, I n), (3, .obj b1 ((Happen.c e).map .r)), (45, Bo (e.kind == 6))] rfl (Le.c rfl <| Le.c rfl <| Le.c rfl <| Le.e) ?_
            refine CW.cond rfl (fun h19 => ?_) (fun h19 => ?_)
            · skip
              refine CW.seqJ 62 (fun (v20 : Bool) => [(4, Bo v20)]) (fun v20 => v20 = ((confOk e.conf) && decide ((e.conf.getD (e.conf.length - 1) 0) ≤ n))) ?_ ?_
              · refine CW.region ?_
                refine RW.v rfl (V.field rfl rfl rfl rfl (by decide) rfl) ?_
                refine RW.v rfl (V.loadPrim (d := .r (sl 1 cI e.conf)) rfl rfl (.inr ⟨_, rfl⟩) rfl rfl rfl) ?_
                refine RW.call rfl (spec_ConfOk_fn e.conf) rfl (.cons (.one (.r .r)) (.nil)) fun g21 => ?_
                refine RW.v rfl (V.mv (d := Bo (confOk e.conf)) rfl rfl) ?_
                refine RW.gv rfl rfl rfl rfl (fun h22 => V.field rfl rfl rfl rfl (by decide) rfl) (fun h22 => ?_) (fun h22 => ?_)
                · skip
                  refine RW.gt rfl rfl rfl rfl (V.loadPrim (d := .r (sl 1 cI e.conf)) rfl rfl (.inr ⟨_, rfl⟩) rfl rfl rfl) ?_
                  refine RW.gt rfl rfl rfl rfl (V.field rfl rfl rfl rfl (by decide) rfl) ?_
                  refine RW.gt rfl rfl rfl rfl (V.loadPrim (d := .r (sl 1 cI e.conf)) rfl rfl (.inr ⟨_, rfl⟩) rfl rfl rfl) ?_
                  refine RW.gt rfl rfl rfl rfl (V.lenT (n := e.conf.length) rfl rfl rfl .r) ?_
                  refine RW.gt rfl rfl rfl rfl (V.dec (m := e.conf.length) rfl rfl rfl (confOk_pos h22) hlc) ?_
                  refine RW.gt rfl rfl rfl rfl (V.indexS rfl rfl rfl rfl rfl rfl cI.len (getD_some (l := e.conf) (j := e.conf.length - 1) (z := 0) (by have := confOk_pos h22; omega))) ?_
                  refine RW.gt rfl rfl rfl rfl (V.loadPrimR (t0 := .v (.int .i64 (e.conf.getD (e.conf.length - 1) 0))) rfl rfl (.inl rfl) rfl rfl) ?_
                  refine RW.gt rfl rfl rfl rfl (V.mv (d := I n) rfl rfl) ?_
                  refine RW.gt rfl rfl rfl rfl (V.cmpInt rfl rfl rfl rfl) ?_
                  refine RW.v rfl (V.pickT (d := Bo (decide ((e.conf.getD (e.conf.length - 1) 0) ≤ n))) rfl rfl rfl) ?_
                  refine RW.v rfl (V.as (d := Bo (decide ((e.conf.getD (e.conf.length - 1) 0) ≤ n))) rfl rfl) ?_
                  refine RW.nil ?_
                  exact ⟨_, by first | rfl | (simp_all; done) | (simp_all; omega) | grind, rfl, Le.c rfl <| Le.e⟩
                · skip
                  refine RW.guardF rfl rfl rfl rfl ?_
                  refine RW.guardF rfl rfl rfl rfl ?_
                  refine RW.guardF rfl rfl rfl rfl ?_
                  refine RW.guardF rfl rfl rfl rfl ?_
                  refine RW.guardF rfl rfl rfl rfl ?_
                  refine RW.guardF rfl rfl rfl rfl ?_
                  refine RW.guardF rfl rfl rfl rfl ?_
                  refine RW.guardF rfl rfl rfl rfl ?_
                  refine RW.guardF rfl rfl rfl rfl ?_
                  refine RW.v rfl (V.pickF (d := Bo false) rfl rfl rfl) ?_
                  refine RW.v rfl (V.as (d := Bo false) rfl rfl) ?_
                  refine RW.nil ?_
                  exact ⟨_, by first | rfl | (simp_all; done) | (simp_all; omega) | grind, rfl, Le.c rfl <| Le.e⟩
              · intro v20 hv23
                refine CW.ret ?_
                exact Post.bool rfl (by first | (simp_all [happenOk]; done) | grind [happenOk, confFits]) (AOs.r (AOs.a rfl AOs.e))
            · skip
              refine CW.skip ?_
              refine CW.le [] rfl (Le.e) ?_
              refine CW.seq ?_
              refine CW.region ?_
              refine RW.v rfl (V.as (d := Bo true) rfl rfl) ?_
              refine RW.nil ?_
              refine CW.le [(4, Bo true)] rfl (Le.c rfl <| Le.e) ?_
              refine CW.ret ?_
              exact Post.bool rfl (by first | (simp_all [happenOk]; done) | grind [happenOk, confFits]) (AOs.r (AOs.a rfl AOs.e))
set_option maxHeartbeats 4000000 in
theorem impl_HappenOk_fn (n : Int) (e : Happen) : Eng.Fn E.P 35 [.one (.r (.v (.int .i64 n))), .agg ((Happen.c e).map .r)] (.one (.one (.w (.v (.bool (happenOk n e)))))) [.one (.r (.v (.int .i64 n))), .agg ((Happen.c e).map .r)] := by
  refine Eng.Fn.intro (E := E) (rvs := [.tmp 4]) Try.func35 rfl rfl rfl (by simp [outSlots, moved, rvSlot]) ?_
  intro B g bo
  refine CW.le [(0, I n), (1, .agg ((Happen.c e).map .r))] rfl (Le.c rfl <| Le.c rfl <| Le.e) ?_
  refine CW.seq ?_
  refine CW.region ?_
  refine RW.box (ds := ((Happen.c e).map .r)) rfl rfl rfl fun b1 => ?_
  refine RW.v rfl (V.as (d := Bo false) rfl rfl) ?_
  refine RW.nil ?_
  refine CW.le [(0, I n), (3, .obj b1 ((Happen.c e).map .r))] rfl (Le.c rfl <| Le.c rfl <| Le.e) ?_
  refine CW.seq ?_
  refine CW.seqJ 51 (fun (v2 : Bool) => [(0, I n), (3, .obj b1 ((Happen.c e).map .r)), (31, Bo v2)]) (fun v2 => v2 = (((((!(inR n 1 4)) || (!(inR e.kind 1 9))) || (!(inR e.node 1 n))) || decide (e.at_ < 0)) || decide ((e.left.length : Int) > 30))) ?_ ?_
  · refine CW.region ?_
    refine RW.v rfl (V.mv (d := I n) rfl rfl) ?_
    refine RW.call rfl (impl_isNode_fn n) rfl (.cons (.one (.r .r)) (.nil)) fun g3 => ?_
    refine RW.v rfl (V.not rfl rfl) ?_
    refine RW.v rfl (V.mv (d := Bo (!(inR n 1 4))) rfl rfl) ?_
    refine RW.gv rfl rfl rfl rfl (fun h4 => V.field rfl rfl rfl rfl (by decide) rfl) (fun h4 => ?_) (fun h4 => ?_)
    · skip
      refine RW.gt rfl rfl rfl rfl (V.loadPrim (d := I e.kind) rfl rfl (.inl rfl) rfl rfl rfl) ?_
      refine RW.gcall rfl rfl rfl rfl (impl_within_fn e.kind 1 9) rfl (.cons (.one (.r .r)) (.cons (.one (.r .r)) (.cons (.one (.r .r)) (.nil)))) fun g5 => ?_
      refine RW.gt rfl rfl rfl rfl (V.not rfl rfl) ?_
      refine RW.v rfl (V.pickF (d := Bo (!(inR e.kind 1 9))) rfl rfl rfl) ?_
      refine RW.v rfl (V.mv (d := Bo (!(inR e.kind 1 9))) rfl rfl) ?_
      refine RW.gv rfl rfl rfl rfl (fun h6 => V.field rfl rfl rfl rfl (by decide) rfl) (fun h6 => ?_) (fun h6 => ?_)
      · skip
        refine RW.gt rfl rfl rfl rfl (V.loadPrim (d := I e.node) rfl rfl (.inl rfl) rfl rfl rfl) ?_
        refine RW.gt rfl rfl rfl rfl (V.mv (d := I n) rfl rfl) ?_
        refine RW.gcall rfl rfl rfl rfl (impl_within_fn e.node 1 n) rfl (.cons (.one (.r .r)) (.cons (.one (.r .r)) (.cons (.one (.r .r)) (.nil)))) fun g7 => ?_
        refine RW.gt rfl rfl rfl rfl (V.not rfl rfl) ?_
        refine RW.v rfl (V.pickF (d := Bo (!(inR e.node 1 n))) rfl rfl rfl) ?_
        refine RW.v rfl (V.mv (d := Bo (!(inR e.node 1 n))) rfl rfl) ?_
        refine RW.gv rfl rfl rfl rfl (fun h8 => V.field rfl rfl rfl rfl (by decide) rfl) (fun h8 => ?_) (fun h8 => ?_)
        · skip
          refine RW.gt rfl rfl rfl rfl (V.loadPrim (d := I e.at_) rfl rfl (.inl rfl) rfl rfl rfl) ?_
          refine RW.gt rfl rfl rfl rfl (V.cmpInt rfl rfl rfl rfl) ?_
          refine RW.v rfl (V.pickF (d := Bo (decide (e.at_ < 0))) rfl rfl rfl) ?_
          refine RW.v rfl (V.mv (d := Bo (decide (e.at_ < 0))) rfl rfl) ?_
          refine RW.gv rfl rfl rfl rfl (fun h9 => V.field rfl rfl rfl rfl (by decide) rfl) (fun h9 => ?_) (fun h9 => ?_)
          · skip
            refine RW.gt rfl rfl rfl rfl (V.loadPrim (d := .r (sl 1 cI e.left)) rfl rfl (.inr ⟨_, rfl⟩) rfl rfl rfl) ?_
            refine RW.gt rfl rfl rfl rfl (V.lenT (n := e.left.length) rfl rfl rfl .r) ?_
            refine RW.gt rfl rfl rfl rfl (V.cmpInt rfl rfl rfl rfl) ?_
            refine RW.v rfl (V.pickF (d := Bo (decide ((e.left.length : Int) > 30))) rfl rfl rfl) ?_
            refine RW.nil ?_
            exact ⟨_, by first | rfl | (simp_all; done) | (simp_all; omega) | grind, rfl, Le.c rfl <| Le.c rfl <| Le.c rfl <| Le.e⟩
          · skip
            refine RW.guardF rfl rfl rfl rfl ?_
            refine RW.guardF rfl rfl rfl rfl ?_
            refine RW.guardF rfl rfl rfl rfl ?_
            refine RW.v rfl (V.pickT (d := Bo true) rfl rfl rfl) ?_
            refine RW.nil ?_
            exact ⟨_, by first | rfl | (simp_all; done) | (simp_all; omega) | grind, rfl, Le.c rfl <| Le.c rfl <| Le.c rfl <| Le.e⟩
        · skip
          refine RW.guardF rfl rfl rfl rfl ?_
          refine RW.guardF rfl rfl rfl rfl ?_
          refine RW.v rfl (V.pickT (d := Bo true) rfl rfl rfl) ?_
          refine RW.v rfl (V.mv (d := Bo true) rfl rfl) ?_
          refine RW.guardF rfl rfl rfl rfl ?_
          refine RW.guardF rfl rfl rfl rfl ?_
          refine RW.guardF rfl rfl rfl rfl ?_
          refine RW.guardF rfl rfl rfl rfl ?_
          refine RW.v rfl (V.pickT (d := Bo true) rfl rfl rfl) ?_
          refine RW.nil ?_
          exact ⟨_, by first | rfl | (simp_all; done) | (simp_all; omega) | grind, rfl, Le.c rfl <| Le.c rfl <| Le.c rfl <| Le.e⟩
      · skip
        refine RW.guardF rfl rfl rfl rfl ?_
        refine RW.guardF rfl rfl rfl rfl ?_
        refine RW.guardF rfl rfl rfl rfl ?_
        refine RW.guardF rfl rfl rfl rfl ?_
        refine RW.v rfl (V.pickT (d := Bo true) rfl rfl rfl) ?_
        refine RW.v rfl (V.mv (d := Bo true) rfl rfl) ?_
        refine RW.guardF rfl rfl rfl rfl ?_
        refine RW.guardF rfl rfl rfl rfl ?_
        refine RW.guardF rfl rfl rfl rfl ?_
        refine RW.v rfl (V.pickT (d := Bo true) rfl rfl rfl) ?_
        refine RW.v rfl (V.mv (d := Bo true) rfl rfl) ?_
        refine RW.guardF rfl rfl rfl rfl ?_
        refine RW.guardF rfl rfl rfl rfl ?_
        refine RW.guardF rfl rfl rfl rfl ?_
        refine RW.guardF rfl rfl rfl rfl ?_
        refine RW.v rfl (V.pickT (d := Bo true) rfl rfl rfl) ?_
        refine RW.nil ?_
        exact ⟨_, by first | rfl | (simp_all; done) | (simp_all; omega) | grind, rfl, Le.c rfl <| Le.c rfl <| Le.c rfl <| Le.e⟩
    · skip
      refine RW.guardF rfl rfl rfl rfl ?_
      refine RW.guardF rfl rfl rfl rfl ?_
      refine RW.guardF rfl rfl rfl rfl ?_
      refine RW.v rfl (V.pickT (d := Bo true) rfl rfl rfl) ?_
      refine RW.v rfl (V.mv (d := Bo true) rfl rfl) ?_
      refine RW.guardF rfl rfl rfl rfl ?_
      refine RW.guardF rfl rfl rfl rfl ?_
      refine RW.guardF rfl rfl rfl rfl ?_
      refine RW.guardF rfl rfl rfl rfl ?_
      refine RW.guardF rfl rfl rfl rfl ?_
      refine RW.v rfl (V.pickT (d := Bo true) rfl rfl rfl) ?_
      refine RW.v rfl (V.mv (d := Bo true) rfl rfl) ?_
      refine RW.guardF rfl rfl rfl rfl ?_
      refine RW.guardF rfl rfl rfl rfl ?_
      refine RW.guardF rfl rfl rfl rfl ?_
      refine RW.v rfl (V.pickT (d := Bo true) rfl rfl rfl) ?_
      refine RW.v rfl (V.mv (d := Bo true) rfl rfl) ?_
      refine RW.guardF rfl rfl rfl rfl ?_
      refine RW.guardF rfl rfl rfl rfl ?_
      refine RW.guardF rfl rfl rfl rfl ?_
      refine RW.guardF rfl rfl rfl rfl ?_
      refine RW.v rfl (V.pickT (d := Bo true) rfl rfl rfl) ?_
      refine RW.nil ?_
      exact ⟨_, by first | rfl | (simp_all; done) | (simp_all; omega) | grind, rfl, Le.c rfl <| Le.c rfl <| Le.c rfl <| Le.e⟩
  · intro v2 hv10
    refine CW.cond rfl (fun h11 => ?_) (fun h11 => ?_)
    · skip
      refine CW.seq ?_
      refine CW.region ?_
      refine RW.v rfl (V.as (d := Bo false) rfl rfl) ?_
      refine RW.nil ?_
      refine CW.le [(4, Bo false)] rfl (Le.c rfl <| Le.e) ?_
      refine CW.ret ?_
      exact Post.bool rfl (by first | (simp_all [happenOk]; done) | grind [happenOk]) (AOs.r (AOs.a rfl AOs.e))
    · skip
      refine CW.skip ?_
      refine CW.le [(0, I n), (3, .obj b1 ((Happen.c e).map .r))] rfl (Le.c rfl <| Le.c rfl <| Le.e) ?_
      refine CW.seq ?_
      refine CW.seq ?_
      refine CW.region ?_
      refine RW.v rfl (V.field rfl rfl rfl rfl (by decide) rfl) ?_
      refine RW.v rfl (V.loadPrim (d := I e.kind) rfl rfl (.inl rfl) rfl rfl rfl) ?_
      refine RW.nil ?_
      refine CW.le [(0, I n), (3, .obj b1 ((Happen.c e).map .r)), (33, I e.kind)] rfl (Le.c rfl <| Le.c rfl <| Le.c rfl <| Le.e) ?_
      refine CW.block ?_
      refine CW.seq ?_
      refine CW.seq ?_
      refine CW.region ?_
      refine RW.v rfl (V.cmpInt rfl rfl rfl rfl) ?_
      refine RW.v rfl (V.as (d := Bo (e.kind == 1)) rfl rfl) ?_
      refine RW.nil ?_
      refine CW.le [(0, I n), (3, .obj b1 ((Happen.c e).map .r)), (33, I e.kind), (34, Bo (e.kind == 1))] rfl (Le.c rfl <| Le.c rfl <| Le.c rfl <| Le.c rfl <| Le.e) ?_
      refine CW.cond rfl (fun h12 => ?_) (fun h12 => ?_)
      · skip
        refine CW.le [(0, I n), (3, .obj b1 ((Happen.c e).map .r)), (33, I e.kind), (34, Bo true)] rfl (Le.c rfl <| Le.c rfl <| Le.c rfl <| Le.c (congrArg Bo h12) <| Le.e) ?_
        refine CW.skip ?_
        refine CW.le [(0, I n), (3, .obj b1 ((Happen.c e).map .r)), (33, I e.kind), (34, Bo true)] rfl (Le.c rfl <| Le.c rfl <| Le.c rfl <| Le.c rfl <| Le.e) ?_
        refine CW.condT rfl ?_
        refine CW.seq ?_
        refine CW.region ?_
        refine RW.v rfl (V.field rfl rfl rfl rfl (by decide) rfl) ?_
        refine RW.v rfl (V.loadPrim (d := I e.limit) rfl rfl (.inl rfl) rfl rfl rfl) ?_
        refine RW.call rfl (impl_within_fn e.limit 1 20) rfl (.cons (.one (.r .r)) (.cons (.one (.r .r)) (.cons (.one (.r .r)) (.nil)))) fun g14 => ?_
        refine RW.v rfl (V.as (d := Bo (inR e.limit 1 20)) rfl rfl) ?_
        refine RW.nil ?_
        refine CW.le [(4, Bo (inR e.limit 1 20))] rfl (Le.c rfl <| Le.e) ?_
        refine CW.ret ?_
        exact Post.bool rfl (by first | (simp_all [happenOk]; done) | grind [happenOk]) (AOs.r (AOs.a rfl AOs.e))
      · skip
        refine CW.region ?_
        refine RW.v rfl (V.cmpInt rfl rfl rfl rfl) ?_
        refine RW.v rfl (V.as (d := Bo (e.kind == 9)) rfl rfl) ?_
        refine RW.nil ?_
        refine CW.le [(0, I n), (3, .obj b1 ((Happen.c e).map .r)), (33, I e.kind), (34, Bo (e.kind == 9))] rfl (Le.c rfl <| Le.c rfl <| Le.c rfl <| Le.c rfl <| Le.e) ?_
        refine CW.cond rfl (fun h15 => ?_) (fun h15 => ?_)
        · skip
          refine CW.seq ?_
          refine CW.region ?_
          refine RW.v rfl (V.field rfl rfl rfl rfl (by decide) rfl) ?_
          refine RW.v rfl (V.loadPrim (d := I e.limit) rfl rfl (.inl rfl) rfl rfl rfl) ?_
          refine RW.call rfl (impl_within_fn e.limit 1 20) rfl (.cons (.one (.r .r)) (.cons (.one (.r .r)) (.cons (.one (.r .r)) (.nil)))) fun g16 => ?_
          refine RW.v rfl (V.as (d := Bo (inR e.limit 1 20)) rfl rfl) ?_
          refine RW.nil ?_
          refine CW.le [(4, Bo (inR e.limit 1 20))] rfl (Le.c rfl <| Le.e) ?_
          refine CW.ret ?_
          exact Post.bool rfl (by first | (simp_all [happenOk]; done) | grind [happenOk]) (AOs.r (AOs.a rfl AOs.e))
        · skip
          refine CW.seq ?_
          refine CW.region ?_
          refine RW.v rfl (V.cmpInt rfl rfl rfl rfl) ?_
          refine RW.v rfl (V.as (d := Bo (e.kind == 5)) rfl rfl) ?_
          refine RW.nil ?_
          refine CW.le [(0, I n), (3, .obj b1 ((Happen.c e).map .r)), (33, I e.kind), (40, Bo (e.kind == 5))] rfl (Le.c rfl <| Le.c rfl <| Le.c rfl <| Le.c rfl <| Le.e) ?_
          refine CW.cond rfl (fun h17 => ?_) (fun h17 => ?_)
          · skip
            refine CW.seq ?_
            refine CW.region ?_
            refine RW.v rfl (V.field rfl rfl rfl rfl (by decide) rfl) ?_
            refine RW.v rfl (V.loadAgg rfl rfl rfl rfl rfl (Nat.le_of_ble_eq_true rfl)) ?_
            refine RW.call rfl (impl_CommandOk_fn e.command) rfl (.cons (.agg (.cons (.r .r) (.cons (.r .r) (.cons (.r .r) (.cons (.r .r) (.cons (.r .r) (.cons (.r .r) (.nil)))))))) (.nil)) fun g18 => ?_
            refine RW.v rfl (V.as (d := Bo (cmdOk e.command)) rfl rfl) ?_
            refine RW.nil ?_
            refine CW.le [(4, Bo (cmdOk e.command))] rfl (Le.c rfl <| Le.e) ?_
            refine CW.ret ?_
            exact Post.bool rfl (by first | (simp_all [happenOk]; done) | grind [happenOk]) (AOs.r (AOs.a rfl AOs.e))
          · skip
            refine CW.seq ?_
            refine CW.region ?_
            refine RW.v rfl (V.cmpInt rfl rfl rfl rfl) ?_
            refine RW.v rfl (V.as (d := Bo (e.kind == 6)) rfl rfl) ?_
            refine RW.nil ?_
            refine CW.le [(0, I n), (3, .obj b1 ((Happen.c e).map .r)), (45, Bo (e.kind == 6))] rfl (Le.c rfl <| Le.c rfl <| Le.c rfl <| Le.e) ?_
            refine CW.cond rfl (fun h19 => ?_) (fun h19 => ?_)
            · skip
              refine CW.seq ?_
              refine CW.region ?_
              refine RW.v rfl (V.mv (d := I n) rfl rfl) ?_
              refine RW.v rfl (V.field rfl rfl rfl rfl (by decide) rfl) ?_
              refine RW.v rfl (V.loadPrim (d := .r (sl 1 cI e.conf)) rfl rfl (.inr ⟨_, rfl⟩) rfl rfl rfl) ?_
              refine RW.call rfl (impl_confFits_fn n e.conf) rfl (.cons (.one (.r .r)) (.cons (.one (.r .r)) (.nil))) fun g20 => ?_
              refine RW.v rfl (V.as (d := Bo (confFits n e.conf)) rfl rfl) ?_
              refine RW.nil ?_
              refine CW.le [(4, Bo (confFits n e.conf))] rfl (Le.c rfl <| Le.e) ?_
              refine CW.ret ?_
              exact Post.bool rfl (by first | (simp_all [happenOk]; done) | grind [happenOk]) (AOs.r (AOs.a rfl AOs.e))
            · skip
              refine CW.skip ?_
              refine CW.le [] rfl (Le.e) ?_
              refine CW.seq ?_
              refine CW.region ?_
              refine RW.v rfl (V.as (d := Bo true) rfl rfl) ?_
              refine RW.nil ?_
              refine CW.le [(4, Bo true)] rfl (Le.c rfl <| Le.e) ?_
              refine CW.ret ?_
              exact Post.bool rfl (by first | (simp_all [happenOk]; done) | grind [happenOk]) (AOs.r (AOs.a rfl AOs.e))
set_option maxHeartbeats 4000000 in
theorem laws_FnExactHappenOk_fn (n : Int) (e : Happen) (hok : okHappen e) : Eng.Fn E.P 8 [.one (.r (.v (.int .i64 n))), .agg ((Happen.c e).map .r)] (.one (.one (.w (.v (.bool true))))) [.one (.r (.v (.int .i64 n))), .agg ((Happen.c e).map .r)] := by
  refine Eng.Fn.intro (E := E) (rvs := [.tmp 4]) Try.func8 rfl rfl rfl (by simp [outSlots, moved, rvSlot]) ?_
  intro B g bo
  refine CW.le [(0, I n), (1, .agg ((Happen.c e).map .r))] rfl (Le.c rfl <| Le.c rfl <| Le.e) ?_
  refine CW.seq ?_
  refine CW.region ?_
  refine RW.box (ds := ((Happen.c e).map .r)) rfl rfl rfl fun b1 => ?_
  refine RW.v rfl (V.as (d := Bo false) rfl rfl) ?_
  refine RW.nil ?_
  refine CW.le [(0, I n), (3, .obj b1 ((Happen.c e).map .r))] rfl (Le.c rfl <| Le.c rfl <| Le.e) ?_
  refine CW.seq ?_
  refine CW.region ?_
  refine RW.v rfl (V.as (d := I 1048576) rfl rfl) ?_
  refine RW.nil ?_
  refine CW.le [(0, I n), (3, .obj b1 ((Happen.c e).map .r)), (5, I 1048576)] rfl (Le.c rfl <| Le.c rfl <| Le.c rfl <| Le.e) ?_
  refine CW.seq ?_
  refine CW.region ?_
  refine RW.v rfl (V.loadAgg rfl rfl rfl rfl rfl (Nat.le_of_ble_eq_true rfl)) ?_
  refine RW.v rfl (V.mv (d := I 1048576) rfl rfl) ?_
  refine RW.call rfl (laws_szHappen_fn e 1048576) rfl (.cons (.agg (.cons (.r .r) (.cons (.r .r) (.cons (.r .r) (.cons (.r .r) (.cons (.r .r) (.cons (.r .r) (.cons (.r .r) (.cons (.r .r) (.cons (.r .r) (.cons (.r .r) (.cons (.r .r) (.cons (.r .r) (.cons (.r .r) (.cons (.r .r) (.nil)))))))))))))))) (.cons (.one (.r .r)) (.nil))) fun g2 => ?_
  refine RW.v rfl (V.as (d := I (szHappen e 1048576)) rfl rfl) ?_
  refine RW.nil ?_
  refine CW.le [(0, I n), (3, .obj b1 ((Happen.c e).map .r)), (5, I (szHappen e 1048576))] rfl (Le.c rfl <| Le.c rfl <| Le.c rfl <| Le.e) ?_
  refine CW.seq ?_
  refine CW.seq ?_
  refine CW.region ?_
  refine RW.v rfl (V.mv (d := I (szHappen e 1048576)) rfl rfl) ?_
  refine RW.v rfl (V.cmpInt rfl rfl rfl rfl) ?_
  refine RW.nil ?_
  refine CW.le [(0, I n), (3, .obj b1 ((Happen.c e).map .r)), (13, Bo (decide ((szHappen e 1048576) < 0)))] rfl (Le.c rfl <| Le.c rfl <| Le.c rfl <| Le.e) ?_
  refine CW.cond rfl (fun h3 => ?_) (fun h3 => ?_)
  · skip
    refine CW.seq ?_
    refine CW.region ?_
    refine RW.v rfl (V.as (d := Bo true) rfl rfl) ?_
    refine RW.nil ?_
    refine CW.le [(4, Bo true)] rfl (Le.c rfl <| Le.e) ?_
    refine CW.ret ?_
    exact Post.bool rfl (by first | rfl | simp_all [eqHappen_refl]) (AOs.r (AOs.a rfl AOs.e))
  · skip
    refine CW.skip ?_
    refine CW.le [(0, I n), (3, .obj b1 ((Happen.c e).map .r))] rfl (Le.c rfl <| Le.c rfl <| Le.e) ?_
    refine CW.seq ?_
    refine CW.region ?_
    refine RW.v rfl (V.mv (d := I n) rfl rfl) ?_
    refine RW.v rfl (V.loadAgg rfl rfl rfl rfl rfl (Nat.le_of_ble_eq_true rfl)) ?_
    refine RW.call rfl (laws_toHappen_fn e (szHappen_ok e 1048576 hok (by omega) (by omega) (by simpa using h3)).1) rfl (.cons (.agg (.cons (.r .r) (.cons (.r .r) (.cons (.r .r) (.cons (.r .r) (.cons (.r .r) (.cons (.r .r) (.cons (.r .r) (.cons (.r .r) (.cons (.r .r) (.cons (.r .r) (.cons (.r .r) (.cons (.r .r) (.cons (.r .r) (.cons (.r .r) (.nil)))))))))))))))) (.nil)) fun g4 => ?_
    refine RW.callOwn rfl (spec_HappenOk_fn n e (hok.2.2.2.2.2.1.1)) rfl (.cons (.one (.r .r)) (.cons (.agg (.cons (.r .r) (.cons (.r .r) (.cons (.r .r) (.cons (.r .r) (.cons (.r .r) (.cons (.r .r) (.cons (.r .r) (.cons (.r .r) (.cons (.r .r) (.cons (.r .r) (.cons (.r (.ala rfl rfl rfl nofun)) (.cons (.r .r) (.cons (.r .r) (.cons (.r (.ala rfl rfl rfl nofun)) (.nil)))))))))))))))) (.nil))) rfl fun g5 => ?_
    refine RW.v rfl (V.as (d := Bo (happenOk n e)) rfl rfl) ?_
    refine RW.nil ?_
    refine CW.le [(0, I n), (3, .obj b1 ((Happen.c e).map .r)), (6, Bo (happenOk n e))] rfl (Le.c rfl <| Le.c rfl <| Le.c rfl <| Le.e) ?_
    refine CW.seq ?_
    refine CW.region ?_
    refine RW.v rfl (V.loadAgg rfl rfl rfl rfl rfl (Nat.le_of_ble_eq_true rfl)) ?_
    refine RW.call rfl (laws_toHappen_fn e (szHappen_ok e 1048576 hok (by omega) (by omega) (by simpa using h3)).1) rfl (.cons (.agg (.cons (.r .r) (.cons (.r .r) (.cons (.r .r) (.cons (.r .r) (.cons (.r .r) (.cons (.r .r) (.cons (.r .r) (.cons (.r .r) (.cons (.r .r) (.cons (.r .r) (.cons (.r .r) (.cons (.r .r) (.cons (.r .r) (.cons (.r .r) (.nil)))))))))))))))) (.nil)) fun g6 => ?_
    refine RW.alloc (ds := [I 0, I 0, I 0, I 0, I 0, I 0, I 0, S (⟨#[]⟩), S (⟨#[]⟩), I 0, .r (.v (.slice none 0 0)), Bo false, I 0, .r (.v (.slice none 0 0))]) rfl rfl rfl rfl fun b7 => ?_
    refine RW.storeAgg (es := [I e.kind, I e.node, I e.at_, I e.limit, I e.command.op, I e.command.token, I e.command.seq, S e.command.key, S e.command.val, I e.command.ver, .al 19 (some 10) 1 e.conf.length (g6 0 10) 0, Bo e.cut, I e.whole, .al 19 (some 13) 1 e.left.length (g6 0 13) 0]) rfl rfl rfl rfl rfl rfl rfl rfl (Nat.le_of_ble_eq_true rfl) rfl ?_
    refine RW.pullA (k := 7) (l := 19) (j := 10) 7 19 10 rfl rfl rfl (by decide) rfl rfl rfl rfl ?_
    refine RW.pullA (k := 7) (l := 19) (j := 13) 7 19 13 rfl rfl rfl (by decide) rfl rfl rfl rfl ?_
    refine RW.nil ?_
    refine CW.le [(0, I n), (3, .obj b1 ((Happen.c e).map .r)), (6, Bo (happenOk n e)), (7, .obj b7 [I e.kind, I e.node, I e.at_, I e.limit, I e.command.op, I e.command.token, I e.command.seq, S e.command.key, S e.command.val, I e.command.ver, .w (sl 1 cI e.conf) (g6 0 10), Bo e.cut, I e.whole, .w (sl 1 cI e.left) (g6 0 13)])] rfl (Le.c rfl <| Le.c rfl <| Le.c rfl <| Le.c rfl <| Le.e) ?_
    refine CW.seq ?_
    refine CW.region ?_
    refine RW.v rfl (V.mv (d := I n) rfl rfl) ?_
    refine RW.v rfl (V.loadAgg rfl rfl rfl rfl rfl (Nat.le_of_ble_eq_true rfl)) ?_
    refine RW.callOwn rfl (impl_HappenOk_fn n e) rfl (.cons (.one (.r .r)) (.cons (.agg (.cons (.r .r) (.cons (.r .r) (.cons (.r .r) (.cons (.r .r) (.cons (.r .r) (.cons (.r .r) (.cons (.r .r) (.cons (.r .r) (.cons (.r .r) (.cons (.r .r) (.cons (.r (.alo rfl rfl rfl nofun)) (.cons (.r .r) (.cons (.r .r) (.cons (.r (.alo rfl rfl rfl nofun)) (.nil)))))))))))))))) (.nil))) rfl fun g8 => ?_
    refine RW.v rfl (V.as (d := Bo (happenOk n e)) rfl rfl) ?_
    refine RW.nil ?_
    refine CW.le [(3, .obj b1 ((Happen.c e).map .r)), (6, Bo (happenOk n e)), (7, .obj b7 [I e.kind, I e.node, I e.at_, I e.limit, I e.command.op, I e.command.token, I e.command.seq, S e.command.key, S e.command.val, I e.command.ver, .w (sl 1 cI e.conf) (g6 0 10), Bo e.cut, I e.whole, .w (sl 1 cI e.left) (g6 0 13)]), (8, Bo (happenOk n e))] rfl (Le.c rfl <| Le.c rfl <| Le.c rfl <| Le.c rfl <| Le.e) ?_
    refine CW.seq ?_
    refine CW.seq ?_
    refine CW.region ?_
    refine RW.v rfl (V.mv (d := Bo (happenOk n e)) rfl rfl) ?_
    refine RW.v rfl (V.mv (d := Bo (happenOk n e)) rfl rfl) ?_
    refine RW.v rfl (V.eqBool rfl rfl rfl (by kernel_rfl) (.inr ⟨rfl, rfl⟩)) ?_
    refine RW.nil ?_
    refine CW.le [(3, .obj b1 ((Happen.c e).map .r)), (7, .obj b7 [I e.kind, I e.node, I e.at_, I e.limit, I e.command.op, I e.command.token, I e.command.seq, S e.command.key, S e.command.val, I e.command.ver, .w (sl 1 cI e.conf) (g6 0 10), Bo e.cut, I e.whole, .w (sl 1 cI e.left) (g6 0 13)]), (25, Bo (!((happenOk n e) == (happenOk n e))))] rfl (Le.c rfl <| Le.c rfl <| Le.c rfl <| Le.e) ?_
    refine CW.cond rfl (fun h9 => ?_) (fun h9 => ?_)
    · skip
      refine CW.seq ?_
      refine CW.region ?_
      refine RW.v rfl (V.as (d := Bo false) rfl rfl) ?_
      refine RW.nil ?_
      refine CW.le [(4, Bo false)] rfl (Le.c rfl <| Le.e) ?_
      refine CW.ret ?_
      exact Post.bool rfl (by first | rfl | simp_all [eqHappen_refl]) (AOs.r (AOs.a rfl AOs.e))
    · skip
      refine CW.skip ?_
      refine CW.le [(3, .obj b1 ((Happen.c e).map .r)), (7, .obj b7 [I e.kind, I e.node, I e.at_, I e.limit, I e.command.op, I e.command.token, I e.command.seq, S e.command.key, S e.command.val, I e.command.ver, .w (sl 1 cI e.conf) (g6 0 10), Bo e.cut, I e.whole, .w (sl 1 cI e.left) (g6 0 13)])] rfl (Le.c rfl <| Le.c rfl <| Le.e) ?_
      refine CW.seq ?_
      refine CW.seq ?_
      refine CW.any ?_
      refine RA.step (L := [0, 1]) (by kernel_rfl) (by simp) (RA.each ?_ (RA.each ?_ (RA.each0)))
      · skip
        refine RO.v (ls' := #[true, false, false, false, false]) rfl rfl (V.loadAgg rfl rfl rfl rfl rfl (Nat.le_of_ble_eq_true rfl)) rfl ?_
        refine RA.step (L := [1]) (by kernel_rfl) (by simp) (RA.each ?_ (RA.each0))
        · skip
          refine RO.v (ls' := #[true, true, false, false, false]) rfl rfl (V.loadAgg rfl rfl rfl rfl rfl (Nat.le_of_ble_eq_true rfl)) rfl ?_
          refine RA.step (L := [2]) (by kernel_rfl) (by simp) (RA.each ?_ (RA.each0))
          · skip
            refine RO.call (ls' := #[true, true, true, false, false]) rfl rfl (laws_toHappen_fn e (szHappen_ok e 1048576 hok (by omega) (by omega) (by simpa using h3)).1) rfl (.cons (.agg (.cons (.r .r) (.cons (.r .r) (.cons (.r .r) (.cons (.r .r) (.cons (.r .r) (.cons (.r .r) (.cons (.r .r) (.cons (.r .r) (.cons (.r .r) (.cons (.r .r) (.cons (.r .r) (.cons (.r .r) (.cons (.r .r) (.cons (.r .r) (.nil)))))))))))))))) (.nil)) rfl fun g10 => ?_
            refine RA.step (L := [3]) (by kernel_rfl) (by simp) (RA.each ?_ (RA.each0))
            · skip
              refine RO.callOwn (ls' := #[true, true, true, true, false]) rfl rfl (laws_eqHappen_fn e e) rfl (.cons (.agg (.cons (.r .r) (.cons (.r .r) (.cons (.r .r) (.cons (.r .r) (.cons (.r .r) (.cons (.r .r) (.cons (.r .r) (.cons (.r .r) (.cons (.r .r) (.cons (.r .r) (.cons (.r (.alo rfl rfl rfl nofun)) (.cons (.r .r) (.cons (.r .r) (.cons (.r (.alo rfl rfl rfl nofun)) (.nil)))))))))))))))) (.cons (.agg (.cons (.r .r) (.cons (.r .r) (.cons (.r .r) (.cons (.r .r) (.cons (.r .r) (.cons (.r .r) (.cons (.r .r) (.cons (.r .r) (.cons (.r .r) (.cons (.r .r) (.cons (.r (.ala rfl rfl rfl nofun)) (.cons (.r .r) (.cons (.r .r) (.cons (.r (.ala rfl rfl rfl nofun)) (.nil)))))))))))))))) (.nil))) rfl rfl fun g11 => ?_
              refine RA.step (L := [4]) (by kernel_rfl) (by simp) (RA.each ?_ (RA.each0))
              · skip
                refine RO.v (ls' := #[true, true, true, true, true]) rfl rfl (V.not rfl rfl) rfl ?_
                refine RA.fin (by kernel_rfl) ?_
                refine CW.le [(30, Bo (!(eqHappen e e)))] rfl (Le.c rfl <| Le.e) ?_
                refine CW.cond rfl (fun h12 => ?_) (fun h12 => ?_)
                · skip
                  refine CW.seq ?_
                  refine CW.region ?_
                  refine RW.v rfl (V.as (d := Bo false) rfl rfl) ?_
                  refine RW.nil ?_
                  refine CW.le [(4, Bo false)] rfl (Le.c rfl <| Le.e) ?_
                  refine CW.ret ?_
                  exact Post.bool rfl (by first | rfl | simp_all [eqHappen_refl]) (AOs.r (AOs.a rfl AOs.e))
                · skip
                  refine CW.skip ?_
                  refine CW.le [] rfl (Le.e) ?_
                  refine CW.seq ?_
                  refine CW.region ?_
                  refine RW.v rfl (V.as (d := Bo true) rfl rfl) ?_
                  refine RW.nil ?_
                  refine CW.le [(4, Bo true)] rfl (Le.c rfl <| Le.e) ?_
                  refine CW.ret ?_
                  exact Post.bool rfl (by first | rfl | simp_all [eqHappen_refl]) (AOs.r (AOs.a rfl AOs.e))
      · skip
        refine RO.v (ls' := #[false, true, false, false, false]) rfl rfl (V.loadAgg rfl rfl rfl rfl rfl (Nat.le_of_ble_eq_true rfl)) rfl ?_
        refine RA.step (L := [0, 2]) (by kernel_rfl) (by simp) (RA.each ?_ (RA.each ?_ (RA.each0)))
        · skip
          refine RO.v (ls' := #[true, true, false, false, false]) rfl rfl (V.loadAgg rfl rfl rfl rfl rfl (Nat.le_of_ble_eq_true rfl)) rfl ?_
          refine RA.step (L := [2]) (by kernel_rfl) (by simp) (RA.each ?_ (RA.each0))
          · skip
            refine RO.call (ls' := #[true, true, true, false, false]) rfl rfl (laws_toHappen_fn e (szHappen_ok e 1048576 hok (by omega) (by omega) (by simpa using h3)).1) rfl (.cons (.agg (.cons (.r .r) (.cons (.r .r) (.cons (.r .r) (.cons (.r .r) (.cons (.r .r) (.cons (.r .r) (.cons (.r .r) (.cons (.r .r) (.cons (.r .r) (.cons (.r .r) (.cons (.r .r) (.cons (.r .r) (.cons (.r .r) (.cons (.r .r) (.nil)))))))))))))))) (.nil)) rfl fun g13 => ?_
            refine RA.step (L := [3]) (by kernel_rfl) (by simp) (RA.each ?_ (RA.each0))
            · skip
              refine RO.callOwn (ls' := #[true, true, true, true, false]) rfl rfl (laws_eqHappen_fn e e) rfl (.cons (.agg (.cons (.r .r) (.cons (.r .r) (.cons (.r .r) (.cons (.r .r) (.cons (.r .r) (.cons (.r .r) (.cons (.r .r) (.cons (.r .r) (.cons (.r .r) (.cons (.r .r) (.cons (.r (.alo rfl rfl rfl nofun)) (.cons (.r .r) (.cons (.r .r) (.cons (.r (.alo rfl rfl rfl nofun)) (.nil)))))))))))))))) (.cons (.agg (.cons (.r .r) (.cons (.r .r) (.cons (.r .r) (.cons (.r .r) (.cons (.r .r) (.cons (.r .r) (.cons (.r .r) (.cons (.r .r) (.cons (.r .r) (.cons (.r .r) (.cons (.r (.ala rfl rfl rfl nofun)) (.cons (.r .r) (.cons (.r .r) (.cons (.r (.ala rfl rfl rfl nofun)) (.nil)))))))))))))))) (.nil))) rfl rfl fun g14 => ?_
              refine RA.step (L := [4]) (by kernel_rfl) (by simp) (RA.each ?_ (RA.each0))
              · skip
                refine RO.v (ls' := #[true, true, true, true, true]) rfl rfl (V.not rfl rfl) rfl ?_
                refine RA.fin (by kernel_rfl) ?_
                refine CW.le [(30, Bo (!(eqHappen e e)))] rfl (Le.c rfl <| Le.e) ?_
                refine CW.cond rfl (fun h15 => ?_) (fun h15 => ?_)
                · skip
                  refine CW.seq ?_
                  refine CW.region ?_
                  refine RW.v rfl (V.as (d := Bo false) rfl rfl) ?_
                  refine RW.nil ?_
                  refine CW.le [(4, Bo false)] rfl (Le.c rfl <| Le.e) ?_
                  refine CW.ret ?_
                  exact Post.bool rfl (by first | rfl | simp_all [eqHappen_refl]) (AOs.r (AOs.a rfl AOs.e))
                · skip
                  refine CW.skip ?_
                  refine CW.le [] rfl (Le.e) ?_
                  refine CW.seq ?_
                  refine CW.region ?_
                  refine RW.v rfl (V.as (d := Bo true) rfl rfl) ?_
                  refine RW.nil ?_
                  refine CW.le [(4, Bo true)] rfl (Le.c rfl <| Le.e) ?_
                  refine CW.ret ?_
                  exact Post.bool rfl (by first | rfl | simp_all [eqHappen_refl]) (AOs.r (AOs.a rfl AOs.e))
        · skip
          refine RO.call (ls' := #[false, true, true, false, false]) rfl rfl (laws_toHappen_fn e (szHappen_ok e 1048576 hok (by omega) (by omega) (by simpa using h3)).1) rfl (.cons (.agg (.cons (.r .r) (.cons (.r .r) (.cons (.r .r) (.cons (.r .r) (.cons (.r .r) (.cons (.r .r) (.cons (.r .r) (.cons (.r .r) (.cons (.r .r) (.cons (.r .r) (.cons (.r .r) (.cons (.r .r) (.cons (.r .r) (.cons (.r .r) (.nil)))))))))))))))) (.nil)) rfl fun g16 => ?_
          refine RA.step (L := [0]) (by kernel_rfl) (by simp) (RA.each ?_ (RA.each0))
          · skip
            refine RO.v (ls' := #[true, true, true, false, false]) rfl rfl (V.loadAgg rfl rfl rfl rfl rfl (Nat.le_of_ble_eq_true rfl)) rfl ?_
            refine RA.step (L := [3]) (by kernel_rfl) (by simp) (RA.each ?_ (RA.each0))
            · skip
              refine RO.callOwn (ls' := #[true, true, true, true, false]) rfl rfl (laws_eqHappen_fn e e) rfl (.cons (.agg (.cons (.r .r) (.cons (.r .r) (.cons (.r .r) (.cons (.r .r) (.cons (.r .r) (.cons (.r .r) (.cons (.r .r) (.cons (.r .r) (.cons (.r .r) (.cons (.r .r) (.cons (.r (.alo rfl rfl rfl nofun)) (.cons (.r .r) (.cons (.r .r) (.cons (.r (.alo rfl rfl rfl nofun)) (.nil)))))))))))))))) (.cons (.agg (.cons (.r .r) (.cons (.r .r) (.cons (.r .r) (.cons (.r .r) (.cons (.r .r) (.cons (.r .r) (.cons (.r .r) (.cons (.r .r) (.cons (.r .r) (.cons (.r .r) (.cons (.r (.ala rfl rfl rfl nofun)) (.cons (.r .r) (.cons (.r .r) (.cons (.r (.ala rfl rfl rfl nofun)) (.nil)))))))))))))))) (.nil))) rfl rfl fun g17 => ?_
              refine RA.step (L := [4]) (by kernel_rfl) (by simp) (RA.each ?_ (RA.each0))
              · skip
                refine RO.v (ls' := #[true, true, true, true, true]) rfl rfl (V.not rfl rfl) rfl ?_
                refine RA.fin (by kernel_rfl) ?_
                refine CW.le [(30, Bo (!(eqHappen e e)))] rfl (Le.c rfl <| Le.e) ?_
                refine CW.cond rfl (fun h18 => ?_) (fun h18 => ?_)
                · skip
                  refine CW.seq ?_
                  refine CW.region ?_
                  refine RW.v rfl (V.as (d := Bo false) rfl rfl) ?_
                  refine RW.nil ?_
                  refine CW.le [(4, Bo false)] rfl (Le.c rfl <| Le.e) ?_
                  refine CW.ret ?_
                  exact Post.bool rfl (by first | rfl | simp_all [eqHappen_refl]) (AOs.r (AOs.a rfl AOs.e))
                · skip
                  refine CW.skip ?_
                  refine CW.le [] rfl (Le.e) ?_
                  refine CW.seq ?_
                  refine CW.region ?_
                  refine RW.v rfl (V.as (d := Bo true) rfl rfl) ?_
                  refine RW.nil ?_
                  refine CW.le [(4, Bo true)] rfl (Le.c rfl <| Le.e) ?_
                  refine CW.ret ?_
                  exact Post.bool rfl (by first | rfl | simp_all [eqHappen_refl]) (AOs.r (AOs.a rfl AOs.e))
end Go.Proofs.Ythkiegfcahigkaa.Y
