import Derived.Test.YtmhnehgpmndiiaaDoorPu
import Derived.Test.YtmhnehgpmndiiaaDoorProg
namespace Go.Proofs.YtmhnehgpmndiiaaDoor.Y
open Go Go.RowKit Go.Eng Go.Proofs
set_option maxRecDepth 10000
def tl : List (Nat × TyI) := [
(3, ⟨1, 8, [.int .i64 0], .prim⟩),
(4, ⟨1, 1, [.bool false], .prim⟩),
(5, ⟨1, 1, [.int .u8 0], .prim⟩),
(9, ⟨1, 16, [.string ⟨#[]⟩], .prim⟩),
(22, ⟨1, 24, [.slice none 0 0], .slice 3⟩),
(23, ⟨1, 24, [.slice none 0 0], .slice 47⟩),
(25, ⟨1, 24, [.slice none 0 0], .agg [(0, 23, 1)]⟩),
(36, ⟨1, 24, [.slice none 0 0], .slice 80⟩),
(38, ⟨3, 40, [.int .i64 0, .int .i64 0, .slice none 0 0], .agg [(0, 3, 1), (1, 3, 1), (2, 36, 1)]⟩),
(40, ⟨6, 64, [.int .i64 0, .int .i64 0, .int .i64 0, .int .i64 0, .int .i64 0, .slice none 0 0], .agg [(0, 3, 1), (1, 3, 1), (2, 3, 1), (3, 38, 3)]⟩),
(44, ⟨4, 56, [.int .i64 0, .int .i64 0, .slice none 0 0, .string ⟨#[]⟩], .agg [(0, 3, 1), (1, 3, 1), (2, 22, 1), (3, 9, 1)]⟩),
(47, ⟨3, 40, [.string ⟨#[]⟩, .string ⟨#[]⟩, .int .i64 0], .agg [(0, 9, 1), (1, 9, 1), (2, 3, 1)]⟩),
(49, ⟨1, 24, [.slice none 0 0], .slice 67⟩),
(50, ⟨1, 24, [.slice none 0 0], .slice 70⟩),
(52, ⟨2, 48, [.slice none 0 0, .slice none 0 0], .agg [(0, 49, 1), (1, 50, 1)]⟩),
(67, ⟨3, 32, [.int .i64 0, .int .i64 0, .string ⟨#[]⟩], .agg [(0, 3, 1), (1, 3, 1), (2, 9, 1)]⟩),
(70, ⟨3, 40, [.string ⟨#[]⟩, .string ⟨#[]⟩, .int .i64 0], .agg [(0, 9, 1), (1, 9, 1), (2, 3, 1)]⟩),
(77, ⟨1, 24, [.slice none 0 0], .slice 5⟩),
(85, ⟨1, 24, [.slice none 0 0], .slice 9⟩)]
theorem tl_ok : ∀ p ∈ tl, tyI Tryd.prog p.1 = some p.2 := by
  refine List.forall_mem_cons.2 ⟨by kernel_rfl, ?_⟩
  refine List.forall_mem_cons.2 ⟨by kernel_rfl, ?_⟩
  refine List.forall_mem_cons.2 ⟨by kernel_rfl, ?_⟩
  refine List.forall_mem_cons.2 ⟨by kernel_rfl, ?_⟩
  refine List.forall_mem_cons.2 ⟨by kernel_rfl, ?_⟩
  refine List.forall_mem_cons.2 ⟨by kernel_rfl, ?_⟩
  refine List.forall_mem_cons.2 ⟨by kernel_rfl, ?_⟩
  refine List.forall_mem_cons.2 ⟨by kernel_rfl, ?_⟩
  refine List.forall_mem_cons.2 ⟨by kernel_rfl, ?_⟩
  refine List.forall_mem_cons.2 ⟨by kernel_rfl, ?_⟩
  refine List.forall_mem_cons.2 ⟨by kernel_rfl, ?_⟩
  refine List.forall_mem_cons.2 ⟨by kernel_rfl, ?_⟩
  refine List.forall_mem_cons.2 ⟨by kernel_rfl, ?_⟩
  refine List.forall_mem_cons.2 ⟨by kernel_rfl, ?_⟩
  refine List.forall_mem_cons.2 ⟨by kernel_rfl, ?_⟩
  refine List.forall_mem_cons.2 ⟨by kernel_rfl, ?_⟩
  refine List.forall_mem_cons.2 ⟨by kernel_rfl, ?_⟩
  refine List.forall_mem_cons.2 ⟨by kernel_rfl, ?_⟩
  refine List.forall_mem_cons.2 ⟨by kernel_rfl, ?_⟩
  exact fun _ h => by cases h
noncomputable def E : Env := ⟨Tryd.prog, lk tl, fun t i h => tl_ok (t, i) (lk_mem _ _ _ h), by kernel_rfl⟩
def kl : List (Nat × TypeDesc) := [(3, .int .i64), (4, .bool), (5, .int .u8), (9, .string), (75, .int .u32)]
theorem kl_ok : ∀ p ∈ kl, Tryd.prog.underlying p.1 = some p.2 := by
  refine List.forall_mem_cons.2 ⟨by kernel_rfl, ?_⟩
  refine List.forall_mem_cons.2 ⟨by kernel_rfl, ?_⟩
  refine List.forall_mem_cons.2 ⟨by kernel_rfl, ?_⟩
  refine List.forall_mem_cons.2 ⟨by kernel_rfl, ?_⟩
  refine List.forall_mem_cons.2 ⟨by kernel_rfl, ?_⟩
  exact fun _ h => by cases h
noncomputable def XK : Kd E.P := ⟨lk kl, fun t d h => kl_ok (t, d) (lk_mem _ _ _ h)⟩
set_option maxHeartbeats 4000000 in
theorem spec_l01In_fn (n : Int) (x : Int) (y : Int) : Eng.Fn E.P 32 [.one (.r (.v (.int .i64 n))), .one (.r (.v (.int .i64 x))), .one (.r (.v (.int .i64 y)))] (.one (.one (.w (.v (.bool (inR n x y)))))) [.one (.r (.v (.int .i64 n))), .one (.r (.v (.int .i64 x))), .one (.r (.v (.int .i64 y)))] := by
 refine Eng.Fn.intro (E := E) (rvs := [.tmp 6]) Tryd.func32 rfl rfl rfl (by simp [outSlots, moved, rvSlot, sl]) ?_
 intro B g bo
 refine CW.keep 15 [0,1,2] rfl ?_;(conv=>whnf);refine ⟨?_⟩
 refine CW.k XK 15 1 [0,1,2] rfl ?_
 (conv=>whnf);refine ⟨rfl,?_⟩
 refine CW.seqJ 15 (fun (v1 : Bool) => [(6, Bo v1)]) (fun v1 => v1 = (decide (n ≥ x) && decide (n ≤ y))) ?_ ?_
 ·refine CW.region ?_
  refine RW.k XK 15 4 rfl ?_
  (conv=>whnf);refine ⟨rfl,?_⟩
  refine RW.gv rfl rfl rfl rfl (fun h2 => V.mv (d := I n) rfl rfl) (fun h2 => ?_) (fun h2 => ?_)
  ·skip
   refine RW.k XK 15 4 rfl ?_
   (conv=>whnf);refine ⟨rfl,?_⟩
   refine RW.nil ?_
   exact ⟨_, by first | rfl | (simp_all; done) | (simp_all; omega) | grind, rfl, Le.of rfl⟩
  ·skip
   refine RW.k XK 15 4 rfl ?_
   (conv=>whnf);refine ⟨rfl,?_⟩
   refine RW.nil ?_
   exact ⟨_, by first | rfl | (simp_all; done) | (simp_all; omega) | grind, rfl, Le.of rfl⟩
 ·intro v1 hv3
  refine CW.ret ?_
  exact Post.one (RV.b rfl (by simp_all [inR])) (AOs.r (AOs.r (AOs.r AOs.e)))
set_option maxHeartbeats 4000000 in
theorem spec_l01Var_fn (n : Int) (hn : 0 ≤ n ∧ n ≤ 9223372036854775807) : Eng.Fn E.P 28 [.one (.r (.v (.int .i64 n)))] (.one (.one (.w (.v (.string (varB n.toNat)))))) [.one (.r (.v (.int .i64 n)))] := by
 refine Eng.Fn.intro (E := E) (rvs := [.tmp 2]) Tryd.func28 rfl rfl rfl (by simp [outSlots, moved, rvSlot, sl]) ?_
 intro B g bo
 refine CW.keep 22 [0] rfl ?_;(conv=>whnf);refine ⟨?_⟩
 refine CW.k XK 22 1 [0] rfl ?_
 (conv=>whnf);refine ⟨rfl,?_⟩
 refine CW.seq ?_
 refine CW.region ?_
 refine RW.build0 cU rfl rfl rfl rfl rfl fun X1 => ?_
 refine RW.assignMove rfl rfl rfl (by decide) (Nat.le_of_ble_eq_true rfl) (Nat.le_of_ble_eq_true rfl) ?_
 refine RW.nil ?_
 refine CW.keep 22 [0,3] rfl ?_;(conv=>whnf);refine ⟨?_⟩
 refine CW.seq ?_
 refine CW.block ?_
 refine CW.loopI 22 (fun (zz : Int × List Int × Value) => match zz with | (m, l, X) => [(0, I m), (3, .w (sl 1 cU l) X)]) (fun (zz : Int × List Int × Value) => match zz with | (m, l, X) => VbP n m l) (fun (zz : Int × List Int × Value) => match zz with | (m, l, X) => m.toNat) (_, [], _) rfl (Le.c rfl <| Le.c rfl <| Le.e) (VbP.init hn) ?_
 rintro ⟨m, l, X⟩ hP
 refine CW.seq ?_
 refine CW.k XK 22 1 [0,3,6] rfl ?_
 (conv=>whnf);refine ⟨rfl,?_⟩
 refine CW.cond rfl (fun h2 => ?_) (fun h2 => ?_)
 ·skip
  have hgt := h2
  refine CW.skip ?_
  refine CW.keep 22 [0,3] rfl ?_;(conv=>whnf);refine ⟨?_⟩
  refine CW.block ?_
  refine CW.seq ?_
  refine CW.region ?_
  refine RW.k XK 22 5 rfl ?_
  (conv=>whnf);refine ⟨rfl,?_⟩
  refine RW.build1c (c := cU) (v := (IntKind.u8.wrap (IntKind.i64.wrap ((Int.tmod m 128) + 128)))) (u := .v (.int .u8 (IntKind.u8.wrap (IntKind.i64.wrap ((Int.tmod m 128) + 128))))) rfl rfl rfl rfl rfl rfl (.inl rfl) rfl rfl fun X3 => ?_
  refine RW.appendSR (c := cU) (l1 := l) (l2 := [(IntKind.u8.wrap (IntKind.i64.wrap ((Int.tmod m 128) + 128)))]) rfl rfl rfl rfl rfl rfl rfl rfl (.al (k := none) (i := 12) (sz := 1) (V := X3) rfl rfl nofun) (by decide) (Nat.le_of_ble_eq_true rfl) cU.len (fun _ => rfl) rfl (by have h9 := hP.len; simp only [maxLen, List.length_singleton]; omega) (by have h9 := hP.len; simp only [maxLen, List.length_singleton]; omega) fun X4 => ?_
  refine RW.assignMove rfl rfl rfl (by decide) (Nat.le_of_ble_eq_true rfl) (Nat.le_of_ble_eq_true rfl) ?_
  refine RW.nil ?_
  refine CW.keep 22 [0,3] rfl ?_;(conv=>whnf);refine ⟨?_⟩
  refine CW.region ?_
  refine RW.k XK 22 3 rfl ?_
  (conv=>whnf);refine ⟨rfl,?_⟩
  refine RW.nil ?_
  exact ⟨(_, _, _), (hP.step hgt).2, (hP.step hgt).1, rfl, Le.c rfl <| Le.c rfl <| Le.e⟩
 ·skip
  have hgt := h2
  refine CW.exit ?_
  refine CW.keep 22 [0,3] rfl ?_;(conv=>whnf);refine ⟨?_⟩
  refine CW.seq ?_
  refine CW.region ?_
  refine RW.k XK 22 3 rfl ?_
  (conv=>whnf);refine ⟨rfl,?_⟩
  refine RW.build1c (c := cU) (v := (IntKind.u8.wrap m)) (u := .v (.int .u8 (IntKind.u8.wrap m))) rfl rfl rfl rfl rfl rfl (.inl rfl) rfl rfl fun X5 => ?_
  refine RW.appendSR (c := cU) (l1 := l) (l2 := [(IntKind.u8.wrap m)]) rfl rfl rfl rfl rfl rfl rfl rfl (.al (k := none) (i := 19) (sz := 1) (V := X5) rfl rfl nofun) (by decide) (Nat.le_of_ble_eq_true rfl) cU.len (fun _ => rfl) rfl (by have h9 := hP.len; simp only [maxLen, List.length_singleton]; omega) (by have h9 := hP.len; simp only [maxLen, List.length_singleton]; omega) fun X6 => ?_
  refine RW.v rfl (V.bytesStr (l := (l ++ ([(IntKind.u8.wrap m)]))) rfl rfl rfl (by kernel_rfl) (by kernel_rfl) (.al (k := none) (i := 20) (sz := 1) (V := X6) rfl rfl nofun)) ?_
  refine RW.k XK 22 1 rfl ?_
  (conv=>whnf);refine ⟨rfl,?_⟩
  refine RW.nil ?_
  refine CW.keep 22 [2] rfl ?_;(conv=>whnf);refine ⟨?_⟩
  refine CW.ret ?_
  exact Post.one (RV.s rfl (by exact hP.fin hgt)) (AOs.r AOs.e)
set_option maxHeartbeats 4000000 in
theorem impl_within_fn (n : Int) (x : Int) (y : Int) : Eng.Fn E.P 50 [.one (.r (.v (.int .i64 n))), .one (.r (.v (.int .i64 x))), .one (.r (.v (.int .i64 y)))] (.one (.one (.w (.v (.bool (inR n x y)))))) [.one (.r (.v (.int .i64 n))), .one (.r (.v (.int .i64 x))), .one (.r (.v (.int .i64 y)))] := by
 refine Eng.Fn.intro (E := E) (rvs := [.tmp 6]) Tryd.func50 rfl rfl rfl (by simp [outSlots, moved, rvSlot, sl]) ?_
 intro B g bo
 refine CW.keep 15 [0,1,2] rfl ?_;(conv=>whnf);refine ⟨?_⟩
 refine CW.k XK 15 1 [0,1,2] rfl ?_
 (conv=>whnf);refine ⟨rfl,?_⟩
 refine CW.seqJ 15 (fun (v1 : Bool) => [(6, Bo v1)]) (fun v1 => v1 = (decide (n ≥ x) && decide (n ≤ y))) ?_ ?_
 ·refine CW.region ?_
  refine RW.k XK 15 4 rfl ?_
  (conv=>whnf);refine ⟨rfl,?_⟩
  refine RW.gv rfl rfl rfl rfl (fun h2 => V.mv (d := I n) rfl rfl) (fun h2 => ?_) (fun h2 => ?_)
  ·skip
   refine RW.k XK 15 4 rfl ?_
   (conv=>whnf);refine ⟨rfl,?_⟩
   refine RW.nil ?_
   exact ⟨_, by first | rfl | (simp_all; done) | (simp_all; omega) | grind, rfl, Le.of rfl⟩
  ·skip
   refine RW.k XK 15 4 rfl ?_
   (conv=>whnf);refine ⟨rfl,?_⟩
   refine RW.nil ?_
   exact ⟨_, by first | rfl | (simp_all; done) | (simp_all; omega) | grind, rfl, Le.of rfl⟩
 ·intro v1 hv3
  refine CW.ret ?_
  exact Post.one (RV.b rfl (by simp_all [inR])) (AOs.r (AOs.r (AOs.r AOs.e)))
set_option maxHeartbeats 4000000 in
theorem impl_isTerm_fn (n : Int) : Eng.Fn E.P 48 [.one (.r (.v (.int .i64 n)))] (.one (.one (.w (.v (.bool (inR n 0 100000)))))) [.one (.r (.v (.int .i64 n)))] := by
 refine Eng.Fn.intro (E := E) (rvs := [.tmp 2]) Tryd.func48 rfl rfl rfl (by simp [outSlots, moved, rvSlot, sl]) ?_
 intro B g bo
 refine CW.keep 5 [0] rfl ?_;(conv=>whnf);refine ⟨?_⟩
 refine CW.k XK 5 1 [0] rfl ?_
 (conv=>whnf);refine ⟨rfl,?_⟩
 refine CW.seq ?_
 refine CW.region ?_
 refine RW.k XK 5 1 rfl ?_
 (conv=>whnf);refine ⟨rfl,?_⟩
 refine RW.call rfl (impl_within_fn n 0 100000) rfl (.cons (.one (.r .r)) (.cons (.one (.r .r)) (.cons (.one (.r .r)) (.nil)))) fun g1 => ?_
 refine RW.k XK 5 1 rfl ?_
 (conv=>whnf);refine ⟨rfl,?_⟩
 refine RW.nil ?_
 refine CW.keep 5 [2] rfl ?_;(conv=>whnf);refine ⟨?_⟩
 refine CW.ret ?_
 exact Post.one (RV.b rfl (by rfl)) (AOs.r AOs.e)
set_option maxHeartbeats 4000000 in
theorem impl_isIndex_fn (n : Int) : Eng.Fn E.P 47 [.one (.r (.v (.int .i64 n)))] (.one (.one (.w (.v (.bool (inR n 0 1000000)))))) [.one (.r (.v (.int .i64 n)))] := by
 refine Eng.Fn.intro (E := E) (rvs := [.tmp 2]) Tryd.func47 rfl rfl rfl (by simp [outSlots, moved, rvSlot, sl]) ?_
 intro B g bo
 refine CW.keep 5 [0] rfl ?_;(conv=>whnf);refine ⟨?_⟩
 refine CW.k XK 5 1 [0] rfl ?_
 (conv=>whnf);refine ⟨rfl,?_⟩
 refine CW.seq ?_
 refine CW.region ?_
 refine RW.k XK 5 1 rfl ?_
 (conv=>whnf);refine ⟨rfl,?_⟩
 refine RW.call rfl (impl_within_fn n 0 1000000) rfl (.cons (.one (.r .r)) (.cons (.one (.r .r)) (.cons (.one (.r .r)) (.nil)))) fun g1 => ?_
 refine RW.k XK 5 1 rfl ?_
 (conv=>whnf);refine ⟨rfl,?_⟩
 refine RW.nil ?_
 refine CW.keep 5 [2] rfl ?_;(conv=>whnf);refine ⟨?_⟩
 refine CW.ret ?_
 exact Post.one (RV.b rfl (by rfl)) (AOs.r AOs.e)
set_option maxHeartbeats 4000000 in
theorem impl_VarText_fn (n : Int) : Eng.Fn E.P 64 [.one (.r (.v (.int .i64 n)))] (.tup [.one (.w (.v (.string (if inR n 0 1000000000 then varB n.toNat else ⟨#[]⟩)))), .one (.w (.v (.bool (inR n 0 1000000000))))]) [.one (.r (.v (.int .i64 n)))] := by
 refine Eng.Fn.intro (E := E) (rvs := [.tmp 2, .tmp 3]) Tryd.func64 rfl rfl rfl (by simp [outSlots, moved, rvSlot, sl]) ?_
 intro B g bo
 refine CW.keep 26 [0] rfl ?_;(conv=>whnf);refine ⟨?_⟩
 refine CW.k XK 26 1 [0] rfl ?_
 (conv=>whnf);refine ⟨rfl,?_⟩
 refine CW.seq ?_
 refine CW.seq ?_
 refine CW.region ?_
 refine RW.k XK 26 1 rfl ?_
 (conv=>whnf);refine ⟨rfl,?_⟩
 refine RW.call rfl (impl_within_fn n 0 1000000000) rfl (.cons (.one (.r .r)) (.cons (.one (.r .r)) (.cons (.one (.r .r)) (.nil)))) fun g1 => ?_
 refine RW.k XK 26 1 rfl ?_
 (conv=>whnf);refine ⟨rfl,?_⟩
 refine RW.nil ?_
 refine CW.keep 26 [0,7] rfl ?_;(conv=>whnf);refine ⟨?_⟩
 refine CW.cond rfl (fun h2 => ?_) (fun h2 => ?_)
 ·skip
  have hno := nT h2
  refine CW.k XK 26 1 [2,3] rfl ?_
  (conv=>whnf);refine ⟨rfl,?_⟩
  refine CW.ret ?_
  exact Post.tup (by decide) (RVs.c (RV.s rfl (by rw [hno]; rfl)) (RVs.c (RV.b rfl (by rw [hno])) RVs.e)) (AOs.r AOs.e)
 ·skip
  have hin : inR n 0 1000000000 = true := nF h2
  refine CW.skip ?_
  refine CW.keep 26 [0] rfl ?_;(conv=>whnf);refine ⟨?_⟩
  refine CW.seq ?_
  refine CW.region ?_
  refine RW.build0 cU rfl rfl rfl rfl rfl fun X3 => ?_
  refine RW.assignMove rfl rfl rfl (by decide) (Nat.le_of_ble_eq_true rfl) (Nat.le_of_ble_eq_true rfl) ?_
  refine RW.nil ?_
  refine CW.keep 26 [0,4] rfl ?_;(conv=>whnf);refine ⟨?_⟩
  refine CW.seq ?_
  refine CW.block ?_
  refine CW.loopI 26 (fun (zz : Int × List Int × Value) => match zz with | (m, l, X) => [(0, I m), (4, .w (sl 1 cU l) X)]) (fun (zz : Int × List Int × Value) => match zz with | (m, l, X) => VbP n m l) (fun (zz : Int × List Int × Value) => match zz with | (m, l, X) => m.toNat) (_, [], _) rfl (Le.c rfl <| Le.c rfl <| Le.e) (VbP.init (by simp [inR] at hin; omega)) ?_
  rintro ⟨m, l, X⟩ hP
  refine CW.seq ?_
  refine CW.k XK 26 1 [0,4,10] rfl ?_
  (conv=>whnf);refine ⟨rfl,?_⟩
  refine CW.cond rfl (fun h4 => ?_) (fun h4 => ?_)
  ·skip
   have hgt := h4
   refine CW.skip ?_
   refine CW.keep 26 [0,4] rfl ?_;(conv=>whnf);refine ⟨?_⟩
   refine CW.block ?_
   refine CW.seq ?_
   refine CW.region ?_
   refine RW.k XK 26 5 rfl ?_
   (conv=>whnf);refine ⟨rfl,?_⟩
   refine RW.build1c (c := cU) (v := (IntKind.u8.wrap (IntKind.i64.wrap ((Int.tmod m 128) + 128)))) (u := .v (.int .u8 (IntKind.u8.wrap (IntKind.i64.wrap ((Int.tmod m 128) + 128))))) rfl rfl rfl rfl rfl rfl (.inl rfl) rfl rfl fun X5 => ?_
   refine RW.appendSR (c := cU) (l1 := l) (l2 := [(IntKind.u8.wrap (IntKind.i64.wrap ((Int.tmod m 128) + 128)))]) rfl rfl rfl rfl rfl rfl rfl rfl (.al (k := none) (i := 16) (sz := 1) (V := X5) rfl rfl nofun) (by decide) (Nat.le_of_ble_eq_true rfl) cU.len (fun _ => rfl) rfl (by have h9 := hP.len; simp only [maxLen, List.length_singleton]; omega) (by have h9 := hP.len; simp only [maxLen, List.length_singleton]; omega) fun X6 => ?_
   refine RW.assignMove rfl rfl rfl (by decide) (Nat.le_of_ble_eq_true rfl) (Nat.le_of_ble_eq_true rfl) ?_
   refine RW.nil ?_
   refine CW.keep 26 [0,4] rfl ?_;(conv=>whnf);refine ⟨?_⟩
   refine CW.region ?_
   refine RW.k XK 26 3 rfl ?_
   (conv=>whnf);refine ⟨rfl,?_⟩
   refine RW.nil ?_
   exact ⟨(_, _, _), (hP.step hgt).2, (hP.step hgt).1, rfl, Le.c rfl <| Le.c rfl <| Le.e⟩
  ·skip
   have hgt := h4
   refine CW.exit ?_
   refine CW.keep 26 [0,4] rfl ?_;(conv=>whnf);refine ⟨?_⟩
   refine CW.seq ?_
   refine CW.region ?_
   refine RW.k XK 26 3 rfl ?_
   (conv=>whnf);refine ⟨rfl,?_⟩
   refine RW.build1c (c := cU) (v := (IntKind.u8.wrap m)) (u := .v (.int .u8 (IntKind.u8.wrap m))) rfl rfl rfl rfl rfl rfl (.inl rfl) rfl rfl fun X7 => ?_
   refine RW.appendSR (c := cU) (l1 := l) (l2 := [(IntKind.u8.wrap m)]) rfl rfl rfl rfl rfl rfl rfl rfl (.al (k := none) (i := 23) (sz := 1) (V := X7) rfl rfl nofun) (by decide) (Nat.le_of_ble_eq_true rfl) cU.len (fun _ => rfl) rfl (by have h9 := hP.len; simp only [maxLen, List.length_singleton]; omega) (by have h9 := hP.len; simp only [maxLen, List.length_singleton]; omega) fun X8 => ?_
   refine RW.v rfl (V.bytesStr (l := (l ++ ([(IntKind.u8.wrap m)]))) rfl rfl rfl (by kernel_rfl) (by kernel_rfl) (.al (k := none) (i := 24) (sz := 1) (V := X8) rfl rfl nofun)) ?_
   refine RW.k XK 26 2 rfl ?_
   (conv=>whnf);refine ⟨rfl,?_⟩
   refine RW.nil ?_
   refine CW.keep 26 [2,3] rfl ?_;(conv=>whnf);refine ⟨?_⟩
   refine CW.ret ?_
   exact Post.tup (by decide) (RVs.c (RV.s rfl (by rw [if_pos hin]; exact hP.fin hgt)) (RVs.c (RV.b rfl (by exact hin.symm)) RVs.e)) (AOs.r AOs.e)
set_option maxHeartbeats 4000000 in
theorem impl_SumMore_fn (x : Int) (t : ByteArray) (ht : t.size ≤ maxLen) : Eng.Fn E.P 80 [.one (.r (.v (.int .u32 x))), .one (.r (.v (.string t)))] (.one (.one (.w (.v (.int .u32 (sumN x t t.size)))))) [.one (.r (.v (.int .u32 x))), .one (.r (.v (.string t)))] := by
 refine Eng.Fn.intro (E := E) (rvs := [.tmp 4]) Tryd.func80 rfl rfl rfl (by simp [outSlots, moved, rvSlot, sl]) ?_
 intro B g bo
 refine CW.keep 31 [0,1] rfl ?_;(conv=>whnf);refine ⟨?_⟩
 refine CW.seq ?_
 refine CW.region ?_
 refine RW.v rfl (V.as (d := .r (.v (.int .u32 0))) rfl rfl) ?_
 refine RW.nil ?_
 refine CW.keep 31 [0,1] rfl ?_;(conv=>whnf);refine ⟨?_⟩
 refine CW.seq ?_
 refine CW.k XK 31 1 [0,1,5] rfl ?_
 (conv=>whnf);refine ⟨rfl,?_⟩
 refine CW.block ?_
 refine CW.loopI 31 (fun (zz : Nat × Int) => match zz with | (i, s) => [(0, .r (.v (.int .u32 s))), (1, S t), (5, I (i : Int))]) (fun (zz : Nat × Int) => match zz with | (i, s) => i ≤ t.size ∧ s = sumN x t i) (fun (zz : Nat × Int) => match zz with | (i, s) => t.size - i) (0, _) rfl (Le.c rfl <| Le.c rfl <| Le.c rfl <| Le.e) ⟨by omega, rfl⟩ ?_
 rintro ⟨i, s⟩ ⟨hb, hr⟩
 refine CW.seq ?_
 refine CW.k XK 31 1 [0,1,5,10] rfl ?_
 (conv=>whnf);refine ⟨rfl,?_⟩
 refine CW.cond rfl (fun h1 => ?_) (fun h1 => ?_)
 ·skip
  have hlt : i < t.size := by simpa using h1
  refine CW.skip ?_
  refine CW.keep 31 [0,1,5] rfl ?_;(conv=>whnf);refine ⟨?_⟩
  refine CW.seq ?_
  refine CW.block ?_
  refine CW.seq ?_
  refine CW.region ?_
  refine RW.v rfl (V.mv (d := .r (.v (.int .u32 s))) rfl rfl) ?_
  refine RW.k XK 31 2 rfl ?_
  (conv=>whnf);refine ⟨rfl,?_⟩
  refine RW.v rfl (V.idxStr (m := i) rfl (by kernel_rfl) rfl rfl hlt) ?_
  refine RW.v rfl (V.convInt (k := .u32) (k' := .u8) rfl (by kernel_rfl) (by kernel_rfl) rfl) ?_
  refine RW.v rfl (V.xorW rfl rfl rfl) ?_
  refine RW.v rfl (V.as (d := .r (.v (.int .u32 (xorW s (IntKind.u32.wrap (bat t i)))))) rfl rfl) ?_
  refine RW.nil ?_
  refine CW.keep 31 [0,1,5] rfl ?_;(conv=>whnf);refine ⟨?_⟩
  refine CW.k XK 31 1 [0,1,5,19] rfl ?_
  (conv=>whnf);refine ⟨rfl,?_⟩
  refine CW.block ?_
  refine CW.loopI 31 (fun (zz : Nat × Int) => match zz with | (k, r) => [(0, .r (.v (.int .u32 r))), (1, S t), (5, I (i : Int)), (19, I (k : Int))]) (fun (zz : Nat × Int) => match zz with | (k, r) => k ≤ 8 ∧ r = sumBits k (xorW s (IntKind.u32.wrap (bat t i)))) (fun (zz : Nat × Int) => match zz with | (k, r) => 8 - k) (0, _) rfl (Le.c rfl <| Le.c rfl <| Le.c rfl <| Le.c rfl <| Le.e) ⟨by omega, rfl⟩ ?_
  rintro ⟨k, r⟩ ⟨hk8, hk⟩
  refine CW.k XK 31 1 [0,1,5,19,20] rfl ?_
  (conv=>whnf);refine ⟨rfl,?_⟩
  refine CW.seq ?_
  refine CW.cond rfl (fun h2 => ?_) (fun h2 => ?_)
  ·skip
   have hk9 := of_decide_eq_true h2
   refine CW.skip ?_
   refine CW.keep 31 [0,1,5,19] rfl ?_;(conv=>whnf);refine ⟨?_⟩
   refine CW.seq ?_
   refine CW.block ?_
   refine CW.seq ?_
   refine CW.region ?_
   refine RW.v rfl (V.mv (d := .r (.v (.int .u32 r))) rfl rfl) ?_
   refine RW.v rfl (V.rem (k := .u32) rfl rfl rfl (by decide)) ?_
   refine RW.v rfl (V.cmpInt (k := .u32) rfl rfl rfl rfl) ?_
   refine RW.k XK 31 1 rfl ?_
   (conv=>whnf);refine ⟨rfl,?_⟩
   refine RW.nil ?_
   refine CW.keep 31 [0,1,5,6,19] rfl ?_;(conv=>whnf);refine ⟨?_⟩
   refine CW.seq ?_
   refine CW.region ?_
   refine RW.v rfl (V.mv (d := .r (.v (.int .u32 r))) rfl rfl) ?_
   refine RW.v rfl (V.quo (k := .u32) rfl rfl rfl (by decide)) ?_
   refine RW.v rfl (V.as (d := .r (.v (.int .u32 (IntKind.u32.wrap (Int.tdiv r 2))))) rfl rfl) ?_
   refine RW.nil ?_
   refine CW.keep 31 [0,1,5,6,19] rfl ?_;(conv=>whnf);refine ⟨?_⟩
   refine CW.k XK 31 1 [0,1,5,19,26] rfl ?_
   (conv=>whnf);refine ⟨rfl,?_⟩
   refine CW.cond rfl (fun h3 => ?_) (fun h3 => ?_)
   ·skip
    have hod := h3
    refine CW.region ?_
    refine RW.v rfl (V.mv (d := .r (.v (.int .u32 (IntKind.u32.wrap (Int.tdiv r 2))))) rfl rfl) ?_
    refine RW.v rfl (V.xorW rfl rfl rfl) ?_
    refine RW.v rfl (V.as (d := .r (.v (.int .u32 (xorW (IntKind.u32.wrap (Int.tdiv r 2)) 3558460437)))) rfl rfl) ?_
    refine RW.nil ?_
    refine CW.keep 31 [0,1,5,19] rfl ?_;(conv=>whnf);refine ⟨?_⟩
    refine CW.region ?_
    refine RW.v rfl (V.inc rfl rfl rfl (show k < 8 by omega) (by simp only [maxLen]; omega)) ?_
    refine RW.k XK 31 1 rfl ?_
    (conv=>whnf);refine ⟨rfl,?_⟩
    refine RW.nil ?_
    exact ⟨(k + 1, _), by simp only []; omega, ⟨by omega, by first | exact sumB1 hk hod | exact sumB0 hk hod⟩, rfl, Le.c rfl <| Le.c rfl <| Le.c rfl <| Le.c rfl <| Le.e⟩
   ·skip
    have hod := h3
    refine CW.skip ?_
    refine CW.keep 31 [0,1,5,19] rfl ?_;(conv=>whnf);refine ⟨?_⟩
    refine CW.region ?_
    refine RW.v rfl (V.inc rfl rfl rfl (show k < 8 by omega) (by simp only [maxLen]; omega)) ?_
    refine RW.k XK 31 1 rfl ?_
    (conv=>whnf);refine ⟨rfl,?_⟩
    refine RW.nil ?_
    exact ⟨(k + 1, _), by simp only []; omega, ⟨by omega, by first | exact sumB1 hk hod | exact sumB0 hk hod⟩, rfl, Le.c rfl <| Le.c rfl <| Le.c rfl <| Le.c rfl <| Le.e⟩
  ·skip
   have hk9 := of_decide_eq_false h2
   refine CW.exit ?_
   refine CW.keep 31 [0,1,5] rfl ?_;(conv=>whnf);refine ⟨?_⟩
   refine CW.region ?_
   refine RW.k XK 31 1 rfl ?_
   (conv=>whnf);refine ⟨rfl,?_⟩
   refine RW.v rfl (V.inc rfl rfl rfl hlt ht) ?_
   refine RW.k XK 31 1 rfl ?_
   (conv=>whnf);refine ⟨rfl,?_⟩
   refine RW.nil ?_
   exact ⟨(i + 1, _), by simp only []; omega, ⟨by omega, by rw [sumN, ← hr, hk, show k = 8 by omega]⟩, rfl, Le.c rfl <| Le.c rfl <| Le.c rfl <| Le.e⟩
 ·skip
  have hge : ¬ i < t.size := by simpa using h1
  refine CW.exit ?_
  refine CW.keep 31 [0] rfl ?_;(conv=>whnf);refine ⟨?_⟩
  refine CW.seq ?_
  refine CW.region ?_
  refine RW.v rfl (V.mv (d := .r (.v (.int .u32 s))) rfl rfl) ?_
  refine RW.v rfl (V.as (d := .r (.v (.int .u32 s))) rfl rfl) ?_
  refine RW.nil ?_
  refine CW.keep 31 [4] rfl ?_;(conv=>whnf);refine ⟨?_⟩
  refine CW.ret ?_
  exact Post.one (RV.v rfl (by rw [hr, show i = t.size by omega])) (AOs.r (AOs.r AOs.e))
set_option maxHeartbeats 4000000 in
theorem spec_SumMore_fn (x : Int) (t : ByteArray) (ht : t.size ≤ maxLen) : Eng.Fn E.P 75 [.one (.r (.v (.int .u32 x))), .one (.r (.v (.string t)))] (.one (.one (.w (.v (.int .u32 (sumN x t t.size)))))) [.one (.r (.v (.int .u32 x))), .one (.r (.v (.string t)))] := by
 refine Eng.Fn.intro (E := E) (rvs := [.tmp 4]) Tryd.func75 rfl rfl rfl (by simp [outSlots, moved, rvSlot, sl]) ?_
 intro B g bo
 refine CW.keep 33 [0,1] rfl ?_;(conv=>whnf);refine ⟨?_⟩
 refine CW.seq ?_
 refine CW.region ?_
 refine RW.v rfl (V.as (d := .r (.v (.int .u32 0))) rfl rfl) ?_
 refine RW.nil ?_
 refine CW.keep 33 [0,1] rfl ?_;(conv=>whnf);refine ⟨?_⟩
 refine CW.seq ?_
 refine CW.k XK 33 1 [0,1,5] rfl ?_
 (conv=>whnf);refine ⟨rfl,?_⟩
 refine CW.block ?_
 refine CW.loopI 33 (fun (zz : Nat × Int) => match zz with | (i, s) => [(0, .r (.v (.int .u32 s))), (1, S t), (5, I (i : Int))]) (fun (zz : Nat × Int) => match zz with | (i, s) => i ≤ t.size ∧ s = sumN x t i) (fun (zz : Nat × Int) => match zz with | (i, s) => t.size - i) (0, _) rfl (Le.c rfl <| Le.c rfl <| Le.c rfl <| Le.e) ⟨by omega, rfl⟩ ?_
 rintro ⟨i, s⟩ ⟨hb, hr⟩
 refine CW.seq ?_
 refine CW.k XK 33 1 [0,1,5,11] rfl ?_
 (conv=>whnf);refine ⟨rfl,?_⟩
 refine CW.cond rfl (fun h1 => ?_) (fun h1 => ?_)
 ·skip
  have hlt : i < t.size := by simpa using h1
  refine CW.skip ?_
  refine CW.keep 33 [0,1,5] rfl ?_;(conv=>whnf);refine ⟨?_⟩
  refine CW.seq ?_
  refine CW.block ?_
  refine CW.seq ?_
  refine CW.region ?_
  refine RW.v rfl (V.mv (d := .r (.v (.int .u32 s))) rfl rfl) ?_
  refine RW.k XK 33 2 rfl ?_
  (conv=>whnf);refine ⟨rfl,?_⟩
  refine RW.v rfl (V.idxStr (m := i) rfl (by kernel_rfl) rfl rfl hlt) ?_
  refine RW.v rfl (V.convInt (k := .u32) (k' := .u8) rfl (by kernel_rfl) (by kernel_rfl) rfl) ?_
  refine RW.v rfl (V.xorW rfl rfl rfl) ?_
  refine RW.v rfl (V.as (d := .r (.v (.int .u32 (xorW s (IntKind.u32.wrap (bat t i)))))) rfl rfl) ?_
  refine RW.nil ?_
  refine CW.keep 33 [0,1,5] rfl ?_;(conv=>whnf);refine ⟨?_⟩
  refine CW.k XK 33 1 [0,1,5,6] rfl ?_
  (conv=>whnf);refine ⟨rfl,?_⟩
  refine CW.block ?_
  refine CW.loopI 33 (fun (zz : Nat × Int) => match zz with | (k, r) => [(0, .r (.v (.int .u32 r))), (1, S t), (5, I (i : Int)), (6, I (k : Int))]) (fun (zz : Nat × Int) => match zz with | (k, r) => k ≤ 8 ∧ r = sumBits k (xorW s (IntKind.u32.wrap (bat t i)))) (fun (zz : Nat × Int) => match zz with | (k, r) => 8 - k) (0, _) rfl (Le.c rfl <| Le.c rfl <| Le.c rfl <| Le.c rfl <| Le.e) ⟨by omega, rfl⟩ ?_
  rintro ⟨k, r⟩ ⟨hk8, hk⟩
  refine CW.seq ?_
  refine CW.k XK 33 1 [0,1,5,6,21] rfl ?_
  (conv=>whnf);refine ⟨rfl,?_⟩
  refine CW.cond rfl (fun h2 => ?_) (fun h2 => ?_)
  ·skip
   have hk9 := of_decide_eq_true h2
   refine CW.skip ?_
   refine CW.keep 33 [0,1,5,6] rfl ?_;(conv=>whnf);refine ⟨?_⟩
   refine CW.seq ?_
   refine CW.block ?_
   refine CW.seq ?_
   refine CW.region ?_
   refine RW.v rfl (V.mv (d := .r (.v (.int .u32 r))) rfl rfl) ?_
   refine RW.v rfl (V.rem (k := .u32) rfl rfl rfl (by decide)) ?_
   refine RW.v rfl (V.cmpInt (k := .u32) rfl rfl rfl rfl) ?_
   refine RW.k XK 33 1 rfl ?_
   (conv=>whnf);refine ⟨rfl,?_⟩
   refine RW.nil ?_
   refine CW.keep 33 [0,1,5,6,7] rfl ?_;(conv=>whnf);refine ⟨?_⟩
   refine CW.seq ?_
   refine CW.region ?_
   refine RW.v rfl (V.mv (d := .r (.v (.int .u32 r))) rfl rfl) ?_
   refine RW.v rfl (V.quo (k := .u32) rfl rfl rfl (by decide)) ?_
   refine RW.v rfl (V.as (d := .r (.v (.int .u32 (IntKind.u32.wrap (Int.tdiv r 2))))) rfl rfl) ?_
   refine RW.nil ?_
   refine CW.keep 33 [0,1,5,6,7] rfl ?_;(conv=>whnf);refine ⟨?_⟩
   refine CW.k XK 33 1 [0,1,5,6,29] rfl ?_
   (conv=>whnf);refine ⟨rfl,?_⟩
   refine CW.cond rfl (fun h3 => ?_) (fun h3 => ?_)
   ·skip
    have hod := h3
    refine CW.region ?_
    refine RW.v rfl (V.mv (d := .r (.v (.int .u32 (IntKind.u32.wrap (Int.tdiv r 2))))) rfl rfl) ?_
    refine RW.v rfl (V.xorW rfl rfl rfl) ?_
    refine RW.v rfl (V.as (d := .r (.v (.int .u32 (xorW (IntKind.u32.wrap (Int.tdiv r 2)) 3558460437)))) rfl rfl) ?_
    refine RW.nil ?_
    refine CW.keep 33 [0,1,5,6] rfl ?_;(conv=>whnf);refine ⟨?_⟩
    refine CW.region ?_
    refine RW.k XK 33 1 rfl ?_
    (conv=>whnf);refine ⟨rfl,?_⟩
    refine RW.v rfl (V.inc rfl rfl rfl (show k < 8 by omega) (by simp only [maxLen]; omega)) ?_
    refine RW.k XK 33 1 rfl ?_
    (conv=>whnf);refine ⟨rfl,?_⟩
    refine RW.nil ?_
    exact ⟨(k + 1, _), by simp only []; omega, ⟨by omega, by first | exact sumB1 hk hod | exact sumB0 hk hod⟩, rfl, Le.c rfl <| Le.c rfl <| Le.c rfl <| Le.c rfl <| Le.e⟩
   ·skip
    have hod := h3
    refine CW.skip ?_
    refine CW.keep 33 [0,1,5,6] rfl ?_;(conv=>whnf);refine ⟨?_⟩
    refine CW.region ?_
    refine RW.k XK 33 1 rfl ?_
    (conv=>whnf);refine ⟨rfl,?_⟩
    refine RW.v rfl (V.inc rfl rfl rfl (show k < 8 by omega) (by simp only [maxLen]; omega)) ?_
    refine RW.k XK 33 1 rfl ?_
    (conv=>whnf);refine ⟨rfl,?_⟩
    refine RW.nil ?_
    exact ⟨(k + 1, _), by simp only []; omega, ⟨by omega, by first | exact sumB1 hk hod | exact sumB0 hk hod⟩, rfl, Le.c rfl <| Le.c rfl <| Le.c rfl <| Le.c rfl <| Le.e⟩
  ·skip
   have hk9 := of_decide_eq_false h2
   refine CW.exit ?_
   refine CW.keep 33 [0,1,5] rfl ?_;(conv=>whnf);refine ⟨?_⟩
   refine CW.region ?_
   refine RW.k XK 33 1 rfl ?_
   (conv=>whnf);refine ⟨rfl,?_⟩
   refine RW.v rfl (V.inc rfl rfl rfl hlt ht) ?_
   refine RW.k XK 33 1 rfl ?_
   (conv=>whnf);refine ⟨rfl,?_⟩
   refine RW.nil ?_
   exact ⟨(i + 1, _), by simp only []; omega, ⟨by omega, by rw [sumN, ← hr, hk, show k = 8 by omega]⟩, rfl, Le.c rfl <| Le.c rfl <| Le.c rfl <| Le.e⟩
 ·skip
  have hge : ¬ i < t.size := by simpa using h1
  refine CW.exit ?_
  refine CW.keep 33 [0] rfl ?_;(conv=>whnf);refine ⟨?_⟩
  refine CW.seq ?_
  refine CW.region ?_
  refine RW.v rfl (V.mv (d := .r (.v (.int .u32 s))) rfl rfl) ?_
  refine RW.v rfl (V.as (d := .r (.v (.int .u32 s))) rfl rfl) ?_
  refine RW.nil ?_
  refine CW.keep 33 [4] rfl ?_;(conv=>whnf);refine ⟨?_⟩
  refine CW.ret ?_
  exact Post.one (RV.v rfl (by rw [hr, show i = t.size by omega])) (AOs.r (AOs.r AOs.e))
set_option maxHeartbeats 4000000 in
theorem impl_SumOf_fn (t : ByteArray) (ht : t.size ≤ maxLen) : Eng.Fn E.P 72 [.one (.r (.v (.string t)))] (.one (.one (.w (.v (.int .u32 (sumN 4294967295 t t.size)))))) [.one (.r (.v (.string t)))] := by
 refine Eng.Fn.intro (E := E) (rvs := [.tmp 2]) Tryd.func72 rfl rfl rfl (by simp [outSlots, moved, rvSlot, sl]) ?_
 intro B g bo
 refine CW.keep 5 [0] rfl ?_;(conv=>whnf);refine ⟨?_⟩
 refine CW.seq ?_
 refine CW.region ?_
 refine RW.v rfl (V.as (d := .r (.v (.int .u32 0))) rfl rfl) ?_
 refine RW.nil ?_
 refine CW.keep 5 [0] rfl ?_;(conv=>whnf);refine ⟨?_⟩
 refine CW.seq ?_
 refine CW.region ?_
 refine RW.k XK 5 1 rfl ?_
 (conv=>whnf);refine ⟨rfl,?_⟩
 refine RW.call rfl (impl_SumMore_fn 4294967295 t ht) rfl (.cons (.one (.r .r)) (.cons (.one (.r .r)) (.nil))) fun g1 => ?_
 refine RW.v rfl (V.as (d := .r (.v (.int .u32 (sumN 4294967295 t t.size)))) rfl rfl) ?_
 refine RW.nil ?_
 refine CW.keep 5 [2] rfl ?_;(conv=>whnf);refine ⟨?_⟩
 refine CW.ret ?_
 exact Post.one (RV.v rfl (by rfl)) (AOs.r AOs.e)
set_option maxHeartbeats 4000000 in
theorem spec_SumOf_fn (t : ByteArray) (ht : t.size ≤ maxLen) : Eng.Fn E.P 56 [.one (.r (.v (.string t)))] (.one (.one (.w (.v (.int .u32 (sumN 4294967295 t t.size)))))) [.one (.r (.v (.string t)))] := by
 refine Eng.Fn.intro (E := E) (rvs := [.tmp 2]) Tryd.func56 rfl rfl rfl (by simp [outSlots, moved, rvSlot, sl]) ?_
 intro B g bo
 refine CW.keep 5 [0] rfl ?_;(conv=>whnf);refine ⟨?_⟩
 refine CW.seq ?_
 refine CW.region ?_
 refine RW.v rfl (V.as (d := .r (.v (.int .u32 0))) rfl rfl) ?_
 refine RW.nil ?_
 refine CW.keep 5 [0] rfl ?_;(conv=>whnf);refine ⟨?_⟩
 refine CW.seq ?_
 refine CW.region ?_
 refine RW.k XK 5 1 rfl ?_
 (conv=>whnf);refine ⟨rfl,?_⟩
 refine RW.call rfl (spec_SumMore_fn 4294967295 t ht) rfl (.cons (.one (.r .r)) (.cons (.one (.r .r)) (.nil))) fun g1 => ?_
 refine RW.v rfl (V.as (d := .r (.v (.int .u32 (sumN 4294967295 t t.size)))) rfl rfl) ?_
 refine RW.nil ?_
 refine CW.keep 5 [2] rfl ?_;(conv=>whnf);refine ⟨?_⟩
 refine CW.ret ?_
 exact Post.one (RV.v rfl (by rfl)) (AOs.r AOs.e)
set_option maxHeartbeats 4000000 in
theorem spec_l02Four_fn (x : Int) : Eng.Fn E.P 55 [.one (.r (.v (.int .u32 x)))] (.one (.one (.w (.v (.string (fourN x)))))) [.one (.r (.v (.int .u32 x)))] := by
 refine Eng.Fn.intro (E := E) (rvs := [.tmp 2]) Tryd.func55 rfl rfl rfl (by simp [outSlots, moved, rvSlot, sl]) ?_
 intro B g bo
 refine CW.keep 16 [0] rfl ?_;(conv=>whnf);refine ⟨?_⟩
 refine CW.k XK 16 1 [0] rfl ?_
 (conv=>whnf);refine ⟨rfl,?_⟩
 refine CW.seq ?_
 refine CW.region ?_
 refine RW.v rfl (V.mv (d := .r (.v (.int .u32 x))) rfl rfl) ?_
 refine RW.v rfl (V.shrW rfl rfl rfl (by decide)) ?_
 refine RW.v rfl (V.convInt (k := .u8) (k' := .u32) rfl (by kernel_rfl) (by kernel_rfl) rfl) ?_
 refine RW.v rfl (V.mv (d := .r (.v (.int .u32 x))) rfl rfl) ?_
 refine RW.v rfl (V.shrW rfl rfl rfl (by decide)) ?_
 refine RW.v rfl (V.convInt (k := .u8) (k' := .u32) rfl (by kernel_rfl) (by kernel_rfl) rfl) ?_
 refine RW.v rfl (V.mv (d := .r (.v (.int .u32 x))) rfl rfl) ?_
 refine RW.v rfl (V.shrW rfl rfl rfl (by decide)) ?_
 refine RW.v rfl (V.convInt (k := .u8) (k' := .u32) rfl (by kernel_rfl) (by kernel_rfl) rfl) ?_
 refine RW.v rfl (V.mv (d := .r (.v (.int .u32 x))) rfl rfl) ?_
 refine RW.v rfl (V.convInt (k := .u8) (k' := .u32) rfl (by kernel_rfl) (by kernel_rfl) rfl) ?_
 refine RW.buildV (c := cU) (L := [(IntKind.u8.wrap (shrW x 24)), (IntKind.u8.wrap (shrW x 16)), (IntKind.u8.wrap (shrW x 8)), (IntKind.u8.wrap x)]) (vs := [(.int .u8 (IntKind.u8.wrap (shrW x 24))), (.int .u8 (IntKind.u8.wrap (shrW x 16))), (.int .u8 (IntKind.u8.wrap (shrW x 8))), (.int .u8 (IntKind.u8.wrap x))]) [.tmp 5, .tmp 8, .tmp 11, .tmp 13] rfl rfl rfl rfl rfl rfl rfl rfl rfl rfl (by decide) (by decide) rfl rfl fun X1 => ?_
 refine RW.v rfl (V.bytesStr (l := ([(IntKind.u8.wrap (shrW x 24)), (IntKind.u8.wrap (shrW x 16)), (IntKind.u8.wrap (shrW x 8)), (IntKind.u8.wrap x)] : List Int)) rfl rfl rfl (by kernel_rfl) (by kernel_rfl) (.al (k := none) (i := 14) (sz := 1) (V := X1) rfl rfl nofun)) ?_
 refine RW.k XK 16 1 rfl ?_
 (conv=>whnf);refine ⟨rfl,?_⟩
 refine RW.nil ?_
 refine CW.keep 16 [2] rfl ?_;(conv=>whnf);refine ⟨?_⟩
 refine CW.ret ?_
 exact Post.one (RV.s rfl (by rfl)) (AOs.r AOs.e)
set_option maxHeartbeats 4000000 in
theorem impl_sumText_fn (t : ByteArray) (ht : t.size ≤ maxLen) : Eng.Fn E.P 65 [.one (.r (.v (.string t)))] (.one (.one (.w (.v (.string (sumT t)))))) [.one (.r (.v (.string t)))] := by
 refine Eng.Fn.intro (E := E) (rvs := [.tmp 2]) Tryd.func65 rfl rfl rfl (by simp [outSlots, moved, rvSlot, sl]) ?_
 intro B g bo
 refine CW.keep 19 [0] rfl ?_;(conv=>whnf);refine ⟨?_⟩
 refine CW.k XK 19 1 [0] rfl ?_
 (conv=>whnf);refine ⟨rfl,?_⟩
 refine CW.seq ?_
 refine CW.region ?_
 refine RW.k XK 19 1 rfl ?_
 (conv=>whnf);refine ⟨rfl,?_⟩
 refine RW.call rfl (impl_SumOf_fn t ht) rfl (.cons (.one (.r .r)) (.nil)) fun g1 => ?_
 refine RW.v rfl (V.as (d := .r (.v (.int .u32 (sumN 4294967295 t t.size)))) rfl rfl) ?_
 refine RW.nil ?_
 refine CW.keep 19 [3] rfl ?_;(conv=>whnf);refine ⟨?_⟩
 refine CW.seq ?_
 refine CW.region ?_
 refine RW.v rfl (V.mv (d := .r (.v (.int .u32 (sumN 4294967295 t t.size)))) rfl rfl) ?_
 refine RW.v rfl (V.shrW rfl rfl rfl (by decide)) ?_
 refine RW.v rfl (V.convInt (k := .u8) (k' := .u32) rfl (by kernel_rfl) (by kernel_rfl) rfl) ?_
 refine RW.v rfl (V.mv (d := .r (.v (.int .u32 (sumN 4294967295 t t.size)))) rfl rfl) ?_
 refine RW.v rfl (V.shrW rfl rfl rfl (by decide)) ?_
 refine RW.v rfl (V.convInt (k := .u8) (k' := .u32) rfl (by kernel_rfl) (by kernel_rfl) rfl) ?_
 refine RW.v rfl (V.mv (d := .r (.v (.int .u32 (sumN 4294967295 t t.size)))) rfl rfl) ?_
 refine RW.v rfl (V.shrW rfl rfl rfl (by decide)) ?_
 refine RW.v rfl (V.convInt (k := .u8) (k' := .u32) rfl (by kernel_rfl) (by kernel_rfl) rfl) ?_
 refine RW.v rfl (V.mv (d := .r (.v (.int .u32 (sumN 4294967295 t t.size)))) rfl rfl) ?_
 refine RW.v rfl (V.convInt (k := .u8) (k' := .u32) rfl (by kernel_rfl) (by kernel_rfl) rfl) ?_
 refine RW.buildV (c := cU) (L := [(IntKind.u8.wrap (shrW (sumN 4294967295 t t.size) 24)), (IntKind.u8.wrap (shrW (sumN 4294967295 t t.size) 16)), (IntKind.u8.wrap (shrW (sumN 4294967295 t t.size) 8)), (IntKind.u8.wrap (sumN 4294967295 t t.size))]) (vs := [(.int .u8 (IntKind.u8.wrap (shrW (sumN 4294967295 t t.size) 24))), (.int .u8 (IntKind.u8.wrap (shrW (sumN 4294967295 t t.size) 16))), (.int .u8 (IntKind.u8.wrap (shrW (sumN 4294967295 t t.size) 8))), (.int .u8 (IntKind.u8.wrap (sumN 4294967295 t t.size)))]) [.tmp 8, .tmp 11, .tmp 14, .tmp 16] rfl rfl rfl rfl rfl rfl rfl rfl rfl rfl (by decide) (by decide) rfl rfl fun X2 => ?_
 refine RW.v rfl (V.bytesStr (l := ([(IntKind.u8.wrap (shrW (sumN 4294967295 t t.size) 24)), (IntKind.u8.wrap (shrW (sumN 4294967295 t t.size) 16)), (IntKind.u8.wrap (shrW (sumN 4294967295 t t.size) 8)), (IntKind.u8.wrap (sumN 4294967295 t t.size))] : List Int)) rfl rfl rfl (by kernel_rfl) (by kernel_rfl) (.al (k := none) (i := 17) (sz := 1) (V := X2) rfl rfl nofun)) ?_
 refine RW.k XK 19 1 rfl ?_
 (conv=>whnf);refine ⟨rfl,?_⟩
 refine RW.nil ?_
 refine CW.keep 19 [2] rfl ?_;(conv=>whnf);refine ⟨?_⟩
 refine CW.ret ?_
 exact Post.one (RV.s rfl (by rfl)) (AOs.r AOs.e)
set_option maxHeartbeats 4000000 in
theorem impl_highFirst_fn (n : Int) (k : Int) (hk : k = 4) : Eng.Fn E.P 71 [.one (.r (.v (.int .i64 n))), .one (.r (.v (.int .i64 k)))] (.one (.one (.w (.v (.string (bytesOf (hf4 n))))))) [.one (.r (.v (.int .i64 n))), .one (.r (.v (.int .i64 k)))] := by
 refine Eng.Fn.intro (E := E) (rvs := [.tmp 4]) Tryd.func71 rfl rfl rfl (by simp [outSlots, moved, rvSlot, sl]) ?_
 intro B g bo
 refine CW.keep 25 [0,1] rfl ?_;(conv=>whnf);refine ⟨?_⟩
 have hk2 : k = ((4 : Nat) : Int) := hk
 have hk3 : IntKind.i64.wrap (k - 1) = ((4 : Nat) : Int) - 1 := by rw [hk]; rfl
 refine CW.k XK 25 1 [0,1] rfl ?_
 (conv=>whnf);refine ⟨rfl,?_⟩
 refine CW.seq ?_
 refine CW.region ?_
 refine RW.k XK 25 1 rfl ?_
 (conv=>whnf);refine ⟨rfl,?_⟩
 refine RW.makeS (n := 4) (c := cU) 0 rfl rfl rfl rfl rfl (congrArg (fun z : Int => D.r (.v (.int .i64 z))) hk2) (congrArg (fun z : Int => D.r (.v (.int .i64 z))) hk2) rfl (ZT.v ZT.e) (by show 1 * 4 ≤ 281474976710656; omega) (by simp only [maxLen]; omega) fun X1 => ?_
 refine RW.assignMove rfl rfl rfl (by decide) (Nat.le_of_ble_eq_true rfl) (Nat.le_of_ble_eq_true rfl) ?_
 refine RW.nil ?_
 refine CW.keep 25 [0,1,5] rfl ?_;(conv=>whnf);refine ⟨?_⟩
 refine CW.seq ?_
 refine CW.k XK 25 1 [0,5,6] rfl ?_
 (conv=>whnf);refine ⟨rfl,?_⟩
 refine CW.block ?_
 refine CW.loopI 25 (fun (zz : Nat × Int × List Int × Value) => match zz with | (j, m, l, X) => [(0, I m), (5, .w (sl 1 cU l) X), (6, I ((j : Int) - 1))]) (fun (zz : Nat × Int × List Int × Value) => match zz with | (j, m, l, X) => HfP n j m l) (fun (zz : Nat × Int × List Int × Value) => match zz with | (j, m, l, X) => j) (4, _, _, _) rfl (Le.c rfl <| Le.c rfl <| Le.c (congrArg I hk3) <| Le.e) (HfP.init n) ?_
 rintro ⟨j, m, l, X⟩ hP
 refine CW.seq ?_
 refine CW.k XK 25 1 [0,5,6,12] rfl ?_
 (conv=>whnf);refine ⟨rfl,?_⟩
 refine CW.cond rfl (fun h2 => ?_) (fun h2 => ?_)
 ·skip
  have hge := of_decide_eq_true h2
  refine CW.skip ?_
  refine CW.keep 25 [0,5,6] rfl ?_;(conv=>whnf);refine ⟨?_⟩
  refine CW.seq ?_
  refine CW.block ?_
  refine CW.seq ?_
  refine CW.region ?_
  refine RW.k XK 25 5 rfl ?_
  (conv=>whnf);refine ⟨rfl,?_⟩
  refine RW.v rfl (V.indexWZ (m := (j - 1)) rfl rfl rfl rfl rfl rfl rfl (by omega) (by rw [hP.len]; have h9 := hP.j4; omega)) ?_
  refine RW.storeS1 (v := (IntKind.u8.wrap (andI m 255))) (c := cU) (u := .v (.int .u8 (IntKind.u8.wrap (andI m 255)))) rfl rfl rfl rfl rfl rfl rfl (.inl rfl) rfl cU.len (by rw [hP.len]; have h9 := hP.j4; omega) rfl ?_
  refine RW.nil ?_
  refine CW.keep 25 [0,5,6] rfl ?_;(conv=>whnf);refine ⟨?_⟩
  refine CW.region ?_
  refine RW.k XK 25 3 rfl ?_
  (conv=>whnf);refine ⟨rfl,?_⟩
  refine RW.nil ?_
  refine CW.keep 25 [0,5,6] rfl ?_;(conv=>whnf);refine ⟨?_⟩
  refine CW.region ?_
  refine RW.k XK 25 3 rfl ?_
  (conv=>whnf);refine ⟨rfl,?_⟩
  refine RW.nil ?_
  exact ⟨(j - 1, _, _, _), by simp only []; omega, (hP.step (by omega)), rfl, Le.c rfl <| Le.c rfl <| Le.c (congrArg I (by have h9 := hP.j4; rw [wrap_small (by omega) (by omega)]; omega)) <| Le.e⟩
 ·skip
  have hge := of_decide_eq_false h2
  refine CW.exit ?_
  refine CW.keep 25 [5] rfl ?_;(conv=>whnf);refine ⟨?_⟩
  refine CW.seq ?_
  refine CW.region ?_
  refine RW.k XK 25 1 rfl ?_
  (conv=>whnf);refine ⟨rfl,?_⟩
  refine RW.v rfl (V.bytesStr (l := l) rfl rfl rfl (by kernel_rfl) (by kernel_rfl) (.al (k := none) (i := 5) (sz := 1) (V := X) rfl rfl nofun)) ?_
  refine RW.k XK 25 1 rfl ?_
  (conv=>whnf);refine ⟨rfl,?_⟩
  refine RW.nil ?_
  refine CW.keep 25 [4] rfl ?_;(conv=>whnf);refine ⟨?_⟩
  refine CW.ret ?_
  exact Post.one (RV.s rfl (by rw [hP.fin (by omega)])) (AOs.r (AOs.r AOs.e))
set_option maxHeartbeats 4000000 in
theorem impl_Sealed_fn (t : ByteArray) : Eng.Fn E.P 49 [.one (.r (.v (.string t)))] (.tup [.one (.w (.v (.string ((sealT t).1)))), .one (.w (.v (.bool ((sealT t).2))))]) [.one (.r (.v (.string t)))] := by
 refine Eng.Fn.intro (E := E) (rvs := [.tmp 2, .tmp 3]) Tryd.func49 rfl rfl rfl (by simp [outSlots, moved, rvSlot, sl]) ?_
 intro B g bo
 refine CW.keep 13 [0] rfl ?_;(conv=>whnf);refine ⟨?_⟩
 refine CW.k XK 13 1 [0] rfl ?_
 (conv=>whnf);refine ⟨rfl,?_⟩
 refine CW.seq ?_
 refine CW.k XK 13 1 [0,6] rfl ?_
 (conv=>whnf);refine ⟨rfl,?_⟩
 refine CW.cond rfl (fun h1 => ?_) (fun h1 => ?_)
 ·skip
  have hgt : (t.size : Int) > 20000 := of_decide_eq_true h1
  refine CW.k XK 13 1 [2,3] rfl ?_
  (conv=>whnf);refine ⟨rfl,?_⟩
  refine CW.ret ?_
  exact Post.tup (by decide) (RVs.c (RV.s rfl (by rw [sealT, if_pos hgt])) (RVs.c (RV.b rfl (by rw [sealT, if_pos hgt])) RVs.e)) (AOs.r AOs.e)
 ·skip
  have hgt : ¬ (t.size : Int) > 20000 := of_decide_eq_false h1
  refine CW.skip ?_
  refine CW.keep 13 [0] rfl ?_;(conv=>whnf);refine ⟨?_⟩
  refine CW.seq ?_
  refine CW.region ?_
  refine RW.k XK 13 2 rfl ?_
  (conv=>whnf);refine ⟨rfl,?_⟩
  refine RW.call rfl (impl_SumOf_fn t (by simp only [maxLen]; omega)) rfl (.cons (.one (.r .r)) (.nil)) fun g2 => ?_
  refine RW.v rfl (V.convInt (k := .i64) (k' := .u32) rfl (by kernel_rfl) (by kernel_rfl) rfl) ?_
  refine RW.call rfl (impl_highFirst_fn (IntKind.i64.wrap (sumN 4294967295 t t.size)) 4 rfl) rfl (.cons (.one (.r .r)) (.cons (.one (.r .r)) (.nil))) fun g3 => ?_
  refine RW.v rfl (V.cat rfl rfl rfl (by rw [sum_hf]; have h9 := sumT_size t; simp only [maxLen]; omega)) ?_
  refine RW.k XK 13 2 rfl ?_
  (conv=>whnf);refine ⟨rfl,?_⟩
  refine RW.nil ?_
  refine CW.keep 13 [2,3] rfl ?_;(conv=>whnf);refine ⟨?_⟩
  refine CW.ret ?_
  exact Post.tup (by decide) (RVs.c (RV.s rfl (by rw [sealT, if_neg hgt]; exact congrArg (t ++ ·) (sum_hf t))) (RVs.c (RV.b rfl (by rw [sealT, if_neg hgt])) RVs.e)) (AOs.r AOs.e)
set_option maxHeartbeats 4000000 in
theorem spec_Sealed_fn (t : ByteArray) : Eng.Fn E.P 34 [.one (.r (.v (.string t)))] (.tup [.one (.w (.v (.string ((sealT t).1)))), .one (.w (.v (.bool ((sealT t).2))))]) [.one (.r (.v (.string t)))] := by
 refine Eng.Fn.intro (E := E) (rvs := [.tmp 2, .tmp 3]) Tryd.func34 rfl rfl rfl (by simp [outSlots, moved, rvSlot, sl]) ?_
 intro B g bo
 refine CW.keep 12 [0] rfl ?_;(conv=>whnf);refine ⟨?_⟩
 refine CW.k XK 12 1 [0] rfl ?_
 (conv=>whnf);refine ⟨rfl,?_⟩
 refine CW.seq ?_
 refine CW.k XK 12 1 [0,6] rfl ?_
 (conv=>whnf);refine ⟨rfl,?_⟩
 refine CW.cond rfl (fun h1 => ?_) (fun h1 => ?_)
 ·skip
  have hgt : (t.size : Int) > 20000 := of_decide_eq_true h1
  refine CW.k XK 12 1 [2,3] rfl ?_
  (conv=>whnf);refine ⟨rfl,?_⟩
  refine CW.ret ?_
  exact Post.tup (by decide) (RVs.c (RV.s rfl (by rw [sealT, if_pos hgt])) (RVs.c (RV.b rfl (by rw [sealT, if_pos hgt])) RVs.e)) (AOs.r AOs.e)
 ·skip
  have hgt : ¬ (t.size : Int) > 20000 := of_decide_eq_false h1
  refine CW.skip ?_
  refine CW.keep 12 [0] rfl ?_;(conv=>whnf);refine ⟨?_⟩
  refine CW.seq ?_
  refine CW.region ?_
  refine RW.k XK 12 2 rfl ?_
  (conv=>whnf);refine ⟨rfl,?_⟩
  refine RW.call rfl (spec_SumOf_fn t (by simp only [maxLen]; omega)) rfl (.cons (.one (.r .r)) (.nil)) fun g2 => ?_
  refine RW.call rfl (spec_l02Four_fn (sumN 4294967295 t t.size)) rfl (.cons (.one (.r .r)) (.nil)) fun g3 => ?_
  refine RW.v rfl (V.cat rfl rfl rfl (by have h9 := sumT_size t; simp only [sumT] at h9; simp only [maxLen]; omega)) ?_
  refine RW.k XK 12 2 rfl ?_
  (conv=>whnf);refine ⟨rfl,?_⟩
  refine RW.nil ?_
  refine CW.keep 12 [2,3] rfl ?_;(conv=>whnf);refine ⟨?_⟩
  refine CW.ret ?_
  exact Post.tup (by decide) (RVs.c (RV.s rfl (by rw [sealT, if_neg hgt]; rfl)) (RVs.c (RV.b rfl (by rw [sealT, if_neg hgt])) RVs.e)) (AOs.r AOs.e)
set_option maxHeartbeats 4000000 in
theorem impl_Frame_fn (t : ByteArray) : Eng.Fn E.P 39 [.one (.r (.v (.string t)))] (.tup [.one (.w (.v (.string ((frT t).1)))), .one (.w (.v (.bool ((frT t).2))))]) [.one (.r (.v (.string t)))] := by
 refine Eng.Fn.intro (E := E) (rvs := [.tmp 2, .tmp 3]) Tryd.func39 rfl rfl rfl (by simp [outSlots, moved, rvSlot, sl]) ?_
 intro B g bo
 refine CW.keep 22 [0] rfl ?_;(conv=>whnf);refine ⟨?_⟩
 refine CW.k XK 22 1 [0] rfl ?_
 (conv=>whnf);refine ⟨rfl,?_⟩
 refine CW.seq ?_
 refine CW.seq ?_
 refine CW.region ?_
 refine RW.k XK 22 2 rfl ?_
 (conv=>whnf);refine ⟨rfl,?_⟩
 refine RW.call rfl (impl_within_fn (t.size : Int) 1 9000) rfl (.cons (.one (.r .r)) (.cons (.one (.r .r)) (.cons (.one (.r .r)) (.nil)))) fun g1 => ?_
 refine RW.k XK 22 1 rfl ?_
 (conv=>whnf);refine ⟨rfl,?_⟩
 refine RW.nil ?_
 refine CW.keep 22 [0,9] rfl ?_;(conv=>whnf);refine ⟨?_⟩
 refine CW.cond rfl (fun h2 => ?_) (fun h2 => ?_)
 ·skip
  have hno := h2
  refine CW.k XK 22 1 [2,3] rfl ?_
  (conv=>whnf);refine ⟨rfl,?_⟩
  refine CW.ret ?_
  exact Post.tup (by decide) (RVs.c (RV.s rfl (by rw [fr_no hno])) (RVs.c (RV.b rfl (by rw [fr_no hno])) RVs.e)) (AOs.r AOs.e)
 ·skip
  have hno := h2
  have hin := fr_in (nF h2)
  refine CW.skip ?_
  refine CW.keep 22 [0] rfl ?_;(conv=>whnf);refine ⟨?_⟩
  refine CW.seq ?_
  refine CW.region ?_
  refine RW.k XK 22 2 rfl ?_
  (conv=>whnf);refine ⟨rfl,?_⟩
  refine RW.call rfl (impl_VarText_fn (t.size : Int)) rfl (.cons (.one (.r .r)) (.nil)) fun g3 => ?_
  refine RW.k XK 22 5 rfl ?_
  (conv=>whnf);refine ⟨rfl,?_⟩
  refine RW.nil ?_
  refine CW.keep 22 [0,4] rfl ?_;(conv=>whnf);refine ⟨?_⟩
  refine CW.seq ?_
  refine CW.region ?_
  refine RW.k XK 22 2 rfl ?_
  (conv=>whnf);refine ⟨rfl,?_⟩
  refine RW.call rfl (impl_sumText_fn t (by simp only [maxLen]; omega)) rfl (.cons (.one (.r .r)) (.nil)) fun g4 => ?_
  refine RW.v rfl (V.cat rfl rfl rfl (by have h9 := sumT_size t; simp only [sumT] at h9; have h8 := varB_len9 (n := t.size) (by omega); have h7 : (if inR (t.size : Int) 0 1000000000 then varB ((t.size : Int)).toNat else ⟨#[]⟩ : ByteArray).size ≤ 9 := (by rw [if_pos (by simp [inR]; omega)]; exact h8); simp only [ByteArray.size_append, maxLen, sumT, Int.toNat_natCast] at *; omega)) ?_
  refine RW.k XK 22 1 rfl ?_
  (conv=>whnf);refine ⟨rfl,?_⟩
  refine RW.v rfl (V.cat rfl rfl rfl (by have h9 := sumT_size t; simp only [sumT] at h9; have h8 := varB_len9 (n := t.size) (by omega); have h7 : (if inR (t.size : Int) 0 1000000000 then varB ((t.size : Int)).toNat else ⟨#[]⟩ : ByteArray).size ≤ 9 := (by rw [if_pos (by simp [inR]; omega)]; exact h8); simp only [ByteArray.size_append, maxLen, sumT, Int.toNat_natCast] at *; omega)) ?_
  refine RW.k XK 22 2 rfl ?_
  (conv=>whnf);refine ⟨rfl,?_⟩
  refine RW.nil ?_
  refine CW.keep 22 [2,3] rfl ?_;(conv=>whnf);refine ⟨?_⟩
  refine CW.ret ?_
  exact Post.tup (by decide) (RVs.c (RV.s rfl (by rw [fr_go hno, if_pos (by simp [inR]; omega)]; rfl)) (RVs.c (RV.b rfl (by rw [fr_go hno])) RVs.e)) (AOs.r AOs.e)
set_option maxHeartbeats 4000000 in
theorem spec_Frame_fn (t : ByteArray) : Eng.Fn E.P 27 [.one (.r (.v (.string t)))] (.tup [.one (.w (.v (.string ((frT t).1)))), .one (.w (.v (.bool ((frT t).2))))]) [.one (.r (.v (.string t)))] := by
 refine Eng.Fn.intro (E := E) (rvs := [.tmp 2, .tmp 3]) Tryd.func27 rfl rfl rfl (by simp [outSlots, moved, rvSlot, sl]) ?_
 intro B g bo
 refine CW.keep 17 [0] rfl ?_;(conv=>whnf);refine ⟨?_⟩
 refine CW.k XK 17 1 [0] rfl ?_
 (conv=>whnf);refine ⟨rfl,?_⟩
 refine CW.seq ?_
 refine CW.seq ?_
 refine CW.region ?_
 refine RW.k XK 17 2 rfl ?_
 (conv=>whnf);refine ⟨rfl,?_⟩
 refine RW.call rfl (spec_l01In_fn (t.size : Int) 1 9000) rfl (.cons (.one (.r .r)) (.cons (.one (.r .r)) (.cons (.one (.r .r)) (.nil)))) fun g1 => ?_
 refine RW.k XK 17 1 rfl ?_
 (conv=>whnf);refine ⟨rfl,?_⟩
 refine RW.nil ?_
 refine CW.keep 17 [0,7] rfl ?_;(conv=>whnf);refine ⟨?_⟩
 refine CW.cond rfl (fun h2 => ?_) (fun h2 => ?_)
 ·skip
  have hno := h2
  refine CW.k XK 17 1 [2,3] rfl ?_
  (conv=>whnf);refine ⟨rfl,?_⟩
  refine CW.ret ?_
  exact Post.tup (by decide) (RVs.c (RV.s rfl (by rw [fr_no hno])) (RVs.c (RV.b rfl (by rw [fr_no hno])) RVs.e)) (AOs.r AOs.e)
 ·skip
  have hno := h2
  have hin := fr_in (nF h2)
  refine CW.skip ?_
  refine CW.keep 17 [0] rfl ?_;(conv=>whnf);refine ⟨?_⟩
  refine CW.seq ?_
  refine CW.region ?_
  refine RW.k XK 17 2 rfl ?_
  (conv=>whnf);refine ⟨rfl,?_⟩
  refine RW.call rfl (spec_l01Var_fn (t.size : Int) ⟨by omega, by omega⟩) rfl (.cons (.one (.r .r)) (.nil)) fun g3 => ?_
  refine RW.k XK 17 1 rfl ?_
  (conv=>whnf);refine ⟨rfl,?_⟩
  refine RW.call rfl (spec_SumOf_fn t (by simp only [maxLen]; omega)) rfl (.cons (.one (.r .r)) (.nil)) fun g4 => ?_
  refine RW.call rfl (spec_l02Four_fn (sumN 4294967295 t t.size)) rfl (.cons (.one (.r .r)) (.nil)) fun g5 => ?_
  refine RW.v rfl (V.cat rfl rfl rfl (by have h9 := sumT_size t; simp only [sumT] at h9; have h8 := varB_len9 (n := t.size) (by omega); have h7 : (if inR (t.size : Int) 0 1000000000 then varB ((t.size : Int)).toNat else ⟨#[]⟩ : ByteArray).size ≤ 9 := (by rw [if_pos (by simp [inR]; omega)]; exact h8); simp only [ByteArray.size_append, maxLen, sumT, Int.toNat_natCast] at *; omega)) ?_
  refine RW.k XK 17 1 rfl ?_
  (conv=>whnf);refine ⟨rfl,?_⟩
  refine RW.v rfl (V.cat rfl rfl rfl (by have h9 := sumT_size t; simp only [sumT] at h9; have h8 := varB_len9 (n := t.size) (by omega); have h7 : (if inR (t.size : Int) 0 1000000000 then varB ((t.size : Int)).toNat else ⟨#[]⟩ : ByteArray).size ≤ 9 := (by rw [if_pos (by simp [inR]; omega)]; exact h8); simp only [ByteArray.size_append, maxLen, sumT, Int.toNat_natCast] at *; omega)) ?_
  refine RW.k XK 17 2 rfl ?_
  (conv=>whnf);refine ⟨rfl,?_⟩
  refine RW.nil ?_
  refine CW.keep 17 [2,3] rfl ?_;(conv=>whnf);refine ⟨?_⟩
  refine CW.ret ?_
  exact Post.tup (by decide) (RVs.c (RV.s rfl (by rw [fr_go hno]; rfl)) (RVs.c (RV.b rfl (by rw [fr_go hno])) RVs.e)) (AOs.r AOs.e)
set_option maxHeartbeats 4000000 in
theorem spec_LogOk_fn (l : Log) (hl : l = Log.z) : Eng.Fn E.P 54 [.agg ((Log.c l).map .r)] (.one (.one (.w (.v (.bool true))))) [.agg ((Log.c l).map .r)] := by
 refine Eng.Fn.intro (E := E) (rvs := [.tmp 2]) Tryd.func54 rfl rfl rfl (by simp [outSlots, moved, rvSlot, sl]) ?_
 intro B g bo
 refine CW.keep 62 [0] rfl ?_;(conv=>whnf);refine ⟨?_⟩
 have he1 : l.start = 0 := by rw [hl]; rfl
 have he2 : l.startTerm = 0 := by rw [hl]; rfl
 have he3 : l.entries = [] := by rw [hl]; rfl
 refine CW.seq ?_
 refine CW.region ?_
 refine RW.k XK 62 1 rfl ?_
 (conv=>whnf);intro b1;(conv=>whnf);refine ⟨rfl,?_⟩
 refine RW.freezeB (ts := (Log.c l)) 1 rfl (DRd.r (DRd.r (DRd.r DRd.e))) ?_
 refine RW.k XK 62 1 rfl ?_
 (conv=>whnf);refine ⟨rfl,?_⟩
 refine RW.nil ?_
 refine CW.keep 62 [1] rfl ?_;(conv=>whnf);refine ⟨?_⟩
 refine CW.seq ?_
 refine CW.seqJ 62 (fun (v2 : Bool) => [(1, .rp (Log.c l)), (29, Bo v2)]) (fun v2 => v2 = ((((!(inR l.start 0 1000000)) || (!(inR l.startTerm 0 100000))) || decide ((l.entries.length : Int) > 60)) || decide ((IntKind.i64.wrap (l.start + (l.entries.length : Int))) > 1000000))) ?_ ?_
 ·refine CW.region ?_
  refine RW.k XK 62 2 rfl ?_
  (conv=>whnf);refine ⟨rfl,?_⟩
  refine RW.call rfl (spec_l01In_fn l.start 0 1000000) rfl (.cons (.one (.r .r)) (.cons (.one (.r .r)) (.cons (.one (.r .r)) (.nil)))) fun g3 => ?_
  refine RW.k XK 62 2 rfl ?_
  (conv=>whnf);refine ⟨rfl,?_⟩
  refine RW.gv rfl rfl rfl rfl (fun h4 => V.fieldR rfl rfl rfl rfl (by decide) rfl (Nat.le_of_ble_eq_true rfl)) (fun h4 => ?_) (fun h4 => ?_)
  ·skip
   refine RW.k XK 62 1 rfl ?_
   (conv=>whnf);refine ⟨rfl,?_⟩
   refine RW.gcall rfl rfl rfl rfl (spec_l01In_fn l.startTerm 0 100000) rfl (.cons (.one (.r .r)) (.cons (.one (.r .r)) (.cons (.one (.r .r)) (.nil)))) fun g5 => ?_
   refine RW.k XK 62 3 rfl ?_
   (conv=>whnf);refine ⟨rfl,?_⟩
   refine RW.gv rfl rfl rfl rfl (fun h6 => V.fieldR rfl rfl rfl rfl (by decide) rfl (Nat.le_of_ble_eq_true rfl)) (fun h6 => ?_) (fun h6 => ?_)
   ·skip
    refine RW.k XK 62 5 rfl ?_
    (conv=>whnf);refine ⟨rfl,?_⟩
    refine RW.gv rfl rfl rfl rfl (fun h7 => V.fieldR rfl rfl rfl rfl (by decide) rfl (Nat.le_of_ble_eq_true rfl)) (fun h7 => ?_) (fun h7 => ?_)
    ·skip
     refine RW.k XK 62 7 rfl ?_
     (conv=>whnf);refine ⟨rfl,?_⟩
     refine RW.nil ?_
     exact ⟨_, by first | rfl | (simp_all; done) | (simp_all; omega) | grind, rfl, Le.of rfl⟩
    ·skip
     refine RW.k XK 62 7 rfl ?_
     (conv=>whnf);refine ⟨rfl,?_⟩
     refine RW.nil ?_
     exact ⟨_, by first | rfl | (simp_all; done) | (simp_all; omega) | grind, rfl, Le.of rfl⟩
   ·skip
    refine RW.k XK 62 13 rfl ?_
    (conv=>whnf);refine ⟨rfl,?_⟩
    refine RW.nil ?_
    exact ⟨_, by first | rfl | (simp_all; done) | (simp_all; omega) | grind, rfl, Le.of rfl⟩
  ·skip
   refine RW.k XK 62 19 rfl ?_
   (conv=>whnf);refine ⟨rfl,?_⟩
   refine RW.nil ?_
   exact ⟨_, by first | rfl | (simp_all; done) | (simp_all; omega) | grind, rfl, Le.of rfl⟩
 ·intro v2 hv8
  refine CW.cond rfl (fun h9 => ?_) (fun h9 => ?_)
  ·skip
   have hvv := hv8.symm.trans h9
   refine CW.k XK 62 1 [2] rfl ?_
   (conv=>whnf);refine ⟨rfl,?_⟩
   refine CW.ret ?_
   exact Post.one (RV.b rfl (by exfalso; have hz : IntKind.i64.wrap (0 : Int) = 0 := (by kernel_rfl); simp [inR, he1, he2, he3, hz] at hvv)) (AOs.a rfl AOs.e)
  ·skip
   have hvv := hv8.symm.trans h9
   refine CW.skip ?_
   refine CW.keep 62 [1] rfl ?_;(conv=>whnf);refine ⟨?_⟩
   refine CW.k XK 62 1 [1,3] rfl ?_
   (conv=>whnf);refine ⟨rfl,?_⟩
   refine CW.seq ?_
   refine CW.k XK 62 1 [1,3,4] rfl ?_
   (conv=>whnf);refine ⟨rfl,?_⟩
   refine CW.block ?_
   refine CW.loopI 62 (fun (i : Nat) => [(1, .rp (Log.c l)), (3, I l.startTerm), (4, I (i : Int))]) (fun (i : Nat) => i = 0) (fun (i : Nat) => 0) 0 rfl (Le.c rfl <| Le.c rfl <| Le.c rfl <| Le.e) rfl ?_
   rintro i hi0
   refine CW.seq ?_
   refine CW.k XK 62 1 [1,3,4,36] rfl ?_
   (conv=>whnf);refine ⟨rfl,?_⟩
   refine CW.cond rfl (fun h10 => ?_) (fun h10 => ?_)
   ·skip
    exact absurd (of_decide_eq_true h10) (by rw [he3]; show ¬ (i : Int) < ((0 : Nat) : Int); omega)
   ·skip
    refine CW.exit ?_
    refine CW.keep 62 [] rfl ?_;(conv=>whnf);refine ⟨?_⟩
    refine CW.k XK 62 1 [2] rfl ?_
    (conv=>whnf);refine ⟨rfl,?_⟩
    refine CW.ret ?_
    exact Post.one (RV.b rfl (by rfl)) (AOs.a rfl AOs.e)
set_option maxHeartbeats 4000000 in
theorem impl_LogOk_fn (l : Log) (hl : l = Log.z) : Eng.Fn E.P 63 [.agg ((Log.c l).map .r)] (.one (.one (.w (.v (.bool true))))) [.agg ((Log.c l).map .r)] := by
 refine Eng.Fn.intro (E := E) (rvs := [.tmp 2]) Tryd.func63 rfl rfl rfl (by simp [outSlots, moved, rvSlot, sl]) ?_
 intro B g bo
 refine CW.keep 50 [0] rfl ?_;(conv=>whnf);refine ⟨?_⟩
 have he1 : l.start = 0 := by rw [hl]; rfl
 have he2 : l.startTerm = 0 := by rw [hl]; rfl
 have he3 : l.entries = [] := by rw [hl]; rfl
 refine CW.seq ?_
 refine CW.region ?_
 refine RW.k XK 50 1 rfl ?_
 (conv=>whnf);intro b1;(conv=>whnf);refine ⟨rfl,?_⟩
 refine RW.freezeB (ts := (Log.c l)) 1 rfl (DRd.r (DRd.r (DRd.r DRd.e))) ?_
 refine RW.k XK 50 1 rfl ?_
 (conv=>whnf);refine ⟨rfl,?_⟩
 refine RW.nil ?_
 refine CW.keep 50 [1] rfl ?_;(conv=>whnf);refine ⟨?_⟩
 refine CW.k XK 50 1 [1,3] rfl ?_
 (conv=>whnf);refine ⟨rfl,?_⟩
 refine CW.seq ?_
 refine CW.k XK 50 1 [1,3,9,10,11] rfl ?_
 (conv=>whnf);refine ⟨rfl,?_⟩
 refine CW.block ?_
 refine CW.loopI 50 (fun (i : Nat) => [(1, .rp (Log.c l)), (3, I l.startTerm), (9, .r (sl 3 Entry.c l.entries)), (10, I (l.entries.length : Int)), (11, I (i : Int))]) (fun (i : Nat) => i = 0) (fun (i : Nat) => 0) 0 rfl (Le.c rfl <| Le.c rfl <| Le.c rfl <| Le.c rfl <| Le.c rfl <| Le.e) rfl ?_
 rintro i hi0
 refine CW.k XK 50 1 [1,3,9,10,11,12] rfl ?_
 (conv=>whnf);refine ⟨rfl,?_⟩
 refine CW.seq ?_
 refine CW.cond rfl (fun h2 => ?_) (fun h2 => ?_)
 ·skip
  exact absurd (of_decide_eq_true h2) (by rw [he3]; show ¬ (i : Int) < ((0 : Nat) : Int); omega)
 ·skip
  refine CW.exit ?_
  refine CW.keep 50 [1] rfl ?_;(conv=>whnf);refine ⟨?_⟩
  refine CW.seqJ 50 (fun (v3 : Bool) => [(2, Bo v3)]) (fun v3 => v3 = ((((inR l.start 0 1000000) && (inR l.startTerm 0 100000)) && decide ((l.entries.length : Int) ≤ 60)) && decide ((IntKind.i64.wrap (l.start + (l.entries.length : Int))) ≤ 1000000))) ?_ ?_
  ·refine CW.region ?_
   refine RW.k XK 50 2 rfl ?_
   (conv=>whnf);refine ⟨rfl,?_⟩
   refine RW.call rfl (impl_isIndex_fn l.start) rfl (.cons (.one (.r .r)) (.nil)) fun g4 => ?_
   refine RW.k XK 50 1 rfl ?_
   (conv=>whnf);refine ⟨rfl,?_⟩
   refine RW.gv rfl rfl rfl rfl (fun h5 => V.fieldR rfl rfl rfl rfl (by decide) rfl (Nat.le_of_ble_eq_true rfl)) (fun h5 => ?_) (fun h5 => ?_)
   ·skip
    refine RW.k XK 50 1 rfl ?_
    (conv=>whnf);refine ⟨rfl,?_⟩
    refine RW.gcall rfl rfl rfl rfl (impl_isTerm_fn l.startTerm) rfl (.cons (.one (.r .r)) (.nil)) fun g6 => ?_
    refine RW.k XK 50 2 rfl ?_
    (conv=>whnf);refine ⟨rfl,?_⟩
    refine RW.gv rfl rfl rfl rfl (fun h7 => V.fieldR rfl rfl rfl rfl (by decide) rfl (Nat.le_of_ble_eq_true rfl)) (fun h7 => ?_) (fun h7 => ?_)
    ·skip
     refine RW.k XK 50 5 rfl ?_
     (conv=>whnf);refine ⟨rfl,?_⟩
     refine RW.gv rfl rfl rfl rfl (fun h8 => V.fieldR rfl rfl rfl rfl (by decide) rfl (Nat.le_of_ble_eq_true rfl)) (fun h8 => ?_) (fun h8 => ?_)
     ·skip
      refine RW.k XK 50 8 rfl ?_
      (conv=>whnf);refine ⟨rfl,?_⟩
      refine RW.nil ?_
      exact ⟨_, by first | rfl | (simp_all; done) | (simp_all; omega) | grind, rfl, Le.of rfl⟩
     ·skip
      refine RW.k XK 50 8 rfl ?_
      (conv=>whnf);refine ⟨rfl,?_⟩
      refine RW.nil ?_
      exact ⟨_, by first | rfl | (simp_all; done) | (simp_all; omega) | grind, rfl, Le.of rfl⟩
    ·skip
     refine RW.k XK 50 14 rfl ?_
     (conv=>whnf);refine ⟨rfl,?_⟩
     refine RW.nil ?_
     exact ⟨_, by first | rfl | (simp_all; done) | (simp_all; omega) | grind, rfl, Le.of rfl⟩
   ·skip
    refine RW.k XK 50 19 rfl ?_
    (conv=>whnf);refine ⟨rfl,?_⟩
    refine RW.nil ?_
    exact ⟨_, by first | rfl | (simp_all; done) | (simp_all; omega) | grind, rfl, Le.of rfl⟩
  ·intro v3 hv9
   refine CW.ret ?_
   exact Post.one (RV.b rfl (by have hz : IntKind.i64.wrap (0 : Int) = 0 := (by kernel_rfl); simp_all [inR])) (AOs.a rfl AOs.e)
set_option maxHeartbeats 4000000 in
theorem impl_votesOk_fn (a : Int) (b : Int) : Eng.Fn E.P 62 [.one (.r (.v (.int .i64 a))), .one (.r (.v (.int .i64 b)))] (.one (.one (.w (.v (.bool (inR a 0 100000 && inR b 0 4)))))) [.one (.r (.v (.int .i64 a))), .one (.r (.v (.int .i64 b)))] := by
 refine Eng.Fn.intro (E := E) (rvs := [.tmp 4]) Tryd.func62 rfl rfl rfl (by simp [outSlots, moved, rvSlot, sl]) ?_
 intro B g bo
 refine CW.keep 11 [0,1] rfl ?_;(conv=>whnf);refine ⟨?_⟩
 refine CW.k XK 11 1 [0,1] rfl ?_
 (conv=>whnf);refine ⟨rfl,?_⟩
 refine CW.seqJ 11 (fun (v1 : Bool) => [(4, Bo v1)]) (fun v1 => v1 = ((inR a 0 100000) && (inR b 0 4))) ?_ ?_
 ·refine CW.region ?_
  refine RW.k XK 11 1 rfl ?_
  (conv=>whnf);refine ⟨rfl,?_⟩
  refine RW.call rfl (impl_isTerm_fn a) rfl (.cons (.one (.r .r)) (.nil)) fun g2 => ?_
  refine RW.k XK 11 1 rfl ?_
  (conv=>whnf);refine ⟨rfl,?_⟩
  refine RW.gv rfl rfl rfl rfl (fun h3 => V.mv (d := I b) rfl rfl) (fun h3 => ?_) (fun h3 => ?_)
  ·skip
   refine RW.gcall rfl rfl rfl rfl (impl_within_fn b 0 4) rfl (.cons (.one (.r .r)) (.cons (.one (.r .r)) (.cons (.one (.r .r)) (.nil)))) fun g4 => ?_
   refine RW.k XK 11 2 rfl ?_
   (conv=>whnf);refine ⟨rfl,?_⟩
   refine RW.nil ?_
   exact ⟨_, by first | rfl | (simp_all; done) | (simp_all; omega) | grind, rfl, Le.of rfl⟩
  ·skip
   refine RW.k XK 11 3 rfl ?_
   (conv=>whnf);refine ⟨rfl,?_⟩
   refine RW.nil ?_
   exact ⟨_, by first | rfl | (simp_all; done) | (simp_all; omega) | grind, rfl, Le.of rfl⟩
 ·intro v1 hv5
  refine CW.ret ?_
  exact Post.one (RV.b rfl (by simp_all)) (AOs.r (AOs.r AOs.e))
set_option maxHeartbeats 4000000 in
theorem spec_JournalOk_fn (j : Journal) (hj : j = Journal.z) : Eng.Fn E.P 26 [.agg ((Journal.c j).map .r)] (.one (.one (.w (.v (.bool true))))) [.agg ((Journal.c j).map .r)] := by
 refine Eng.Fn.intro (E := E) (rvs := [.tmp 2]) Tryd.func26 rfl rfl rfl (by simp [outSlots, moved, rvSlot, sl]) ?_
 intro B g bo
 refine CW.keep 21 [0] rfl ?_;(conv=>whnf);refine ⟨?_⟩
 refine CW.seq ?_
 refine CW.region ?_
 refine RW.k XK 21 1 rfl ?_
 (conv=>whnf);intro b1;(conv=>whnf);refine ⟨rfl,?_⟩
 refine RW.freezeB (ts := (Journal.c j)) 1 rfl (DRd.r (DRd.r (DRd.r (DRd.r (DRd.r (DRd.r DRd.e)))))) ?_
 refine RW.k XK 21 1 rfl ?_
 (conv=>whnf);refine ⟨rfl,?_⟩
 refine RW.nil ?_
 refine CW.keep 21 [1] rfl ?_;(conv=>whnf);refine ⟨?_⟩
 refine CW.seqJ 21 (fun (v2 : Bool) => [(2, Bo v2)]) (fun v2 => v2 = ((((inR j.number 0 999) && (inR j.term_ 0 100000)) && (inR j.vote 0 4)) && true)) ?_ ?_
 ·refine CW.region ?_
  refine RW.k XK 21 2 rfl ?_
  (conv=>whnf);refine ⟨rfl,?_⟩
  refine RW.call rfl (spec_l01In_fn j.number 0 999) rfl (.cons (.one (.r .r)) (.cons (.one (.r .r)) (.cons (.one (.r .r)) (.nil)))) fun g3 => ?_
  refine RW.k XK 21 1 rfl ?_
  (conv=>whnf);refine ⟨rfl,?_⟩
  refine RW.gv rfl rfl rfl rfl (fun h4 => V.fieldR rfl rfl rfl rfl (by decide) rfl (Nat.le_of_ble_eq_true rfl)) (fun h4 => ?_) (fun h4 => ?_)
  ·skip
   refine RW.k XK 21 1 rfl ?_
   (conv=>whnf);refine ⟨rfl,?_⟩
   refine RW.gcall rfl rfl rfl rfl (spec_l01In_fn j.term_ 0 100000) rfl (.cons (.one (.r .r)) (.cons (.one (.r .r)) (.cons (.one (.r .r)) (.nil)))) fun g5 => ?_
   refine RW.k XK 21 2 rfl ?_
   (conv=>whnf);refine ⟨rfl,?_⟩
   refine RW.gv rfl rfl rfl rfl (fun h6 => V.fieldR rfl rfl rfl rfl (by decide) rfl (Nat.le_of_ble_eq_true rfl)) (fun h6 => ?_) (fun h6 => ?_)
   ·skip
    refine RW.k XK 21 1 rfl ?_
    (conv=>whnf);refine ⟨rfl,?_⟩
    refine RW.gcall rfl rfl rfl rfl (spec_l01In_fn j.vote 0 4) rfl (.cons (.one (.r .r)) (.cons (.one (.r .r)) (.cons (.one (.r .r)) (.nil)))) fun g7 => ?_
    refine RW.k XK 21 2 rfl ?_
    (conv=>whnf);refine ⟨rfl,?_⟩
    refine RW.gv rfl rfl rfl rfl (fun h8 => V.fieldR rfl rfl rfl rfl (by decide) rfl (Nat.le_of_ble_eq_true rfl)) (fun h8 => ?_) (fun h8 => ?_)
    ·skip
     refine RW.k XK 21 1 rfl ?_
     (conv=>whnf);refine ⟨rfl,?_⟩
     refine RW.gcall rfl rfl rfl rfl (spec_LogOk_fn j.log (by rw [hj]; rfl)) rfl (.cons (.agg (.cons (.r .r) (.cons (.r .r) (.cons (.r .r) (.nil))))) (.nil)) fun g9 => ?_
     refine RW.k XK 21 2 rfl ?_
     (conv=>whnf);refine ⟨rfl,?_⟩
     refine RW.nil ?_
     exact ⟨_, by first | rfl | (simp_all; done) | (simp_all; omega) | grind, rfl, Le.of rfl⟩
    ·skip
     refine RW.k XK 21 4 rfl ?_
     (conv=>whnf);refine ⟨rfl,?_⟩
     refine RW.nil ?_
     exact ⟨_, by first | rfl | (simp_all; done) | (simp_all; omega) | grind, rfl, Le.of rfl⟩
   ·skip
    refine RW.k XK 21 9 rfl ?_
    (conv=>whnf);refine ⟨rfl,?_⟩
    refine RW.nil ?_
    exact ⟨_, by first | rfl | (simp_all; done) | (simp_all; omega) | grind, rfl, Le.of rfl⟩
  ·skip
   refine RW.k XK 21 14 rfl ?_
   (conv=>whnf);refine ⟨rfl,?_⟩
   refine RW.nil ?_
   exact ⟨_, by first | rfl | (simp_all; done) | (simp_all; omega) | grind, rfl, Le.of rfl⟩
 ·intro v2 hv10
  refine CW.ret ?_
  exact Post.one (RV.b rfl (by subst hj; simp_all [inR, Journal.z, Log.z])) (AOs.a rfl AOs.e)
set_option maxHeartbeats 4000000 in
theorem impl_JournalOk_fn (j : Journal) (hj : j = Journal.z) : Eng.Fn E.P 38 [.agg ((Journal.c j).map .r)] (.one (.one (.w (.v (.bool true))))) [.agg ((Journal.c j).map .r)] := by
 refine Eng.Fn.intro (E := E) (rvs := [.tmp 2]) Tryd.func38 rfl rfl rfl (by simp [outSlots, moved, rvSlot, sl]) ?_
 intro B g bo
 refine CW.keep 18 [0] rfl ?_;(conv=>whnf);refine ⟨?_⟩
 refine CW.seq ?_
 refine CW.region ?_
 refine RW.k XK 18 1 rfl ?_
 (conv=>whnf);intro b1;(conv=>whnf);refine ⟨rfl,?_⟩
 refine RW.freezeB (ts := (Journal.c j)) 1 rfl (DRd.r (DRd.r (DRd.r (DRd.r (DRd.r (DRd.r DRd.e)))))) ?_
 refine RW.k XK 18 1 rfl ?_
 (conv=>whnf);refine ⟨rfl,?_⟩
 refine RW.nil ?_
 refine CW.keep 18 [1] rfl ?_;(conv=>whnf);refine ⟨?_⟩
 refine CW.seqJ 18 (fun (v2 : Bool) => [(2, Bo v2)]) (fun v2 => v2 = (((inR j.number 0 999) && (inR j.term_ 0 100000 && inR j.vote 0 4)) && true)) ?_ ?_
 ·refine CW.region ?_
  refine RW.k XK 18 2 rfl ?_
  (conv=>whnf);refine ⟨rfl,?_⟩
  refine RW.call rfl (impl_within_fn j.number 0 999) rfl (.cons (.one (.r .r)) (.cons (.one (.r .r)) (.cons (.one (.r .r)) (.nil)))) fun g3 => ?_
  refine RW.k XK 18 1 rfl ?_
  (conv=>whnf);refine ⟨rfl,?_⟩
  refine RW.gv rfl rfl rfl rfl (fun h4 => V.fieldR rfl rfl rfl rfl (by decide) rfl (Nat.le_of_ble_eq_true rfl)) (fun h4 => ?_) (fun h4 => ?_)
  ·skip
   refine RW.k XK 18 3 rfl ?_
   (conv=>whnf);refine ⟨rfl,?_⟩
   refine RW.gcall rfl rfl rfl rfl (impl_votesOk_fn j.term_ j.vote) rfl (.cons (.one (.r .r)) (.cons (.one (.r .r)) (.nil))) fun g5 => ?_
   refine RW.k XK 18 2 rfl ?_
   (conv=>whnf);refine ⟨rfl,?_⟩
   refine RW.gv rfl rfl rfl rfl (fun h6 => V.fieldR rfl rfl rfl rfl (by decide) rfl (Nat.le_of_ble_eq_true rfl)) (fun h6 => ?_) (fun h6 => ?_)
   ·skip
    refine RW.k XK 18 1 rfl ?_
    (conv=>whnf);refine ⟨rfl,?_⟩
    refine RW.gcall rfl rfl rfl rfl (impl_LogOk_fn j.log (by rw [hj]; rfl)) rfl (.cons (.agg (.cons (.r .r) (.cons (.r .r) (.cons (.r .r) (.nil))))) (.nil)) fun g7 => ?_
    refine RW.k XK 18 2 rfl ?_
    (conv=>whnf);refine ⟨rfl,?_⟩
    refine RW.nil ?_
    exact ⟨_, by first | rfl | (simp_all; done) | (simp_all; omega) | grind, rfl, Le.of rfl⟩
   ·skip
    refine RW.k XK 18 4 rfl ?_
    (conv=>whnf);refine ⟨rfl,?_⟩
    refine RW.nil ?_
    exact ⟨_, by first | rfl | (simp_all; done) | (simp_all; omega) | grind, rfl, Le.of rfl⟩
  ·skip
   refine RW.k XK 18 11 rfl ?_
   (conv=>whnf);refine ⟨rfl,?_⟩
   refine RW.nil ?_
   exact ⟨_, by first | rfl | (simp_all; done) | (simp_all; omega) | grind, rfl, Le.of rfl⟩
 ·intro v2 hv8
  refine CW.ret ?_
  exact Post.one (RV.b rfl (by subst hj; simp_all [inR, Journal.z, Log.z])) (AOs.a rfl AOs.e)
set_option maxHeartbeats 4000000 in
theorem spec_l07Frames_fn (l : Log) (k : Int) (hl : l = Log.z) (hk : k = 0) : Eng.Fn E.P 30 [.agg ((Log.c l).map .r), .one (.r (.v (.int .i64 k)))] (.one (.one (.w (.v (.string (⟨#[]⟩)))))) [.agg ((Log.c l).map .r), .one (.r (.v (.int .i64 k)))] := by
 refine Eng.Fn.intro (E := E) (rvs := [.tmp 4]) Tryd.func30 rfl rfl rfl (by simp [outSlots, moved, rvSlot, sl]) ?_
 intro B g bo
 refine CW.keep 45 [0,1] rfl ?_;(conv=>whnf);refine ⟨?_⟩
 have he1 : l.start = 0 := by rw [hl]; rfl
 have he2 : l.startTerm = 0 := by rw [hl]; rfl
 have he3 : l.entries = [] := by rw [hl]; rfl
 refine CW.seq ?_
 refine CW.region ?_
 refine RW.k XK 45 1 rfl ?_
 (conv=>whnf);intro b1;(conv=>whnf);refine ⟨rfl,?_⟩
 refine RW.freezeB (ts := (Log.c l)) 2 rfl (DRd.r (DRd.r (DRd.r DRd.e))) ?_
 refine RW.k XK 45 1 rfl ?_
 (conv=>whnf);refine ⟨rfl,?_⟩
 refine RW.nil ?_
 refine CW.keep 45 [1,2] rfl ?_;(conv=>whnf);refine ⟨?_⟩
 refine CW.seq ?_
 refine CW.region ?_
 refine RW.build0 cU rfl rfl rfl rfl rfl fun X2 => ?_
 refine RW.assignMove rfl rfl rfl (by decide) (Nat.le_of_ble_eq_true rfl) (Nat.le_of_ble_eq_true rfl) ?_
 refine RW.nil ?_
 refine CW.keep 45 [1,2,5] rfl ?_;(conv=>whnf);refine ⟨?_⟩
 refine CW.seq ?_
 refine CW.k XK 45 1 [2,5,6] rfl ?_
 (conv=>whnf);refine ⟨rfl,?_⟩
 refine CW.block ?_
 refine CW.loopI 45 (fun (zz : Nat × Value) => match zz with | (i, X) => [(2, .rp (Log.c l)), (5, .w (sl 1 cU ([] : List Int)) X), (6, I (i : Int))]) (fun (zz : Nat × Value) => match zz with | (i, X) => i = 0) (fun (zz : Nat × Value) => match zz with | (i, X) => 0) (0, _) rfl (Le.c rfl <| Le.c rfl <| Le.c (congrArg I hk) <| Le.e) rfl ?_
 rintro ⟨i, X⟩ hi0
 refine CW.seq ?_
 refine CW.k XK 45 1 [2,5,6,17] rfl ?_
 (conv=>whnf);refine ⟨rfl,?_⟩
 refine CW.cond rfl (fun h3 => ?_) (fun h3 => ?_)
 ·skip
  exact absurd (of_decide_eq_true h3) (by rw [he3]; show ¬ (i : Int) < ((0 : Nat) : Int); omega)
 ·skip
  refine CW.exit ?_
  refine CW.keep 45 [5] rfl ?_;(conv=>whnf);refine ⟨?_⟩
  refine CW.seq ?_
  refine CW.region ?_
  refine RW.k XK 45 1 rfl ?_
  (conv=>whnf);refine ⟨rfl,?_⟩
  refine RW.v rfl (V.bytesStr (l := ([] : List Int)) rfl rfl rfl (by kernel_rfl) (by kernel_rfl) (.al (k := none) (i := 5) (sz := 1) (V := X) rfl rfl nofun)) ?_
  refine RW.k XK 45 1 rfl ?_
  (conv=>whnf);refine ⟨rfl,?_⟩
  refine RW.nil ?_
  refine CW.keep 45 [4] rfl ?_;(conv=>whnf);refine ⟨?_⟩
  refine CW.ret ?_
  exact Post.one (RV.s rfl (by rfl)) (AOs.a rfl (AOs.r AOs.e))
set_option maxHeartbeats 4000000 in
theorem impl_entriesText_fn (l : Log) (k : Int) (hl : l = Log.z) (hk : k = 0) : Eng.Fn E.P 42 [.agg ((Log.c l).map .r), .one (.r (.v (.int .i64 k)))] (.one (.one (.w (.v (.string (⟨#[]⟩)))))) [.agg ((Log.c l).map .r), .one (.r (.v (.int .i64 k)))] := by
 refine Eng.Fn.intro (E := E) (rvs := [.tmp 4]) Tryd.func42 rfl rfl rfl (by simp [outSlots, moved, rvSlot, sl]) ?_
 intro B g bo
 refine CW.keep 42 [0,1] rfl ?_;(conv=>whnf);refine ⟨?_⟩
 have he1 : l.start = 0 := by rw [hl]; rfl
 have he2 : l.startTerm = 0 := by rw [hl]; rfl
 have he3 : l.entries = [] := by rw [hl]; rfl
 refine CW.seq ?_
 refine CW.region ?_
 refine RW.k XK 42 1 rfl ?_
 (conv=>whnf);intro b1;(conv=>whnf);refine ⟨rfl,?_⟩
 refine RW.freezeB (ts := (Log.c l)) 2 rfl (DRd.r (DRd.r (DRd.r DRd.e))) ?_
 refine RW.k XK 42 1 rfl ?_
 (conv=>whnf);refine ⟨rfl,?_⟩
 refine RW.nil ?_
 refine CW.keep 42 [1,2] rfl ?_;(conv=>whnf);refine ⟨?_⟩
 refine CW.k XK 42 1 [1,2,5] rfl ?_
 (conv=>whnf);refine ⟨rfl,?_⟩
 refine CW.seq ?_
 refine CW.k XK 42 1 [2,5,6] rfl ?_
 (conv=>whnf);refine ⟨rfl,?_⟩
 refine CW.block ?_
 refine CW.loopI 42 (fun (i : Nat) => [(2, .rp (Log.c l)), (5, S (⟨#[]⟩ : ByteArray)), (6, I (i : Int))]) (fun (i : Nat) => i = 0) (fun (i : Nat) => 0) 0 rfl (Le.c rfl <| Le.c rfl <| Le.c (congrArg I hk) <| Le.e) rfl ?_
 rintro i hi0
 refine CW.seq ?_
 refine CW.k XK 42 1 [2,5,6,16] rfl ?_
 (conv=>whnf);refine ⟨rfl,?_⟩
 refine CW.cond rfl (fun h2 => ?_) (fun h2 => ?_)
 ·skip
  exact absurd (of_decide_eq_true h2) (by rw [he3]; show ¬ (i : Int) < ((0 : Nat) : Int); omega)
 ·skip
  refine CW.exit ?_
  refine CW.keep 42 [5] rfl ?_;(conv=>whnf);refine ⟨?_⟩
  refine CW.k XK 42 1 [4] rfl ?_
  (conv=>whnf);refine ⟨rfl,?_⟩
  refine CW.ret ?_
  exact Post.one (RV.s rfl (by rfl)) (AOs.a rfl (AOs.r AOs.e))
set_option maxHeartbeats 4000000 in
theorem spec_l07Hard_fn (a : Int) (b : Int) (ha : 0 ≤ a ∧ a ≤ 1000000) (hb : 0 ≤ b ∧ b ≤ 1000000) : Eng.Fn E.P 29 [.one (.r (.v (.int .i64 a))), .one (.r (.v (.int .i64 b)))] (.one (.one (.w (.v (.string (hdT a b)))))) [.one (.r (.v (.int .i64 a))), .one (.r (.v (.int .i64 b)))] := by
 refine Eng.Fn.intro (E := E) (rvs := [.tmp 4]) Tryd.func29 rfl rfl rfl (by simp [outSlots, moved, rvSlot, sl]) ?_
 intro B g bo
 refine CW.keep 18 [0,1] rfl ?_;(conv=>whnf);refine ⟨?_⟩
 refine CW.k XK 18 1 [0,1] rfl ?_
 (conv=>whnf);refine ⟨rfl,?_⟩
 refine CW.seq ?_
 refine CW.region ?_
 refine RW.k XK 18 1 rfl ?_
 (conv=>whnf);refine ⟨rfl,?_⟩
 refine RW.call rfl (spec_l01Var_fn a (by omega)) rfl (.cons (.one (.r .r)) (.nil)) fun g1 => ?_
 refine RW.v rfl (V.cat rfl rfl rfl (by have h9 := varB_len9 (n := a.toNat) (by omega); have h8 := varB_len9 (n := b.toNat) (by omega); have h7 : (⟨#[72]⟩ : ByteArray).size = 1 := rfl; simp only [ByteArray.size_append, maxLen, h7]; omega)) ?_
 refine RW.k XK 18 1 rfl ?_
 (conv=>whnf);refine ⟨rfl,?_⟩
 refine RW.call rfl (spec_l01Var_fn b (by omega)) rfl (.cons (.one (.r .r)) (.nil)) fun g2 => ?_
 refine RW.v rfl (V.cat rfl rfl rfl (by have h9 := varB_len9 (n := a.toNat) (by omega); have h8 := varB_len9 (n := b.toNat) (by omega); have h7 : (⟨#[72]⟩ : ByteArray).size = 1 := rfl; simp only [ByteArray.size_append, maxLen, h7]; omega)) ?_
 refine RW.call rfl (spec_Frame_fn (((⟨#[72]⟩ : ByteArray) ++ (varB a.toNat)) ++ (varB b.toNat))) rfl (.cons (.one (.r .r)) (.nil)) fun g3 => ?_
 refine RW.k XK 18 5 rfl ?_
 (conv=>whnf);refine ⟨rfl,?_⟩
 refine RW.nil ?_
 refine CW.keep 18 [5] rfl ?_;(conv=>whnf);refine ⟨?_⟩
 refine CW.k XK 18 1 [4] rfl ?_
 (conv=>whnf);refine ⟨rfl,?_⟩
 refine CW.ret ?_
 exact Post.one (RV.s rfl (by rfl)) (AOs.r (AOs.r AOs.e))
set_option maxHeartbeats 4000000 in
theorem impl_varTexts_fn (l : List Int) (hl : l.length ≤ 10) : Eng.Fn E.P 40 [.one (.r (sl 1 cI l))] (.one (.one (.w (.v (.string (varTs l)))))) [.one (.r (sl 1 cI l))] := by
 refine Eng.Fn.intro (E := E) (rvs := [.tmp 2]) Tryd.func40 rfl rfl rfl (by simp [outSlots, moved, rvSlot, sl]) ?_
 intro B g bo
 refine CW.bound (x := .tmp 0) (n := l.length) (AsT.r) (fun hl0 => ?_)
 refine CW.keep 24 [0] rfl ?_;(conv=>whnf);refine ⟨?_⟩
 refine CW.k XK 24 2 [0,3] rfl ?_
 (conv=>whnf);refine ⟨rfl,?_⟩
 refine CW.seq ?_
 refine CW.k XK 24 1 [3,8,9,10] rfl ?_
 (conv=>whnf);refine ⟨rfl,?_⟩
 refine CW.block ?_
 refine CW.loopI 24 (fun (zz : Nat × ByteArray) => match zz with | (i, s) => [(3, S s), (8, .r (sl 1 cI l)), (9, I (l.length : Int)), (10, I (i : Int))]) (fun (zz : Nat × ByteArray) => match zz with | (i, s) => i ≤ l.length ∧ s = varTs (l.take i)) (fun (zz : Nat × ByteArray) => match zz with | (i, s) => l.length - i) (0, _) rfl (Le.c rfl <| Le.c rfl <| Le.c rfl <| Le.c rfl <| Le.e) ⟨by omega, rfl⟩ ?_
 rintro ⟨i, s⟩ ⟨hb, hs⟩
 refine CW.k XK 24 1 [3,8,9,10,11] rfl ?_
 (conv=>whnf);refine ⟨rfl,?_⟩
 refine CW.seq ?_
 refine CW.cond rfl (fun h1 => ?_) (fun h1 => ?_)
 ·skip
  have hii : i < l.length := by have := h1; simp at this; first | exact this | omega | (simp; done) | (simp; omega)
  obtain ⟨ei, hei⟩ : ∃ e, l[i]? = some e := ⟨_, List.getElem?_eq_getElem hii⟩
  have hdi := drop_get hei
  refine CW.skip ?_
  refine CW.keep 24 [3,8,9,10] rfl ?_;(conv=>whnf);refine ⟨?_⟩
  refine CW.seq ?_
  refine CW.block ?_
  refine CW.seq ?_
  refine CW.region ?_
  refine RW.v rfl (V.indexS rfl rfl rfl rfl rfl rfl cI.len hei) ?_
  refine RW.k XK 24 2 rfl ?_
  (conv=>whnf);refine ⟨rfl,?_⟩
  refine RW.nil ?_
  refine CW.keep 24 [3,5,8,9,10] rfl ?_;(conv=>whnf);refine ⟨?_⟩
  refine CW.seq ?_
  refine CW.region ?_
  refine RW.k XK 24 1 rfl ?_
  (conv=>whnf);refine ⟨rfl,?_⟩
  refine RW.call rfl (impl_VarText_fn ei) rfl (.cons (.one (.r .r)) (.nil)) fun g2 => ?_
  refine RW.k XK 24 5 rfl ?_
  (conv=>whnf);refine ⟨rfl,?_⟩
  refine RW.nil ?_
  refine CW.keep 24 [3,6,8,9,10] rfl ?_;(conv=>whnf);refine ⟨?_⟩
  refine CW.region ?_
  refine RW.k XK 24 2 rfl ?_
  (conv=>whnf);refine ⟨rfl,?_⟩
  refine RW.v rfl (V.cat rfl rfl rfl (by have h9 := varTs_size (l.take i); rw [← hs] at h9; have h8 := take_len l i; have h7 := vT_size ei; simp only [vT] at h7; simp only [maxLen]; omega)) ?_
  refine RW.k XK 24 1 rfl ?_
  (conv=>whnf);refine ⟨rfl,?_⟩
  refine RW.nil ?_
  refine CW.keep 24 [3,8,9,10] rfl ?_;(conv=>whnf);refine ⟨?_⟩
  refine CW.region ?_
  refine RW.v rfl (V.inc rfl rfl rfl hii hl0) ?_
  refine RW.k XK 24 1 rfl ?_
  (conv=>whnf);refine ⟨rfl,?_⟩
  refine RW.nil ?_
  exact ⟨(i + 1, _), by simp only []; omega, ⟨by omega, by rw [varTs_snoc hei, ← hs]; rfl⟩, rfl, Le.c rfl <| Le.c rfl <| Le.c rfl <| Le.c rfl <| Le.e⟩
 ·skip
  have hii : l.length ≤ i := by have := h1; simp at this; first | exact this | omega | (simp; done) | (simp; omega)
  have hdi : l.drop i = [] := List.drop_eq_nil_of_le hii
  refine CW.exit ?_
  refine CW.keep 24 [3] rfl ?_;(conv=>whnf);refine ⟨?_⟩
  refine CW.k XK 24 1 [2] rfl ?_
  (conv=>whnf);refine ⟨rfl,?_⟩
  refine CW.ret ?_
  exact Post.one (RV.s rfl (by rw [hs, List.take_of_length_le hii])) (AOs.r AOs.e)
set_option maxHeartbeats 4000000 in
theorem impl_headText_fn (j : Journal) (hj : j = Journal.z) : Eng.Fn E.P 41 [.agg ((Journal.c j).map .r)] (.one (.one (.w (.v (.string ((frT (⟨#[72]⟩ ++ varTs [0, 0])).1)))))) [.agg ((Journal.c j).map .r)] := by
 refine Eng.Fn.intro (E := E) (rvs := [.tmp 2]) Tryd.func41 rfl rfl rfl (by simp [outSlots, moved, rvSlot, sl]) ?_
 intro B g bo
 refine CW.keep 17 [0] rfl ?_;(conv=>whnf);refine ⟨?_⟩
 have z1 : j.log.start = 0 := by rw [hj]; rfl
 have z2 : j.log.startTerm = 0 := by rw [hj]; rfl
 have z3 : j.term_ = 0 := by rw [hj]; rfl
 have z4 : j.vote = 0 := by rw [hj]; rfl
 have z5 : j.log = Log.z := by rw [hj]; rfl
 refine CW.seq ?_
 refine CW.region ?_
 refine RW.k XK 17 1 rfl ?_
 (conv=>whnf);intro b1;(conv=>whnf);refine ⟨rfl,?_⟩
 refine RW.freezeB (ts := (Journal.c j)) 1 rfl (DRd.r (DRd.r (DRd.r (DRd.r (DRd.r (DRd.r DRd.e)))))) ?_
 refine RW.k XK 17 1 rfl ?_
 (conv=>whnf);refine ⟨rfl,?_⟩
 refine RW.nil ?_
 refine CW.keep 17 [1] rfl ?_;(conv=>whnf);refine ⟨?_⟩
 refine CW.seq ?_
 refine CW.region ?_
 refine RW.k XK 17 4 rfl ?_
 (conv=>whnf);refine ⟨rfl,?_⟩
 refine RW.build2c (c := cI) (v1 := j.term_) (v2 := j.vote) (u1 := .v (.int .i64 j.term_)) (u2 := .v (.int .i64 j.vote)) rfl rfl rfl rfl rfl rfl (.inl rfl) rfl rfl (.inl rfl) rfl rfl fun X2 => ?_
 refine RW.callOwn rfl (impl_varTexts_fn ([j.term_, j.vote]) (Nat.le_of_ble_eq_true rfl)) rfl (.cons (.one (.r (.al (k := none) (i := 10) (sz := 1) (V := X2) rfl rfl nofun))) (.nil)) rfl fun g3 => ?_
 refine RW.v rfl (V.cat rfl rfl rfl (by have h9 := varTs_size [j.term_, j.vote]; simp only [List.length_cons, List.length_nil] at h9; have h7 : (⟨#[72]⟩ : ByteArray).size = 1 := rfl; simp only [maxLen, h7]; omega)) ?_
 refine RW.call rfl (impl_Frame_fn ((⟨#[72]⟩ : ByteArray) ++ (varTs ([j.term_, j.vote])))) rfl (.cons (.one (.r .r)) (.nil)) fun g4 => ?_
 refine RW.k XK 17 5 rfl ?_
 (conv=>whnf);refine ⟨rfl,?_⟩
 refine RW.nil ?_
 refine CW.keep 17 [3] rfl ?_;(conv=>whnf);refine ⟨?_⟩
 refine CW.k XK 17 1 [2] rfl ?_
 (conv=>whnf);refine ⟨rfl,?_⟩
 refine CW.ret ?_
 exact Post.one (RV.s rfl (by rw [z3, z4])) (AOs.a rfl AOs.e)
set_option maxHeartbeats 4000000 in
theorem spec_JournalText_fn (j : Journal) (hj : j = Journal.z) : Eng.Fn E.P 12 [.agg ((Journal.c j).map .r)] (.tup [.one (.w (.v (.string jT))), .one (.w (.v (.bool true)))]) [.agg ((Journal.c j).map .r)] := by
 refine Eng.Fn.intro (E := E) (rvs := [.tmp 2, .tmp 3]) Tryd.func12 rfl rfl rfl (by simp [outSlots, moved, rvSlot, sl]) ?_
 intro B g bo
 refine CW.keep 39 [0] rfl ?_;(conv=>whnf);refine ⟨?_⟩
 have z1 : j.log.start = 0 := by rw [hj]; rfl
 have z2 : j.log.startTerm = 0 := by rw [hj]; rfl
 have z3 : j.term_ = 0 := by rw [hj]; rfl
 have z4 : j.vote = 0 := by rw [hj]; rfl
 have z5 : j.log = Log.z := by rw [hj]; rfl
 have hjt : ((frT ((⟨#[66]⟩ ++ varB j.log.start.toNat) ++ varB j.log.startTerm.toNat)).1 ++ hdT j.term_ j.vote) ++ ⟨#[]⟩ = jT := by rw [z1, z2, z3, z4]; rfl
 refine CW.seq ?_
 refine CW.region ?_
 refine RW.k XK 39 1 rfl ?_
 (conv=>whnf);intro b1;(conv=>whnf);refine ⟨rfl,?_⟩
 refine RW.freezeB (ts := (Journal.c j)) 1 rfl (DRd.r (DRd.r (DRd.r (DRd.r (DRd.r (DRd.r DRd.e)))))) ?_
 refine RW.k XK 39 2 rfl ?_
 (conv=>whnf);refine ⟨rfl,?_⟩
 refine RW.nil ?_
 refine CW.keep 39 [1] rfl ?_;(conv=>whnf);refine ⟨?_⟩
 refine CW.seq ?_
 refine CW.seq ?_
 refine CW.region ?_
 refine RW.k XK 39 1 rfl ?_
 (conv=>whnf);refine ⟨rfl,?_⟩
 refine RW.call rfl (spec_JournalOk_fn j hj) rfl (.cons (.agg (.cons (.r .r) (.cons (.r .r) (.cons (.r .r) (.cons (.r .r) (.cons (.r .r) (.cons (.r .r) (.nil)))))))) (.nil)) fun g2 => ?_
 refine RW.k XK 39 1 rfl ?_
 (conv=>whnf);refine ⟨rfl,?_⟩
 refine RW.nil ?_
 refine CW.keep 39 [1,9] rfl ?_;(conv=>whnf);refine ⟨?_⟩
 refine CW.cond rfl (fun h3 => ?_) (fun h3 => ?_)
 ·skip
  exact absurd h3 (by decide)
 ·skip
  refine CW.skip ?_
  refine CW.keep 39 [1] rfl ?_;(conv=>whnf);refine ⟨?_⟩
  refine CW.anyJ2 (fc := []) (L0 := [(1, .rp (Journal.c j))]) 39 (fun (zz : (Nat → Nat → Value) × (Nat → Nat → Value) × (Nat → Nat → Value)) => match zz with | (go4_10_1, go4_3_1, go4_8_1) => [(4, S ((frT (((⟨#[66]⟩ : ByteArray) ++ (varB j.log.start.toNat)) ++ (varB j.log.startTerm.toNat))).1))]) (fun all hall f hf b0 hb K hK => ?_) ?_
  ·skip
   have ro4_7 : ∀ B, ∀ (go4_10_1 : Nat → Nat → Value), ∀ (go4_3_1 : Nat → Nat → Value), ∀ (go4_8_1 : Nat → Nat → Value), RA f E B all 0 (bt 16 65535) ⟨39, [(4, S ((frT (((⟨#[66]⟩ : ByteArray) ++ (varB j.log.start.toNat)) ++ (varB j.log.startTerm.toNat))).1))] ++ b0⟩ K := by
    intro B go4_10_1 go4_3_1 go4_8_1
    exact RA.of2 hall hf hb (RA.finH (Tell.of rfl) (by kernel_rfl) (hK (go4_10_1, go4_3_1, go4_8_1) _ rfl (Le.of rfl)))
   have ro4_6 : ∀ B, ∀ (go4_10_1 : Nat → Nat → Value), ∀ (go4_3_1 : Nat → Nat → Value), ∀ (go4_8_1 : Nat → Nat → Value), RA f E B all 2 (bt 16 24575) ⟨39, [(4, S ((frT (((⟨#[66]⟩ : ByteArray) ++ (varB j.log.start.toNat)) ++ (varB j.log.startTerm.toNat))).1)), (10, .tup [.u, Bo ((frT (((⟨#[66]⟩ : ByteArray) ++ (varB j.log.start.toNat)) ++ (varB j.log.startTerm.toNat))).2)])] ++ b0⟩ K := by
    intro B go4_10_1 go4_3_1 go4_8_1
    refine RA.of2 hall hf hb (RA.stepH (L := [13]) (Tell.of rfl) (by kernel_rfl) (by simp) (RA.each ?_ (RA.each0)))
    ·skip
     refine RO.extract (d := Bo ((frT (((⟨#[66]⟩ : ByteArray) ++ (varB j.log.start.toNat)) ++ (varB j.log.startTerm.toNat))).2)) rfl rfl rfl rfl rfl (by decide) (Nat.le_of_ble_eq_true rfl) rfl rfl ?_
     refine RA.fr XK 39 0 [15] (bt 16 65535) rfl rfl (by kernel_rfl) (Tell.of rfl) ?_
     (conv=>whnf);refine ⟨rfl,fun B=>?_⟩
     exact RA.to2 hall hf hb (ro4_7 B go4_10_1 go4_3_1 go4_8_1) rfl rfl (by kernel_rfl)
   have ro4_5 : ∀ B, ∀ (go4_10_1 : Nat → Nat → Value), ∀ (go4_3_1 : Nat → Nat → Value), ∀ (go4_8_1 : Nat → Nat → Value), RA f E B all 3 (bt 16 12287) ⟨39, [(10, .tup [S ((frT (((⟨#[66]⟩ : ByteArray) ++ (varB j.log.start.toNat)) ++ (varB j.log.startTerm.toNat))).1), .u]), (23, Bo ((frT (((⟨#[66]⟩ : ByteArray) ++ (varB j.log.start.toNat)) ++ (varB j.log.startTerm.toNat))).2))] ++ b0⟩ K := by
    intro B go4_10_1 go4_3_1 go4_8_1
    refine RA.of2 hall hf hb (RA.stepH (L := [12]) (Tell.of rfl) (by kernel_rfl) (by simp) (RA.each ?_ (RA.each0)))
    ·skip
     refine RO.extract (d := S ((frT (((⟨#[66]⟩ : ByteArray) ++ (varB j.log.start.toNat)) ++ (varB j.log.startTerm.toNat))).1)) rfl rfl rfl rfl rfl (by decide) (Nat.le_of_ble_eq_true rfl) rfl rfl ?_
     refine RA.fr XK 39 0 [14,15] (bt 16 65535) rfl rfl (by kernel_rfl) (Tell.of rfl) ?_
     (conv=>whnf);refine ⟨rfl,fun B=>?_⟩
     exact RA.to2 hall hf hb (ro4_7 B go4_10_1 go4_3_1 go4_8_1) rfl rfl (by kernel_rfl)
   have ro4_4 : ∀ B, ∀ (go4_10_1 : Nat → Nat → Value), ∀ (go4_3_1 : Nat → Nat → Value), ∀ (go4_8_1 : Nat → Nat → Value), RA f E B all 4 (bt 16 4095) ⟨39, [(10, .tup [S ((frT (((⟨#[66]⟩ : ByteArray) ++ (varB j.log.start.toNat)) ++ (varB j.log.startTerm.toNat))).1), Bo ((frT (((⟨#[66]⟩ : ByteArray) ++ (varB j.log.start.toNat)) ++ (varB j.log.startTerm.toNat))).2)])] ++ b0⟩ K := by
    intro B go4_10_1 go4_3_1 go4_8_1
    refine RA.of2 hall hf hb (RA.stepH (L := [12, 13]) (Tell.of rfl) (by kernel_rfl) (by simp) (RA.each ?_ (RA.each ?_ (RA.each0))))
    ·skip
     refine RO.extract (d := S ((frT (((⟨#[66]⟩ : ByteArray) ++ (varB j.log.start.toNat)) ++ (varB j.log.startTerm.toNat))).1)) rfl rfl rfl rfl rfl (by decide) (Nat.le_of_ble_eq_true rfl) rfl rfl ?_
     refine RA.fr XK 39 2 [14] (bt 16 24575) rfl rfl (by kernel_rfl) (Tell.of rfl) ?_
     (conv=>whnf);refine ⟨rfl,fun B=>?_⟩
     exact RA.to2 hall hf hb (ro4_6 B go4_10_1 go4_3_1 go4_8_1) rfl rfl (by kernel_rfl)
    ·skip
     refine RO.extract (d := Bo ((frT (((⟨#[66]⟩ : ByteArray) ++ (varB j.log.start.toNat)) ++ (varB j.log.startTerm.toNat))).2)) rfl rfl rfl rfl rfl (by decide) (Nat.le_of_ble_eq_true rfl) rfl rfl ?_
     exact RA.to2 hall hf hb (ro4_5 B go4_10_1 go4_3_1 go4_8_1) rfl rfl (by kernel_rfl)
   have ro4_3 : ∀ B, ∀ (go4_10_1 : Nat → Nat → Value), ∀ (go4_3_1 : Nat → Nat → Value), ∀ (go4_8_1 : Nat → Nat → Value), RA f E B all 5 (bt 16 2047) ⟨39, [(21, .tup [S ((frT (((⟨#[66]⟩ : ByteArray) ++ (varB j.log.start.toNat)) ++ (varB j.log.startTerm.toNat))).1), Bo ((frT (((⟨#[66]⟩ : ByteArray) ++ (varB j.log.start.toNat)) ++ (varB j.log.startTerm.toNat))).2)])] ++ b0⟩ K := by
    intro B go4_10_1 go4_3_1 go4_8_1
    refine RA.of2 hall hf hb (RA.stepH (L := [11]) (Tell.of rfl) (by kernel_rfl) (by simp) (RA.each ?_ (RA.each0)))
    ·skip
     refine RO.moveMove rfl rfl rfl rfl rfl (by decide) (Nat.le_of_ble_eq_true rfl) (Nat.le_of_ble_eq_true rfl) ?_
     exact RA.to2 hall hf hb (ro4_4 B go4_10_1 go4_3_1 go4_8_1) rfl rfl (by kernel_rfl)
   have ro4_2 : ∀ B, ∀ (go4_3_1 : Nat → Nat → Value), ∀ (go4_8_1 : Nat → Nat → Value), RA f E B all 6 (bt 16 1023) ⟨39, [(20, S (((⟨#[66]⟩ : ByteArray) ++ (varB j.log.start.toNat)) ++ (varB j.log.startTerm.toNat)))] ++ b0⟩ K := by
    intro B go4_3_1 go4_8_1
    refine RA.of2 hall hf hb (RA.stepH (L := [10]) (Tell.of rfl) (by kernel_rfl) (by simp) (RA.each ?_ (RA.each0)))
    ·skip
     refine RO.call rfl rfl (spec_Frame_fn (((⟨#[66]⟩ : ByteArray) ++ (varB j.log.start.toNat)) ++ (varB j.log.startTerm.toNat))) rfl (.cons (.one (.r .r)) (.nil)) rfl fun go4_10_1 => ?_
     exact RA.to2 hall hf hb (ro4_3 B go4_10_1 go4_3_1 go4_8_1) rfl rfl (by kernel_rfl)
   have ro4_1 : ∀ B, ∀ (go4_3_1 : Nat → Nat → Value), RA f E B all 8 (bt 16 255) ⟨39, [(15, S ((⟨#[66]⟩ : ByteArray) ++ (varB j.log.start.toNat))), (18, I j.log.startTerm)] ++ b0⟩ K := by
    intro B go4_3_1
    refine RA.of2 hall hf hb (RA.stepH (L := [8]) (Tell.of rfl) (by kernel_rfl) (by simp) (RA.each ?_ (RA.each0)))
    ·skip
     refine RO.call rfl rfl (spec_l01Var_fn j.log.startTerm (by omega)) rfl (.cons (.one (.r .r)) (.nil)) rfl fun go4_8_1 => ?_
     refine RA.first (i := 9) (ls' := (bt 16 1023)) (Tell.of rfl) (by kernel_rfl) rfl rfl rfl (VF.p (V.cat rfl rfl rfl (by have h9 := varB_len9 (n := j.log.start.toNat) (by omega); have h8 := varB_len9 (n := j.log.startTerm.toNat) (by omega); have h7 : (⟨#[66]⟩ : ByteArray).size = 1 := rfl; first | (simp only [ByteArray.size_append, maxLen, h7]; omega) | (have a1 := frT_size ((⟨#[66]⟩ ++ varB j.log.start.toNat) ++ varB j.log.startTerm.toNat); have a2 := frT_size ((⟨#[72]⟩ ++ varB j.term_.toNat) ++ varB j.vote.toNat); have a3 : (⟨#[]⟩ : ByteArray).size = 0 := rfl; simp only [ByteArray.size_append, maxLen, hdT, a3]; omega)))) ?_
     exact RA.to2 hall hf hb (ro4_2 B go4_3_1 go4_8_1) rfl rfl (by kernel_rfl)
   have ro4_0 : ∀ B, RA f E B all 10 (bt 16 231) ⟨39, [(13, I j.log.start), (18, I j.log.startTerm)] ++ b0⟩ K := by
    intro B
    refine RA.of2 hall hf hb (RA.stepH (L := [3]) (Tell.of rfl) (by kernel_rfl) (by simp) (RA.each ?_ (RA.each0)))
    ·skip
     refine RO.call rfl rfl (spec_l01Var_fn j.log.start (by omega)) rfl (.cons (.one (.r .r)) (.nil)) rfl fun go4_3_1 => ?_
     refine RA.first (i := 4) (ls' := (bt 16 255)) (Tell.of rfl) (by kernel_rfl) rfl rfl rfl (VF.p (V.cat rfl rfl rfl (by have h9 := varB_len9 (n := j.log.start.toNat) (by omega); have h8 := varB_len9 (n := j.log.startTerm.toNat) (by omega); have h7 : (⟨#[66]⟩ : ByteArray).size = 1 := rfl; first | (simp only [ByteArray.size_append, maxLen, h7]; omega) | (have a1 := frT_size ((⟨#[66]⟩ ++ varB j.log.start.toNat) ++ varB j.log.startTerm.toNat); have a2 := frT_size ((⟨#[72]⟩ ++ varB j.term_.toNat) ++ varB j.vote.toNat); have a3 : (⟨#[]⟩ : ByteArray).size = 0 := rfl; simp only [ByteArray.size_append, maxLen, hdT, a3]; omega)))) ?_
     exact RA.to2 hall hf hb (ro4_1 B go4_3_1) rfl rfl (by kernel_rfl)
   refine RA.start (by kernel_rfl) (by kernel_rfl) (m := 16) (ls' := (bt 16 0)) ?_
   refine RA.fr XK 39 10 [0,1,2,5,6,7] (bt 16 231) rfl rfl (by kernel_rfl) (Tell.of rfl) ?_
   (conv=>whnf);refine ⟨rfl,fun B=>?_⟩
   exact RA.to2 hall hf hb (ro4_0 B) rfl rfl (by kernel_rfl)
  ·rintro ⟨go4_10_1, go4_3_1, go4_8_1⟩
   refine CW.anyJ2 (fc := []) (L0 := []) 39 (fun (zz : (Nat → Nat → Value) × (Nat → Nat → Value)) => match zz with | (go5_5_1, go5_9_1) => [(6, S ((((frT (((⟨#[66]⟩ : ByteArray) ++ (varB j.log.start.toNat)) ++ (varB j.log.startTerm.toNat))).1) ++ (hdT j.term_ j.vote)) ++ (⟨#[]⟩)))]) (fun all hall f hf b0 hb K hK => ?_) ?_
   ·skip
    have ro5_2 : ∀ B, ∀ (go5_5_1 : Nat → Nat → Value), ∀ (go5_9_1 : Nat → Nat → Value), RA f E B all 0 (bt 12 4095) ⟨39, [(6, S ((((frT (((⟨#[66]⟩ : ByteArray) ++ (varB j.log.start.toNat)) ++ (varB j.log.startTerm.toNat))).1) ++ (hdT j.term_ j.vote)) ++ (⟨#[]⟩)))] ++ b0⟩ K := by
     intro B go5_5_1 go5_9_1
     exact RA.of2 hall hf hb (RA.finH (Tell.of rfl) (by kernel_rfl) (hK (go5_5_1, go5_9_1) _ rfl (Le.of rfl)))
    have ro5_1 : ∀ B, ∀ (go5_5_1 : Nat → Nat → Value), RA f E B all 3 (bt 12 511) ⟨39, [(30, S (((frT (((⟨#[66]⟩ : ByteArray) ++ (varB j.log.start.toNat)) ++ (varB j.log.startTerm.toNat))).1) ++ (hdT j.term_ j.vote))), (32, .agg ((Log.c j.log).map .r))] ++ b0⟩ K := by
     intro B go5_5_1
     refine RA.of2 hall hf hb (RA.stepH (L := [9]) (Tell.of rfl) (by kernel_rfl) (by simp) (RA.each ?_ (RA.each0)))
     ·skip
      refine RO.call rfl rfl (spec_l07Frames_fn j.log 0 z5 rfl) rfl (.cons (.agg (.cons (.r .r) (.cons (.r .r) (.cons (.r .r) (.nil))))) (.cons (.one (.r .r)) (.nil))) rfl fun go5_9_1 => ?_
      refine RA.first (i := 10) (ls' := (bt 12 2047)) (Tell.of rfl) (by kernel_rfl) rfl rfl rfl (VF.p (V.cat rfl rfl rfl (by have h9 := varB_len9 (n := j.log.start.toNat) (by omega); have h8 := varB_len9 (n := j.log.startTerm.toNat) (by omega); have h7 : (⟨#[66]⟩ : ByteArray).size = 1 := rfl; first | (simp only [ByteArray.size_append, maxLen, h7]; omega) | (have a1 := frT_size ((⟨#[66]⟩ ++ varB j.log.start.toNat) ++ varB j.log.startTerm.toNat); have a2 := frT_size ((⟨#[72]⟩ ++ varB j.term_.toNat) ++ varB j.vote.toNat); have a3 : (⟨#[]⟩ : ByteArray).size = 0 := rfl; simp only [ByteArray.size_append, maxLen, hdT, a3]; omega)))) ?_
      refine RA.fr XK 39 0 [11] (bt 12 4095) rfl rfl (by kernel_rfl) (Tell.of rfl) ?_
      (conv=>whnf);refine ⟨rfl,fun B=>?_⟩
      exact RA.to2 hall hf hb (ro5_2 B go5_5_1 go5_9_1) rfl rfl (by kernel_rfl)
    have ro5_0 : ∀ B, RA f E B all 5 (bt 12 415) ⟨39, [(24, S ((frT (((⟨#[66]⟩ : ByteArray) ++ (varB j.log.start.toNat)) ++ (varB j.log.startTerm.toNat))).1)), (26, I j.term_), (28, I j.vote), (32, .agg ((Log.c j.log).map .r))] ++ b0⟩ K := by
     intro B
     refine RA.of2 hall hf hb (RA.stepH (L := [5]) (Tell.of rfl) (by kernel_rfl) (by simp) (RA.each ?_ (RA.each0)))
     ·skip
      refine RO.call rfl rfl (spec_l07Hard_fn j.term_ j.vote (by omega) (by omega)) rfl (.cons (.one (.r .r)) (.cons (.one (.r .r)) (.nil))) rfl fun go5_5_1 => ?_
      refine RA.first (i := 6) (ls' := (bt 12 511)) (Tell.of rfl) (by kernel_rfl) rfl rfl rfl (VF.p (V.cat rfl rfl rfl (by have h9 := varB_len9 (n := j.log.start.toNat) (by omega); have h8 := varB_len9 (n := j.log.startTerm.toNat) (by omega); have h7 : (⟨#[66]⟩ : ByteArray).size = 1 := rfl; first | (simp only [ByteArray.size_append, maxLen, h7]; omega) | (have a1 := frT_size ((⟨#[66]⟩ ++ varB j.log.start.toNat) ++ varB j.log.startTerm.toNat); have a2 := frT_size ((⟨#[72]⟩ ++ varB j.term_.toNat) ++ varB j.vote.toNat); have a3 : (⟨#[]⟩ : ByteArray).size = 0 := rfl; simp only [ByteArray.size_append, maxLen, hdT, a3]; omega)))) ?_
      exact RA.to2 hall hf hb (ro5_1 B go5_5_1) rfl rfl (by kernel_rfl)
    refine RA.start (by kernel_rfl) (by kernel_rfl) (m := 12) (ls' := (bt 12 0)) ?_
    refine RA.fr XK 39 5 [0,1,2,3,4,7,8] (bt 12 415) rfl rfl (by kernel_rfl) (Tell.of rfl) ?_
    (conv=>whnf);refine ⟨rfl,fun B=>?_⟩
    exact RA.to2 hall hf hb (ro5_0 B) rfl rfl (by kernel_rfl)
   ·rintro ⟨go5_5_1, go5_9_1⟩
    refine CW.seq ?_
    refine CW.k XK 39 1 [6,37] rfl ?_
    (conv=>whnf);refine ⟨rfl,?_⟩
    refine CW.cond rfl (fun h6 => ?_) (fun h6 => ?_)
    ·skip
     exact absurd (of_decide_eq_true h6) (by rw [hjt]; have h9 := jT_size; omega)
    ·skip
     refine CW.skip ?_
     refine CW.keep 39 [6] rfl ?_;(conv=>whnf);refine ⟨?_⟩
     refine CW.k XK 39 1 [2,3] rfl ?_
     (conv=>whnf);refine ⟨rfl,?_⟩
     refine CW.ret ?_
     exact Post.tup (by decide) (RVs.c (RV.s rfl (by rw [hjt])) (RVs.c (RV.b rfl (by rfl)) RVs.e)) (AOs.a rfl AOs.e)
set_option maxHeartbeats 4000000 in
theorem impl_JournalText_fn (j : Journal) (hj : j = Journal.z) : Eng.Fn E.P 17 [.agg ((Journal.c j).map .r)] (.tup [.one (.w (.v (.string jT))), .one (.w (.v (.bool true)))]) [.agg ((Journal.c j).map .r)] := by
 refine Eng.Fn.intro (E := E) (rvs := [.tmp 2, .tmp 3]) Tryd.func17 rfl rfl rfl (by simp [outSlots, moved, rvSlot, sl]) ?_
 intro B g bo
 refine CW.keep 35 [0] rfl ?_;(conv=>whnf);refine ⟨?_⟩
 have z1 : j.log.start = 0 := by rw [hj]; rfl
 have z2 : j.log.startTerm = 0 := by rw [hj]; rfl
 have z3 : j.term_ = 0 := by rw [hj]; rfl
 have z4 : j.vote = 0 := by rw [hj]; rfl
 have z5 : j.log = Log.z := by rw [hj]; rfl
 have hjt : ((frT (⟨#[66]⟩ ++ varTs [j.log.start, j.log.startTerm])).1 ++ (frT (⟨#[72]⟩ ++ varTs [0, 0])).1) ++ ⟨#[]⟩ = jT := by rw [z1, z2]; exact jTI
 refine CW.seq ?_
 refine CW.region ?_
 refine RW.k XK 35 1 rfl ?_
 (conv=>whnf);intro b1;(conv=>whnf);refine ⟨rfl,?_⟩
 refine RW.freezeB (ts := (Journal.c j)) 1 rfl (DRd.r (DRd.r (DRd.r (DRd.r (DRd.r (DRd.r DRd.e)))))) ?_
 refine RW.k XK 35 2 rfl ?_
 (conv=>whnf);refine ⟨rfl,?_⟩
 refine RW.nil ?_
 refine CW.keep 35 [1] rfl ?_;(conv=>whnf);refine ⟨?_⟩
 refine CW.seq ?_
 refine CW.seq ?_
 refine CW.region ?_
 refine RW.k XK 35 1 rfl ?_
 (conv=>whnf);refine ⟨rfl,?_⟩
 refine RW.call rfl (impl_JournalOk_fn j hj) rfl (.cons (.agg (.cons (.r .r) (.cons (.r .r) (.cons (.r .r) (.cons (.r .r) (.cons (.r .r) (.cons (.r .r) (.nil)))))))) (.nil)) fun g2 => ?_
 refine RW.k XK 35 1 rfl ?_
 (conv=>whnf);refine ⟨rfl,?_⟩
 refine RW.nil ?_
 refine CW.keep 35 [1,9] rfl ?_;(conv=>whnf);refine ⟨?_⟩
 refine CW.cond rfl (fun h3 => ?_) (fun h3 => ?_)
 ·skip
  exact absurd h3 (by decide)
 ·skip
  refine CW.skip ?_
  refine CW.keep 35 [1] rfl ?_;(conv=>whnf);refine ⟨?_⟩
  refine CW.seq ?_
  refine CW.region ?_
  refine RW.k XK 35 6 rfl ?_
  (conv=>whnf);refine ⟨rfl,?_⟩
  refine RW.build2c (c := cI) (v1 := j.log.start) (v2 := j.log.startTerm) (u1 := .v (.int .i64 j.log.start)) (u2 := .v (.int .i64 j.log.startTerm)) rfl rfl rfl rfl rfl rfl (.inl rfl) rfl rfl (.inl rfl) rfl rfl fun X4 => ?_
  refine RW.callOwn rfl (impl_varTexts_fn ([j.log.start, j.log.startTerm]) (Nat.le_of_ble_eq_true rfl)) rfl (.cons (.one (.r (.al (k := none) (i := 17) (sz := 1) (V := X4) rfl rfl nofun))) (.nil)) rfl fun g5 => ?_
  refine RW.v rfl (V.cat rfl rfl rfl (by have h9 := varTs_size [j.log.start, j.log.startTerm]; simp only [List.length_cons, List.length_nil] at h9; have h7 : (⟨#[66]⟩ : ByteArray).size = 1 := rfl; first | (simp only [maxLen, h7]; omega) | (have a1 := frT_size (⟨#[66]⟩ ++ varTs [j.log.start, j.log.startTerm]); have a2 := frT_size (⟨#[72]⟩ ++ varTs [0, 0]); have a3 : (⟨#[]⟩ : ByteArray).size = 0 := rfl; simp only [ByteArray.size_append, maxLen, a3]; omega))) ?_
  refine RW.call rfl (impl_Frame_fn ((⟨#[66]⟩ : ByteArray) ++ (varTs ([j.log.start, j.log.startTerm])))) rfl (.cons (.one (.r .r)) (.nil)) fun g6 => ?_
  refine RW.k XK 35 5 rfl ?_
  (conv=>whnf);refine ⟨rfl,?_⟩
  refine RW.nil ?_
  refine CW.keep 35 [1,4] rfl ?_;(conv=>whnf);refine ⟨?_⟩
  refine CW.anyJ2 (fc := []) (L0 := []) 35 (fun (zz : (Nat → Nat → Value) × (Nat → Nat → Value)) => match zz with | (go7_2_1, go7_6_1) => [(6, S ((((frT ((⟨#[66]⟩ : ByteArray) ++ (varTs ([j.log.start, j.log.startTerm])))).1) ++ ((frT (⟨#[72]⟩ ++ varTs [0, 0])).1)) ++ (⟨#[]⟩)))]) (fun all hall f hf b0 hb K hK => ?_) ?_
  ·skip
   have ro7_2 : ∀ B, ∀ (go7_2_1 : Nat → Nat → Value), ∀ (go7_6_1 : Nat → Nat → Value), RA f E B all 0 (bt 9 511) ⟨35, [(6, S ((((frT ((⟨#[66]⟩ : ByteArray) ++ (varTs ([j.log.start, j.log.startTerm])))).1) ++ ((frT (⟨#[72]⟩ ++ varTs [0, 0])).1)) ++ (⟨#[]⟩)))] ++ b0⟩ K := by
    intro B go7_2_1 go7_6_1
    exact RA.of2 hall hf hb (RA.finH (Tell.of rfl) (by kernel_rfl) (hK (go7_2_1, go7_6_1) _ rfl (Le.of rfl)))
   have ro7_1 : ∀ B, ∀ (go7_2_1 : Nat → Nat → Value), RA f E B all 3 (bt 9 63) ⟨35, [(26, S (((frT ((⟨#[66]⟩ : ByteArray) ++ (varTs ([j.log.start, j.log.startTerm])))).1) ++ ((frT (⟨#[72]⟩ ++ varTs [0, 0])).1))), (28, .agg ((Log.c j.log).map .r))] ++ b0⟩ K := by
    intro B go7_2_1
    refine RA.of2 hall hf hb (RA.stepH (L := [6]) (Tell.of rfl) (by kernel_rfl) (by simp) (RA.each ?_ (RA.each0)))
    ·skip
     refine RO.call rfl rfl (impl_entriesText_fn j.log 0 z5 rfl) rfl (.cons (.agg (.cons (.r .r) (.cons (.r .r) (.cons (.r .r) (.nil))))) (.cons (.one (.r .r)) (.nil))) rfl fun go7_6_1 => ?_
     refine RA.first (i := 7) (ls' := (bt 9 255)) (Tell.of rfl) (by kernel_rfl) rfl rfl rfl (VF.p (V.cat rfl rfl rfl (by have h9 := varTs_size [j.log.start, j.log.startTerm]; simp only [List.length_cons, List.length_nil] at h9; have h7 : (⟨#[66]⟩ : ByteArray).size = 1 := rfl; first | (simp only [maxLen, h7]; omega) | (have a1 := frT_size (⟨#[66]⟩ ++ varTs [j.log.start, j.log.startTerm]); have a2 := frT_size (⟨#[72]⟩ ++ varTs [0, 0]); have a3 : (⟨#[]⟩ : ByteArray).size = 0 := rfl; simp only [ByteArray.size_append, maxLen, a3]; omega)))) ?_
     refine RA.fr XK 35 0 [8] (bt 9 511) rfl rfl (by kernel_rfl) (Tell.of rfl) ?_
     (conv=>whnf);refine ⟨rfl,fun B=>?_⟩
     exact RA.to2 hall hf hb (ro7_2 B go7_2_1 go7_6_1) rfl rfl (by kernel_rfl)
   have ro7_0 : ∀ B, RA f E B all 5 (bt 9 51) ⟨35, [(23, S ((frT ((⟨#[66]⟩ : ByteArray) ++ (varTs ([j.log.start, j.log.startTerm])))).1)), (24, .agg ((Journal.c j).map .r)), (28, .agg ((Log.c j.log).map .r))] ++ b0⟩ K := by
    intro B
    refine RA.of2 hall hf hb (RA.stepH (L := [2]) (Tell.of rfl) (by kernel_rfl) (by simp) (RA.each ?_ (RA.each0)))
    ·skip
     refine RO.call rfl rfl (impl_headText_fn j hj) rfl (.cons (.agg (.cons (.r .r) (.cons (.r .r) (.cons (.r .r) (.cons (.r .r) (.cons (.r .r) (.cons (.r .r) (.nil)))))))) (.nil)) rfl fun go7_2_1 => ?_
     refine RA.first (i := 3) (ls' := (bt 9 63)) (Tell.of rfl) (by kernel_rfl) rfl rfl rfl (VF.p (V.cat rfl rfl rfl (by have h9 := varTs_size [j.log.start, j.log.startTerm]; simp only [List.length_cons, List.length_nil] at h9; have h7 : (⟨#[66]⟩ : ByteArray).size = 1 := rfl; first | (simp only [maxLen, h7]; omega) | (have a1 := frT_size (⟨#[66]⟩ ++ varTs [j.log.start, j.log.startTerm]); have a2 := frT_size (⟨#[72]⟩ ++ varTs [0, 0]); have a3 : (⟨#[]⟩ : ByteArray).size = 0 := rfl; simp only [ByteArray.size_append, maxLen, a3]; omega)))) ?_
     exact RA.to2 hall hf hb (ro7_1 B go7_2_1) rfl rfl (by kernel_rfl)
   refine RA.start (by kernel_rfl) (by kernel_rfl) (m := 9) (ls' := (bt 9 0)) ?_
   refine RA.fr XK 35 5 [0,1,4,5] (bt 9 51) rfl rfl (by kernel_rfl) (Tell.of rfl) ?_
   (conv=>whnf);refine ⟨rfl,fun B=>?_⟩
   exact RA.to2 hall hf hb (ro7_0 B) rfl rfl (by kernel_rfl)
  ·rintro ⟨go7_2_1, go7_6_1⟩
   refine CW.seq ?_
   refine CW.k XK 35 1 [6,33] rfl ?_
   (conv=>whnf);refine ⟨rfl,?_⟩
   refine CW.cond rfl (fun h8 => ?_) (fun h8 => ?_)
   ·skip
    exact absurd (of_decide_eq_true h8) (by rw [hjt]; have h9 := jT_size; omega)
   ·skip
    refine CW.skip ?_
    refine CW.keep 35 [6] rfl ?_;(conv=>whnf);refine ⟨?_⟩
    refine CW.k XK 35 1 [2,3] rfl ?_
    (conv=>whnf);refine ⟨rfl,?_⟩
    refine CW.ret ?_
    exact Post.tup (by decide) (RVs.c (RV.s rfl (by rw [hjt])) (RVs.c (RV.b rfl (by rfl)) RVs.e)) (AOs.a rfl AOs.e)
set_option maxHeartbeats 4000000 in
theorem impl_keyOk_fn (s : ByteArray) : Eng.Fn E.P 67 [.one (.r (.v (.string s)))] (.one (.one (.w (.v (.bool (inR (s.size : Int) 1 8)))))) [.one (.r (.v (.string s)))] := by
 refine Eng.Fn.intro (E := E) (rvs := [.tmp 2]) Tryd.func67 rfl rfl rfl (by simp [outSlots, moved, rvSlot, sl]) ?_
 intro B g bo
 refine CW.keep 6 [0] rfl ?_;(conv=>whnf);refine ⟨?_⟩
 refine CW.k XK 6 1 [0] rfl ?_
 (conv=>whnf);refine ⟨rfl,?_⟩
 refine CW.seq ?_
 refine CW.region ?_
 refine RW.k XK 6 2 rfl ?_
 (conv=>whnf);refine ⟨rfl,?_⟩
 refine RW.call rfl (impl_within_fn (s.size : Int) 1 8) rfl (.cons (.one (.r .r)) (.cons (.one (.r .r)) (.cons (.one (.r .r)) (.nil)))) fun g1 => ?_
 refine RW.k XK 6 1 rfl ?_
 (conv=>whnf);refine ⟨rfl,?_⟩
 refine RW.nil ?_
 refine CW.keep 6 [2] rfl ?_;(conv=>whnf);refine ⟨?_⟩
 refine CW.ret ?_
 exact Post.one (RV.b rfl (by rfl)) (AOs.r AOs.e)
set_option maxHeartbeats 4000000 in
theorem impl_valOk_fn (s : ByteArray) : Eng.Fn E.P 68 [.one (.r (.v (.string s)))] (.one (.one (.w (.v (.bool (decide ((s.size : Int) ≤ 20))))))) [.one (.r (.v (.string s)))] := by
 refine Eng.Fn.intro (E := E) (rvs := [.tmp 2]) Tryd.func68 rfl rfl rfl (by simp [outSlots, moved, rvSlot, sl]) ?_
 intro B g bo
 refine CW.keep 6 [0] rfl ?_;(conv=>whnf);refine ⟨?_⟩
 refine CW.k XK 6 2 [2] rfl ?_
 (conv=>whnf);refine ⟨rfl,?_⟩
 refine CW.ret ?_
 exact Post.one (RV.b rfl (by rfl)) (AOs.r AOs.e)
set_option maxHeartbeats 4000000 in
theorem spec_l15Sessions_fn (a : List Session) : Eng.Fn E.P 77 [.one (.r (sl 3 Session.c a))] (.one (.one (.w (.v (.bool (sessF none a && decide ((a.length : Int) ≤ 3))))))) [.one (.r (sl 3 Session.c a))] := by
 refine Eng.Fn.intro (E := E) (rvs := [.tmp 2]) Tryd.func77 rfl rfl rfl (by simp [outSlots, moved, rvSlot, sl]) ?_
 intro B g bo
 refine CW.bound (x := .tmp 0) (n := a.length) (AsT.r) (fun hl0 => ?_)
 refine CW.keep 59 [0] rfl ?_;(conv=>whnf);refine ⟨?_⟩
 refine CW.k XK 59 1 [0] rfl ?_
 (conv=>whnf);refine ⟨rfl,?_⟩
 refine CW.seq ?_
 refine CW.k XK 59 1 [0,3] rfl ?_
 (conv=>whnf);refine ⟨rfl,?_⟩
 refine CW.block ?_
 refine CW.loopI 59 (fun (i : Nat) => [(0, .r (sl 3 Session.c a)), (3, I (i : Int))]) (fun (i : Nat) => i ≤ a.length ∧ sessF (prevO Session.token Session.z a i) (a.drop i) = sessF none a) (fun (i : Nat) => a.length - i) 0 rfl (Le.c rfl <| Le.c rfl <| Le.e) ⟨by omega, rfl⟩ ?_
 rintro i ⟨hb, hr⟩
 refine CW.seq ?_
 refine CW.k XK 59 1 [0,3,8] rfl ?_
 (conv=>whnf);refine ⟨rfl,?_⟩
 refine CW.cond rfl (fun h1 => ?_) (fun h1 => ?_)
 ·skip
  have hii : i < a.length := by have := h1; simp at this; first | exact this | omega | (simp; done) | (simp; omega)
  obtain ⟨ei, hei⟩ : ∃ e, a[i]? = some e := ⟨_, List.getElem?_eq_getElem hii⟩
  have hdi := drop_get hei
  refine CW.skip ?_
  refine CW.keep 59 [0,3] rfl ?_;(conv=>whnf);refine ⟨?_⟩
  refine CW.seq ?_
  refine CW.block ?_
  refine CW.seq ?_
  refine CW.region ?_
  refine RW.k XK 59 2 rfl ?_
  (conv=>whnf);refine ⟨rfl,?_⟩
  refine RW.v rfl (V.indexS rfl rfl rfl rfl rfl rfl Session.len hei) ?_
  refine RW.k XK 59 3 rfl ?_
  (conv=>whnf);intro b2;(conv=>whnf);refine ⟨rfl,?_⟩
  refine RW.freezeB (ts := (Session.c ei)) 4 rfl (DRd.r (DRd.r (DRd.r DRd.e))) ?_
  refine RW.nil ?_
  refine CW.keep 59 [0,3,4] rfl ?_;(conv=>whnf);refine ⟨?_⟩
  refine CW.seqJ 59 (fun (v3 : Bool) => [(0, .r (sl 3 Session.c a)), (3, I (i : Int)), (55, Bo v3)]) (fun v3 => v3 = (((((!(inR ei.token 1 1000000)) || (decide ((i : Int) > 0) && decide ((a.getD (i - 1) Session.z).token ≥ ei.token))) || (!(inR ei.last 0 1000000))) || decide ((ei.reply.size : Int) > 40)) || ((ei.last == 0) && (!(ei.reply.toList == (⟨#[]⟩ : ByteArray).toList))))) ?_ ?_
  ·refine CW.drawn (by kernel_rfl) ?_
   refine RQ.k XK 59 2 rfl ?_
   (conv=>whnf);refine ⟨rfl,?_⟩
   refine RQ.cons rfl (QOK.call (spec_l01In_fn ei.token 1 1000000) rfl (.cons (.one (.r .r)) (.cons (.one (.r .r)) (.cons (.one (.r .r)) (.nil)))) ?_)
   refine RQ.k XK 59 2 rfl ?_
   (conv=>whnf);refine ⟨rfl,?_⟩
   refine RQ.gv rfl rfl rfl rfl (fun h4 => V.mv (d := I (i : Int)) rfl rfl) (fun h4 => ?_) (fun h4 => ?_)
   ·skip
    refine RQ.k XK 59 2 rfl ?_
    (conv=>whnf);refine ⟨rfl,?_⟩
    refine RQ.gv rfl rfl rfl rfl (fun h5 => V.mv (d := .r (sl 3 Session.c a)) rfl rfl) (fun h5 => ?_) (fun h5 => ?_)
    ·skip
     refine RQ.k XK 59 1 rfl ?_
     (conv=>whnf);refine ⟨rfl,?_⟩
     refine RQ.gt rfl rfl rfl rfl (V.dec (m := i) rfl rfl rfl (by have := h5; simp at this; omega) (by omega)) ?_
     refine RQ.gt rfl rfl rfl rfl (V.indexS rfl rfl rfl rfl rfl rfl Session.len (getD_some (l := a) (j := i - 1) (z := Session.z) (by omega))) ?_
     refine RQ.k XK 59 8 rfl ?_
     (conv=>whnf);refine ⟨rfl,?_⟩
     refine RQ.gv rfl rfl rfl rfl (fun h6 => V.fieldR rfl rfl rfl rfl (by decide) rfl (Nat.le_of_ble_eq_true rfl)) (fun h6 => ?_) (fun h6 => ?_)
     ·skip
      refine RQ.k XK 59 1 rfl ?_
      (conv=>whnf);refine ⟨rfl,?_⟩
      refine RQ.guardT rfl rfl rfl rfl (QOK.call (spec_l01In_fn ei.last 0 1000000) rfl (.cons (.one (.r .r)) (.cons (.one (.r .r)) (.cons (.one (.r .r)) (.nil)))) ?_)
      refine RQ.k XK 59 3 rfl ?_
      (conv=>whnf);refine ⟨rfl,?_⟩
      refine RQ.gv rfl rfl rfl rfl (fun h7 => V.fieldR rfl rfl rfl rfl (by decide) rfl (Nat.le_of_ble_eq_true rfl)) (fun h7 => ?_) (fun h7 => ?_)
      ·skip
       refine RQ.k XK 59 5 rfl ?_
       (conv=>whnf);refine ⟨rfl,?_⟩
       refine RQ.gv rfl rfl rfl rfl (fun h8 => V.fieldR rfl rfl rfl rfl (by decide) rfl (Nat.le_of_ble_eq_true rfl)) (fun h8 => ?_) (fun h8 => ?_)
       ·skip
        refine RQ.k XK 59 3 rfl ?_
        (conv=>whnf);refine ⟨rfl,?_⟩
        refine RQ.gv rfl rfl rfl rfl (fun h9 => V.fieldR rfl rfl rfl rfl (by decide) rfl (Nat.le_of_ble_eq_true rfl)) (fun h9 => ?_) (fun h9 => ?_)
        ·skip
         refine RQ.k XK 59 4 rfl ?_
         (conv=>whnf);refine ⟨rfl,?_⟩
         refine RQ.nil ?_
         exact ⟨_, by (try clear hr hdi); first | rfl | (simp_all; done) | (simp_all; omega) | grind, rfl, Le.of rfl⟩
        ·skip
         refine RQ.k XK 59 4 rfl ?_
         (conv=>whnf);refine ⟨rfl,?_⟩
         refine RQ.nil ?_
         exact ⟨_, by (try clear hr hdi); first | rfl | (simp_all; done) | (simp_all; omega) | grind, rfl, Le.of rfl⟩
       ·skip
        refine RQ.k XK 59 8 rfl ?_
        (conv=>whnf);refine ⟨rfl,?_⟩
        refine RQ.nil ?_
        exact ⟨_, by (try clear hr hdi); first | rfl | (simp_all; done) | (simp_all; omega) | grind, rfl, Le.of rfl⟩
      ·skip
       refine RQ.k XK 59 14 rfl ?_
       (conv=>whnf);refine ⟨rfl,?_⟩
       refine RQ.nil ?_
       exact ⟨_, by (try clear hr hdi); first | rfl | (simp_all; done) | (simp_all; omega) | grind, rfl, Le.of rfl⟩
     ·skip
      refine RQ.k XK 59 20 rfl ?_
      (conv=>whnf);refine ⟨rfl,?_⟩
      refine RQ.nil ?_
      exact ⟨_, by (try clear hr hdi); first | rfl | (simp_all; done) | (simp_all; omega) | grind, rfl, Le.of rfl⟩
    ·skip
     refine RQ.k XK 59 13 rfl ?_
     (conv=>whnf);refine ⟨rfl,?_⟩
     refine RQ.guardT rfl rfl rfl rfl (QOK.call (spec_l01In_fn ei.last 0 1000000) rfl (.cons (.one (.r .r)) (.cons (.one (.r .r)) (.cons (.one (.r .r)) (.nil)))) ?_)
     refine RQ.k XK 59 3 rfl ?_
     (conv=>whnf);refine ⟨rfl,?_⟩
     refine RQ.gv rfl rfl rfl rfl (fun h10 => V.fieldR rfl rfl rfl rfl (by decide) rfl (Nat.le_of_ble_eq_true rfl)) (fun h10 => ?_) (fun h10 => ?_)
     ·skip
      refine RQ.k XK 59 5 rfl ?_
      (conv=>whnf);refine ⟨rfl,?_⟩
      refine RQ.gv rfl rfl rfl rfl (fun h11 => V.fieldR rfl rfl rfl rfl (by decide) rfl (Nat.le_of_ble_eq_true rfl)) (fun h11 => ?_) (fun h11 => ?_)
      ·skip
       refine RQ.k XK 59 3 rfl ?_
       (conv=>whnf);refine ⟨rfl,?_⟩
       refine RQ.gv rfl rfl rfl rfl (fun h12 => V.fieldR rfl rfl rfl rfl (by decide) rfl (Nat.le_of_ble_eq_true rfl)) (fun h12 => ?_) (fun h12 => ?_)
       ·skip
        refine RQ.k XK 59 4 rfl ?_
        (conv=>whnf);refine ⟨rfl,?_⟩
        refine RQ.nil ?_
        exact ⟨_, by (try clear hr hdi); first | rfl | (simp_all; done) | (simp_all; omega) | grind, rfl, Le.of rfl⟩
       ·skip
        refine RQ.k XK 59 4 rfl ?_
        (conv=>whnf);refine ⟨rfl,?_⟩
        refine RQ.nil ?_
        exact ⟨_, by (try clear hr hdi); first | rfl | (simp_all; done) | (simp_all; omega) | grind, rfl, Le.of rfl⟩
      ·skip
       refine RQ.k XK 59 8 rfl ?_
       (conv=>whnf);refine ⟨rfl,?_⟩
       refine RQ.nil ?_
       exact ⟨_, by (try clear hr hdi); first | rfl | (simp_all; done) | (simp_all; omega) | grind, rfl, Le.of rfl⟩
     ·skip
      refine RQ.k XK 59 14 rfl ?_
      (conv=>whnf);refine ⟨rfl,?_⟩
      refine RQ.nil ?_
      exact ⟨_, by (try clear hr hdi); first | rfl | (simp_all; done) | (simp_all; omega) | grind, rfl, Le.of rfl⟩
   ·skip
    refine RQ.k XK 59 35 rfl ?_
    (conv=>whnf);refine ⟨rfl,?_⟩
    refine RQ.nil ?_
    exact ⟨_, by (try clear hr hdi); first | rfl | (simp_all; done) | (simp_all; omega) | grind, rfl, Le.of rfl⟩
  ·intro v3 hv13
   refine CW.cond rfl (fun h14 => ?_) (fun h14 => ?_)
   ·skip
    refine CW.k XK 59 1 [2] rfl ?_
    (conv=>whnf);refine ⟨rfl,?_⟩
    refine CW.ret ?_
    exact Post.one (RV.b rfl (by have ht : sessF none a = false := (by rw [← hr, hdi, sessF]; first | (simp_all [sessOk, emp, prevO, prevGe]; done) | grind [sessOk, emp, prevO, prevGe]); simp [ht])) (AOs.r AOs.e)
   ·skip
    refine CW.skip ?_
    refine CW.keep 59 [0,3] rfl ?_;(conv=>whnf);refine ⟨?_⟩
    refine CW.region ?_
    refine RW.k XK 59 1 rfl ?_
    (conv=>whnf);refine ⟨rfl,?_⟩
    refine RW.v rfl (V.inc rfl rfl rfl hii hl0) ?_
    refine RW.k XK 59 1 rfl ?_
    (conv=>whnf);refine ⟨rfl,?_⟩
    refine RW.nil ?_
    exact ⟨i + 1, by omega, ⟨by omega, by rw [← hr, hdi, sessF, prevO_succ hei]; first | (simp_all [sessOk, emp, prevO, prevGe]; done) | grind [sessOk, emp, prevO, prevGe]⟩, rfl, Le.c rfl <| Le.c rfl <| Le.e⟩
 ·skip
  have hii : a.length ≤ i := by have := h1; simp at this; first | exact this | omega | (simp; done) | (simp; omega)
  have hdi : a.drop i = [] := List.drop_eq_nil_of_le hii
  refine CW.exit ?_
  refine CW.keep 59 [0] rfl ?_;(conv=>whnf);refine ⟨?_⟩
  refine CW.k XK 59 1 [2] rfl ?_
  (conv=>whnf);refine ⟨rfl,?_⟩
  refine CW.ret ?_
  exact Post.one (RV.b rfl (by have ht : sessF none a = true := (by rw [← hr, hdi]; rfl); simp [ht])) (AOs.r AOs.e)
end Go.Proofs.YtmhnehgpmndiiaaDoor.Y
