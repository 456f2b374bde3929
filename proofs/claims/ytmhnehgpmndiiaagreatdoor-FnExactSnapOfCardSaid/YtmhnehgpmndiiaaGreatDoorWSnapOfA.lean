import Derived.Test.YtmhnehgpmndiiaaGreatDoorPu
import Derived.Test.YtmhnehgpmndiiaaGreatDoorProg
namespace Go.Proofs.YtmhnehgpmndiiaaGreatDoor.Y
open Go Go.RowKit Go.Eng Go.Proofs
set_option maxRecDepth 10000
def tl : List (Nat × TyI) := [
(3, ⟨1, 8, [.int .i64 0], .prim⟩),
(4, ⟨1, 1, [.bool false], .prim⟩),
(5, ⟨1, 1, [.int .u8 0], .prim⟩),
(9, ⟨1, 16, [.string ⟨#[]⟩], .prim⟩),
(22, ⟨1, 24, [.slice none 0 0], .slice 3⟩),
(23, ⟨1, 24, [.slice none 0 0], .slice 264⟩),
(25, ⟨3, 40, [.int .i64 0, .int .i64 0, .slice none 0 0], .agg [(0, 3, 1), (1, 3, 1), (2, 23, 1)]⟩),
(26, ⟨1, 24, [.slice none 0 0], .slice 227⟩),
(28, ⟨14, 176, [.int .i64 0, .int .i64 0, .int .i64 0, .int .i64 0, .int .i64 0, .slice none 0 0, .int .i64 0, .int .i64 0, .slice none 0 0, .int .i64 0, .int .i64 0, .int .i64 0, .slice none 0 0, .slice none 0 0], .agg [(0, 3, 1), (1, 3, 1), (2, 3, 1), (3, 3, 1), (4, 3, 1), (5, 22, 1), (6, 25, 3), (9, 3, 1), (10, 3, 1), (11, 3, 1), (12, 22, 1), (13, 26, 1)]⟩),
(29, ⟨1, 24, [.slice none 0 0], .slice 208⟩),
(31, ⟨1, 24, [.slice none 0 0], .agg [(0, 29, 1)]⟩),
(33, ⟨6, 64, [.int .i64 0, .int .i64 0, .int .i64 0, .int .i64 0, .int .i64 0, .slice none 0 0], .agg [(0, 3, 1), (1, 3, 1), (2, 3, 1), (3, 25, 3)]⟩),
(34, ⟨1, 24, [.slice none 0 0], .slice 210⟩),
(35, ⟨1, 24, [.slice none 0 0], .slice 212⟩),
(37, ⟨2, 48, [.slice none 0 0, .slice none 0 0], .agg [(0, 34, 1), (1, 35, 1)]⟩),
(39, ⟨27, 352, [.int .i64 0, .int .i64 0, .int .i64 0, .int .i64 0, .int .i64 0, .slice none 0 0, .int .i64 0, .int .i64 0, .slice none 0 0, .int .i64 0, .int .i64 0, .int .i64 0, .slice none 0 0, .slice none 0 0, .slice none 0 0, .int .i64 0, .int .i64 0, .int .i64 0, .int .i64 0, .int .i64 0, .slice none 0 0, .slice none 0 0, .slice none 0 0, .int .i64 0, .string ⟨#[]⟩, .int .i64 0, .int .i64 0], .agg [(0, 28, 14), (14, 31, 1), (15, 33, 6), (21, 37, 2), (23, 3, 1), (24, 9, 1), (25, 3, 1), (26, 3, 1)]⟩),
(42, ⟨4, 56, [.int .i64 0, .int .i64 0, .slice none 0 0, .string ⟨#[]⟩], .agg [(0, 3, 1), (1, 3, 1), (2, 22, 1), (3, 9, 1)]⟩),
(45, ⟨1, 24, [.slice none 0 0], .slice 196⟩),
(47, ⟨3, 40, [.int .i64 0, .int .i64 0, .slice none 0 0], .agg [(0, 3, 1), (1, 3, 1), (2, 45, 1)]⟩),
(48, ⟨1, 24, [.slice none 0 0], .slice 225⟩),
(50, ⟨14, 176, [.int .i64 0, .int .i64 0, .int .i64 0, .int .i64 0, .int .i64 0, .slice none 0 0, .int .i64 0, .int .i64 0, .slice none 0 0, .int .i64 0, .int .i64 0, .int .i64 0, .slice none 0 0, .slice none 0 0], .agg [(0, 3, 1), (1, 3, 1), (2, 3, 1), (3, 3, 1), (4, 3, 1), (5, 22, 1), (6, 47, 3), (9, 3, 1), (10, 3, 1), (11, 3, 1), (12, 22, 1), (13, 48, 1)]⟩),
(51, ⟨1, 24, [.slice none 0 0], .slice 108⟩),
(53, ⟨1, 24, [.slice none 0 0], .agg [(0, 51, 1)]⟩),
(55, ⟨6, 64, [.int .i64 0, .int .i64 0, .int .i64 0, .int .i64 0, .int .i64 0, .slice none 0 0], .agg [(0, 3, 1), (1, 3, 1), (2, 3, 1), (3, 47, 3)]⟩),
(56, ⟨1, 24, [.slice none 0 0], .slice 169⟩),
(57, ⟨1, 24, [.slice none 0 0], .slice 172⟩),
(59, ⟨2, 48, [.slice none 0 0, .slice none 0 0], .agg [(0, 56, 1), (1, 57, 1)]⟩),
(61, ⟨27, 352, [.int .i64 0, .int .i64 0, .int .i64 0, .int .i64 0, .int .i64 0, .slice none 0 0, .int .i64 0, .int .i64 0, .slice none 0 0, .int .i64 0, .int .i64 0, .int .i64 0, .slice none 0 0, .slice none 0 0, .slice none 0 0, .int .i64 0, .int .i64 0, .int .i64 0, .int .i64 0, .int .i64 0, .slice none 0 0, .slice none 0 0, .slice none 0 0, .int .i64 0, .string ⟨#[]⟩, .int .i64 0, .int .i64 0], .agg [(0, 50, 14), (14, 53, 1), (15, 55, 6), (21, 59, 2), (23, 3, 1), (24, 9, 1), (25, 3, 1), (26, 3, 1)]⟩),
(68, ⟨1, 24, [.slice none 0 0], .slice 5⟩),
(108, ⟨3, 40, [.string ⟨#[]⟩, .string ⟨#[]⟩, .int .i64 0], .agg [(0, 9, 1), (1, 9, 1), (2, 3, 1)]⟩),
(169, ⟨3, 32, [.int .i64 0, .int .i64 0, .string ⟨#[]⟩], .agg [(0, 3, 1), (1, 3, 1), (2, 9, 1)]⟩),
(172, ⟨3, 40, [.string ⟨#[]⟩, .string ⟨#[]⟩, .int .i64 0], .agg [(0, 9, 1), (1, 9, 1), (2, 3, 1)]⟩),
(176, ⟨3, 32, [.string ⟨#[]⟩, .int .i64 0, .bool false], .agg [(0, 9, 1), (1, 3, 1), (2, 4, 1)]⟩),
(196, ⟨3, 32, [.int .i64 0, .int .i64 0, .string ⟨#[]⟩], .agg [(0, 3, 1), (1, 3, 1), (2, 9, 1)]⟩),
(208, ⟨3, 40, [.string ⟨#[]⟩, .string ⟨#[]⟩, .int .i64 0], .agg [(0, 9, 1), (1, 9, 1), (2, 3, 1)]⟩),
(210, ⟨3, 32, [.int .i64 0, .int .i64 0, .string ⟨#[]⟩], .agg [(0, 3, 1), (1, 3, 1), (2, 9, 1)]⟩),
(212, ⟨3, 40, [.string ⟨#[]⟩, .string ⟨#[]⟩, .int .i64 0], .agg [(0, 9, 1), (1, 9, 1), (2, 3, 1)]⟩),
(218, ⟨3, 32, [.string ⟨#[]⟩, .int .i64 0, .bool false], .agg [(0, 9, 1), (1, 3, 1), (2, 4, 1)]⟩),
(225, ⟨4, 32, [.int .i64 0, .int .i64 0, .int .i64 0, .int .i64 0], .agg [(0, 3, 1), (1, 3, 1), (2, 3, 1), (3, 3, 1)]⟩),
(227, ⟨4, 32, [.int .i64 0, .int .i64 0, .int .i64 0, .int .i64 0], .agg [(0, 3, 1), (1, 3, 1), (2, 3, 1), (3, 3, 1)]⟩),
(264, ⟨3, 32, [.int .i64 0, .int .i64 0, .string ⟨#[]⟩], .agg [(0, 3, 1), (1, 3, 1), (2, 9, 1)]⟩)]
theorem tl_ok : ∀ p ∈ tl, tyI Tryz.prog p.1 = some p.2 := by
  refine List.forall_mem_cons.2 ⟨by kernel_rfl, ?_⟩
  refine List.forall_mem_cons.2 ⟨by kernel_rfl, ?_⟩
  refine List.forall_mem_cons.2 ⟨by kernel_rfl, ?_⟩
  refine List.forall_mem_cons.2 ⟨by kernel_rfl, ?_⟩
  refine List.forall_mem_cons.2 ⟨by kernel_rfl, ?_⟩
  refine List.forall_mem_cons.2 ⟨by kernel_rfl, ?_⟩
  refine List.forall_mem_cons.2 ⟨by kernel_rfl, ?_⟩
  refine List.forall_mem_cons.2 ⟨by kernel_rfl, ?_⟩
  refine List.forall_mem_cons.2 ⟨by kernel_rfl, ?_⟩
  refine List.forall_mem_cons.2 ⟨by kernel_rfl, ?_⟩
  refine List.forall_mem_cons.2 ⟨by kernel_rfl, ?_⟩
  refine List.forall_mem_cons.2 ⟨by kernel_rfl, ?_⟩
  refine List.forall_mem_cons.2 ⟨by kernel_rfl, ?_⟩
  refine List.forall_mem_cons.2 ⟨by kernel_rfl, ?_⟩
  refine List.forall_mem_cons.2 ⟨by kernel_rfl, ?_⟩
  refine List.forall_mem_cons.2 ⟨by kernel_rfl, ?_⟩
  refine List.forall_mem_cons.2 ⟨by kernel_rfl, ?_⟩
  refine List.forall_mem_cons.2 ⟨by kernel_rfl, ?_⟩
  refine List.forall_mem_cons.2 ⟨by kernel_rfl, ?_⟩
  refine List.forall_mem_cons.2 ⟨by kernel_rfl, ?_⟩
  refine List.forall_mem_cons.2 ⟨by kernel_rfl, ?_⟩
  refine List.forall_mem_cons.2 ⟨by kernel_rfl, ?_⟩
  refine List.forall_mem_cons.2 ⟨by kernel_rfl, ?_⟩
  refine List.forall_mem_cons.2 ⟨by kernel_rfl, ?_⟩
  refine List.forall_mem_cons.2 ⟨by kernel_rfl, ?_⟩
  refine List.forall_mem_cons.2 ⟨by kernel_rfl, ?_⟩
  refine List.forall_mem_cons.2 ⟨by kernel_rfl, ?_⟩
  refine List.forall_mem_cons.2 ⟨by kernel_rfl, ?_⟩
  refine List.forall_mem_cons.2 ⟨by kernel_rfl, ?_⟩
  refine List.forall_mem_cons.2 ⟨by kernel_rfl, ?_⟩
  refine List.forall_mem_cons.2 ⟨by kernel_rfl, ?_⟩
  refine List.forall_mem_cons.2 ⟨by kernel_rfl, ?_⟩
  refine List.forall_mem_cons.2 ⟨by kernel_rfl, ?_⟩
  refine List.forall_mem_cons.2 ⟨by kernel_rfl, ?_⟩
  refine List.forall_mem_cons.2 ⟨by kernel_rfl, ?_⟩
  refine List.forall_mem_cons.2 ⟨by kernel_rfl, ?_⟩
  refine List.forall_mem_cons.2 ⟨by kernel_rfl, ?_⟩
  refine List.forall_mem_cons.2 ⟨by kernel_rfl, ?_⟩
  refine List.forall_mem_cons.2 ⟨by kernel_rfl, ?_⟩
  refine List.forall_mem_cons.2 ⟨by kernel_rfl, ?_⟩
  refine List.forall_mem_cons.2 ⟨by kernel_rfl, ?_⟩
  exact fun _ h => by cases h
noncomputable def E : Env := ⟨Tryz.prog, lk tl, fun t i h => tl_ok (t, i) (lk_mem _ _ _ h), by kernel_rfl⟩
def kl : List (Nat × TypeDesc) := [(3, .int .i64), (4, .bool), (5, .int .u8), (9, .string), (242, .int .u32)]
theorem kl_ok : ∀ p ∈ kl, Tryz.prog.underlying p.1 = some p.2 := by
  refine List.forall_mem_cons.2 ⟨by kernel_rfl, ?_⟩
  refine List.forall_mem_cons.2 ⟨by kernel_rfl, ?_⟩
  refine List.forall_mem_cons.2 ⟨by kernel_rfl, ?_⟩
  refine List.forall_mem_cons.2 ⟨by kernel_rfl, ?_⟩
  refine List.forall_mem_cons.2 ⟨by kernel_rfl, ?_⟩
  exact fun _ h => by cases h
noncomputable def XK : Kd E.P := ⟨lk kl, fun t d h => kl_ok (t, d) (lk_mem _ _ _ h)⟩
set_option maxHeartbeats 4000000 in
theorem impl_within_fn (n : Int) (x : Int) (y : Int) : Eng.Fn E.P 66 [.one (.r (.v (.int .i64 n))), .one (.r (.v (.int .i64 x))), .one (.r (.v (.int .i64 y)))] (.one (.one (.w (.v (.bool (inR n x y)))))) [.one (.r (.v (.int .i64 n))), .one (.r (.v (.int .i64 x))), .one (.r (.v (.int .i64 y)))] := by
 refine Eng.Fn.intro (E := E) (rvs := [.tmp 6]) Tryz.func66 rfl rfl rfl (by simp [outSlots, moved, rvSlot, sl]) ?_
 intro B g bo
 refine CW.keep 15 [0,1,2] rfl ?_;(conv=>whnf);refine ⟨?_⟩
 refine CW.k XK 15 1 [0,1,2] rfl ?_
 (conv=>whnf);refine ⟨rfl,?_⟩
 refine CW.seqJ 15 (fun (v1 : Bool) => [(6, Bo v1)]) (fun v1 => v1 = (decide (n ≥ x) && decide (n ≤ y))) ?_ ?_
 ·refine CW.region ?_
  refine RW.k XK 15 4 rfl ?_
  (conv=>whnf);refine ⟨rfl,?_⟩
  refine RW.gv rfl rfl rfl rfl (fun h2 => V.mv (d := I n) rfl rfl) (fun h2 => ?_) (fun h2 => ?_)
  ·skip
   refine RW.k XK 15 4 rfl ?_
   (conv=>whnf);refine ⟨rfl,?_⟩
   refine RW.nil ?_
   exact ⟨_, by first | rfl | (simp_all; done) | (simp_all; omega) | grind, rfl, Le.of rfl⟩
  ·skip
   refine RW.k XK 15 4 rfl ?_
   (conv=>whnf);refine ⟨rfl,?_⟩
   refine RW.nil ?_
   exact ⟨_, by first | rfl | (simp_all; done) | (simp_all; omega) | grind, rfl, Le.of rfl⟩
 ·intro v1 hv3
  refine CW.ret ?_
  exact Post.one (RV.b rfl (by simp_all [inR])) (AOs.r (AOs.r (AOs.r AOs.e)))
set_option maxHeartbeats 4000000 in
theorem spec_l01In_fn (n : Int) (x : Int) (y : Int) : Eng.Fn E.P 51 [.one (.r (.v (.int .i64 n))), .one (.r (.v (.int .i64 x))), .one (.r (.v (.int .i64 y)))] (.one (.one (.w (.v (.bool (inR n x y)))))) [.one (.r (.v (.int .i64 n))), .one (.r (.v (.int .i64 x))), .one (.r (.v (.int .i64 y)))] := by
 refine Eng.Fn.intro (E := E) (rvs := [.tmp 6]) Tryz.func51 rfl rfl rfl (by simp [outSlots, moved, rvSlot, sl]) ?_
 intro B g bo
 refine CW.keep 15 [0,1,2] rfl ?_;(conv=>whnf);refine ⟨?_⟩
 refine CW.k XK 15 1 [0,1,2] rfl ?_
 (conv=>whnf);refine ⟨rfl,?_⟩
 refine CW.seqJ 15 (fun (v1 : Bool) => [(6, Bo v1)]) (fun v1 => v1 = (decide (n ≥ x) && decide (n ≤ y))) ?_ ?_
 ·refine CW.region ?_
  refine RW.k XK 15 4 rfl ?_
  (conv=>whnf);refine ⟨rfl,?_⟩
  refine RW.gv rfl rfl rfl rfl (fun h2 => V.mv (d := I n) rfl rfl) (fun h2 => ?_) (fun h2 => ?_)
  ·skip
   refine RW.k XK 15 4 rfl ?_
   (conv=>whnf);refine ⟨rfl,?_⟩
   refine RW.nil ?_
   exact ⟨_, by first | rfl | (simp_all; done) | (simp_all; omega) | grind, rfl, Le.of rfl⟩
  ·skip
   refine RW.k XK 15 4 rfl ?_
   (conv=>whnf);refine ⟨rfl,?_⟩
   refine RW.nil ?_
   exact ⟨_, by first | rfl | (simp_all; done) | (simp_all; omega) | grind, rfl, Le.of rfl⟩
 ·intro v1 hv3
  refine CW.ret ?_
  exact Post.one (RV.b rfl (by simp_all [inR])) (AOs.r (AOs.r (AOs.r AOs.e)))
set_option maxHeartbeats 4000000 in
theorem spec_l03Name_fn (s : ByteArray) : Eng.Fn E.P 144 [.one (.r (.v (.string s)))] (.one (.one (.w (.v (.bool (inR (s.size : Int) 1 8)))))) [.one (.r (.v (.string s)))] := by
 refine Eng.Fn.intro (E := E) (rvs := [.tmp 2]) Tryz.func144 rfl rfl rfl (by simp [outSlots, moved, rvSlot, sl]) ?_
 intro B g bo
 refine CW.keep 6 [0] rfl ?_;(conv=>whnf);refine ⟨?_⟩
 refine CW.k XK 6 1 [0] rfl ?_
 (conv=>whnf);refine ⟨rfl,?_⟩
 refine CW.seq ?_
 refine CW.region ?_
 refine RW.k XK 6 2 rfl ?_
 (conv=>whnf);refine ⟨rfl,?_⟩
 refine RW.call rfl (spec_l01In_fn (s.size : Int) 1 8) rfl (.cons (.one (.r .r)) (.cons (.one (.r .r)) (.cons (.one (.r .r)) (.nil)))) fun g1 => ?_
 refine RW.k XK 6 1 rfl ?_
 (conv=>whnf);refine ⟨rfl,?_⟩
 refine RW.nil ?_
 refine CW.keep 6 [2] rfl ?_;(conv=>whnf);refine ⟨?_⟩
 refine CW.ret ?_
 exact Post.one (RV.b rfl (by rfl)) (AOs.r AOs.e)
set_option maxHeartbeats 4000000 in
theorem impl_DiskOk_fn (d : Disk) (hok : okToDisk d) : Eng.Fn E.P 87 [.agg ((Disk.c d).map .r)] (.one (.one (.w (.v (.bool (diskOk d)))))) [.agg ((Disk.c d).map .r)] := by
 refine Eng.Fn.intro (E := E) (rvs := [.tmp 2]) Tryz.func87 rfl rfl rfl (by simp [outSlots, moved, rvSlot, sl]) ?_
 intro B g bo
 refine CW.keep 54 [0] rfl ?_;(conv=>whnf);refine ⟨?_⟩
 have hl1 : d.files.length ≤ maxLen := by have := hok.1; simp only [maxLen]; omega
 refine CW.seq ?_
 refine CW.region ?_
 refine RW.k XK 54 1 rfl ?_
 (conv=>whnf);intro b1;(conv=>whnf);refine ⟨rfl,?_⟩
 refine RW.freezeB (ts := (Disk.c d)) 1 rfl (DRd.r DRd.e) ?_
 refine RW.k XK 54 1 rfl ?_
 (conv=>whnf);refine ⟨rfl,?_⟩
 refine RW.nil ?_
 refine CW.keep 54 [1] rfl ?_;(conv=>whnf);refine ⟨?_⟩
 refine CW.seq ?_
 refine CW.k XK 54 1 [1,6,7,8] rfl ?_
 (conv=>whnf);refine ⟨rfl,?_⟩
 refine CW.block ?_
 refine CW.loopI 54 (fun (i : Nat) => [(1, .rp (Disk.c d)), (6, .r (sl 3 File.c d.files)), (7, I (d.files.length : Int)), (8, I (i : Int))]) (fun (i : Nat) => i ≤ d.files.length ∧ fileF (prevO File.name File.z d.files i) (d.files.drop i) = fileF none d.files) (fun (i : Nat) => d.files.length - i) 0 rfl (Le.c rfl <| Le.c rfl <| Le.c rfl <| Le.c rfl <| Le.e) ⟨by omega, rfl⟩ ?_
 rintro i ⟨hb, hr⟩
 refine CW.k XK 54 1 [1,6,7,8,9] rfl ?_
 (conv=>whnf);refine ⟨rfl,?_⟩
 refine CW.seq ?_
 refine CW.cond rfl (fun h2 => ?_) (fun h2 => ?_)
 ·skip
  have hii : i < d.files.length := by have := h2; simp at this; first | exact this | omega | (simp; done) | (simp; omega)
  obtain ⟨ei, hei⟩ : ∃ e, d.files[i]? = some e := ⟨_, List.getElem?_eq_getElem hii⟩
  have hdi := drop_get hei
  refine CW.skip ?_
  refine CW.keep 54 [1,6,7,8] rfl ?_;(conv=>whnf);refine ⟨?_⟩
  refine CW.seq ?_
  refine CW.block ?_
  refine CW.seq ?_
  refine CW.region ?_
  refine RW.k XK 54 1 rfl ?_
  (conv=>whnf);refine ⟨rfl,?_⟩
  refine RW.v rfl (V.indexS rfl rfl rfl rfl rfl rfl File.len hei) ?_
  refine RW.k XK 54 4 rfl ?_
  (conv=>whnf);intro b3;(conv=>whnf);refine ⟨rfl,?_⟩
  refine RW.freezeB (ts := (File.c ei)) 4 rfl (DRd.r (DRd.r (DRd.r DRd.e))) ?_
  refine RW.nil ?_
  refine CW.keep 54 [1,3,4,6,7,8] rfl ?_;(conv=>whnf);refine ⟨?_⟩
  refine CW.seqJ 54 (fun (v4 : Bool) => [(1, .rp (Disk.c d)), (6, .r (sl 3 File.c d.files)), (7, I (d.files.length : Int)), (8, I (i : Int)), (48, Bo v4)]) (fun v4 => v4 = ((((!(inR (ei.name.size : Int) 1 8)) || decide ((ei.text.size : Int) > 20000)) || (!(inR ei.kept 0 (ei.text.size : Int)))) || (decide ((i : Int) > 0) && (!(Op.bytesLess ((d.files.getD (i - 1) File.z).name).toList ei.name.toList))))) ?_ ?_
  ·refine CW.drawn (by kernel_rfl) ?_
   refine RQ.k XK 54 3 rfl ?_
   (conv=>whnf);refine ⟨rfl,?_⟩
   refine RQ.cons rfl (QOK.call (impl_within_fn (ei.name.size : Int) 1 8) rfl (.cons (.one (.r .r)) (.cons (.one (.r .r)) (.cons (.one (.r .r)) (.nil)))) ?_)
   refine RQ.k XK 54 2 rfl ?_
   (conv=>whnf);refine ⟨rfl,?_⟩
   refine RQ.gv rfl rfl rfl rfl (fun h5 => V.fieldR rfl rfl rfl rfl (by decide) rfl (Nat.le_of_ble_eq_true rfl)) (fun h5 => ?_) (fun h5 => ?_)
   ·skip
    refine RQ.k XK 54 5 rfl ?_
    (conv=>whnf);refine ⟨rfl,?_⟩
    refine RQ.gv rfl rfl rfl rfl (fun h6 => V.fieldR rfl rfl rfl rfl (by decide) rfl (Nat.le_of_ble_eq_true rfl)) (fun h6 => ?_) (fun h6 => ?_)
    ·skip
     refine RQ.k XK 54 4 rfl ?_
     (conv=>whnf);refine ⟨rfl,?_⟩
     refine RQ.guardT rfl rfl rfl rfl (QOK.call (impl_within_fn ei.kept 0 (ei.text.size : Int)) rfl (.cons (.one (.r .r)) (.cons (.one (.r .r)) (.cons (.one (.r .r)) (.nil)))) ?_)
     refine RQ.k XK 54 3 rfl ?_
     (conv=>whnf);refine ⟨rfl,?_⟩
     refine RQ.gv rfl rfl rfl rfl (fun h7 => V.mv (d := I (i : Int)) rfl rfl) (fun h7 => ?_) (fun h7 => ?_)
     ·skip
      refine RQ.k XK 54 2 rfl ?_
      (conv=>whnf);refine ⟨rfl,?_⟩
      refine RQ.gv rfl rfl rfl rfl (fun h8 => V.fieldR rfl rfl rfl rfl (by decide) rfl (Nat.le_of_ble_eq_true rfl)) (fun h8 => ?_) (fun h8 => ?_)
      ·skip
       refine RQ.k XK 54 2 rfl ?_
       (conv=>whnf);refine ⟨rfl,?_⟩
       refine RQ.gt rfl rfl rfl rfl (V.dec (m := i) rfl rfl rfl (by have := h8; simp at this; omega) (by omega)) ?_
       refine RQ.gt rfl rfl rfl rfl (V.indexS rfl rfl rfl rfl rfl rfl File.len (getD_some (l := d.files) (j := i - 1) (z := File.z) (by omega))) ?_
       refine RQ.k XK 54 7 rfl ?_
       (conv=>whnf);refine ⟨rfl,?_⟩
       refine RQ.nil ?_
       exact ⟨_, by (try clear hr hdi); first | rfl | (simp_all; done) | (simp_all; omega) | grind, rfl, Le.of rfl⟩
      ·skip
       refine RQ.k XK 54 11 rfl ?_
       (conv=>whnf);refine ⟨rfl,?_⟩
       refine RQ.nil ?_
       exact ⟨_, by (try clear hr hdi); first | rfl | (simp_all; done) | (simp_all; omega) | grind, rfl, Le.of rfl⟩
     ·skip
      refine RQ.k XK 54 14 rfl ?_
      (conv=>whnf);refine ⟨rfl,?_⟩
      refine RQ.nil ?_
      exact ⟨_, by (try clear hr hdi); first | rfl | (simp_all; done) | (simp_all; omega) | grind, rfl, Le.of rfl⟩
    ·skip
     refine RQ.k XK 54 23 rfl ?_
     (conv=>whnf);refine ⟨rfl,?_⟩
     refine RQ.nil ?_
     exact ⟨_, by (try clear hr hdi); first | rfl | (simp_all; done) | (simp_all; omega) | grind, rfl, Le.of rfl⟩
   ·skip
    refine RQ.k XK 54 29 rfl ?_
    (conv=>whnf);refine ⟨rfl,?_⟩
    refine RQ.nil ?_
    exact ⟨_, by (try clear hr hdi); first | rfl | (simp_all; done) | (simp_all; omega) | grind, rfl, Le.of rfl⟩
  ·intro v4 hv9
   refine CW.cond rfl (fun h10 => ?_) (fun h10 => ?_)
   ·skip
    refine CW.k XK 54 1 [2] rfl ?_
    (conv=>whnf);refine ⟨rfl,?_⟩
    refine CW.ret ?_
    exact Post.one (RV.b rfl (by (have ht9 : fileF none d.files = false := (by rw [← hr, hdi, fileF]; first | (simp_all [fileOk, prevO, prevS]; done) | grind [fileOk, prevO, prevS])); simp [diskOk, ht9])) (AOs.a rfl AOs.e)
   ·skip
    refine CW.skip ?_
    refine CW.keep 54 [1,6,7,8] rfl ?_;(conv=>whnf);refine ⟨?_⟩
    refine CW.region ?_
    refine RW.v rfl (V.inc rfl rfl rfl hii hl1) ?_
    refine RW.k XK 54 1 rfl ?_
    (conv=>whnf);refine ⟨rfl,?_⟩
    refine RW.nil ?_
    exact ⟨i + 1, by omega, ⟨by omega, by rw [← hr, hdi, fileF, prevO_succ hei]; first | (simp_all [fileOk, prevO, prevS]; done) | grind [fileOk, prevO, prevS]⟩, rfl, Le.c rfl <| Le.c rfl <| Le.c rfl <| Le.c rfl <| Le.e⟩
 ·skip
  have hii : d.files.length ≤ i := by have := h2; simp at this; first | exact this | omega | (simp; done) | (simp; omega)
  have hdi : d.files.drop i = [] := List.drop_eq_nil_of_le hii
  refine CW.exit ?_
  refine CW.keep 54 [1] rfl ?_;(conv=>whnf);refine ⟨?_⟩
  refine CW.k XK 54 1 [2] rfl ?_
  (conv=>whnf);refine ⟨rfl,?_⟩
  refine CW.ret ?_
  exact Post.one (RV.b rfl (by have hu : fileF none d.files = true := (by rw [← hr, hdi]; rfl); clear hr hdi; first | (simp_all [diskOk]; done) | (simp_all [diskOk]; omega) | grind [diskOk])) (AOs.a rfl AOs.e)
set_option maxHeartbeats 4000000 in
theorem spec_DiskOk_fn (d : Disk) (hok : okToDisk d) : Eng.Fn E.P 78 [.agg ((Disk.c d).map .r)] (.one (.one (.w (.v (.bool (diskOk d)))))) [.agg ((Disk.c d).map .r)] := by
 refine Eng.Fn.intro (E := E) (rvs := [.tmp 2]) Tryz.func78 rfl rfl rfl (by simp [outSlots, moved, rvSlot, sl]) ?_
 intro B g bo
 refine CW.keep 56 [0] rfl ?_;(conv=>whnf);refine ⟨?_⟩
 have hl1 : d.files.length ≤ maxLen := by have := hok.1; simp only [maxLen]; omega
 refine CW.seq ?_
 refine CW.region ?_
 refine RW.k XK 56 1 rfl ?_
 (conv=>whnf);intro b1;(conv=>whnf);refine ⟨rfl,?_⟩
 refine RW.freezeB (ts := (Disk.c d)) 1 rfl (DRd.r DRd.e) ?_
 refine RW.k XK 56 1 rfl ?_
 (conv=>whnf);refine ⟨rfl,?_⟩
 refine RW.nil ?_
 refine CW.keep 56 [1] rfl ?_;(conv=>whnf);refine ⟨?_⟩
 refine CW.seq ?_
 refine CW.k XK 56 1 [1,8] rfl ?_
 (conv=>whnf);refine ⟨rfl,?_⟩
 refine CW.cond rfl (fun h2 => ?_) (fun h2 => ?_)
 ·skip
  have hgt := of_decide_eq_true h2
  refine CW.k XK 56 1 [2] rfl ?_
  (conv=>whnf);refine ⟨rfl,?_⟩
  refine CW.ret ?_
  exact Post.one (RV.b rfl (by have h9 : decide ((d.files.length : Int) ≤ 30) = false := decide_eq_false (by omega); simp [diskOk, h9])) (AOs.a rfl AOs.e)
 ·skip
  have hgt := of_decide_eq_false h2
  refine CW.skip ?_
  refine CW.keep 56 [1] rfl ?_;(conv=>whnf);refine ⟨?_⟩
  refine CW.seq ?_
  refine CW.k XK 56 1 [1,3] rfl ?_
  (conv=>whnf);refine ⟨rfl,?_⟩
  refine CW.block ?_
  refine CW.loopI 56 (fun (i : Nat) => [(1, .rp (Disk.c d)), (3, I (i : Int))]) (fun (i : Nat) => i ≤ d.files.length ∧ fileF (prevO File.name File.z d.files i) (d.files.drop i) = fileF none d.files) (fun (i : Nat) => d.files.length - i) 0 rfl (Le.c rfl <| Le.c rfl <| Le.e) ⟨by omega, rfl⟩ ?_
  rintro i ⟨hb, hr⟩
  refine CW.seq ?_
  refine CW.k XK 56 1 [1,3,13] rfl ?_
  (conv=>whnf);refine ⟨rfl,?_⟩
  refine CW.cond rfl (fun h3 => ?_) (fun h3 => ?_)
  ·skip
   have hii : i < d.files.length := by have := h3; simp at this; first | exact this | omega | (simp; done) | (simp; omega)
   obtain ⟨ei, hei⟩ : ∃ e, d.files[i]? = some e := ⟨_, List.getElem?_eq_getElem hii⟩
   have hdi := drop_get hei
   refine CW.skip ?_
   refine CW.keep 56 [1,3] rfl ?_;(conv=>whnf);refine ⟨?_⟩
   refine CW.seq ?_
   refine CW.block ?_
   refine CW.seq ?_
   refine CW.region ?_
   refine RW.k XK 56 3 rfl ?_
   (conv=>whnf);refine ⟨rfl,?_⟩
   refine RW.v rfl (V.indexS rfl rfl rfl rfl rfl rfl File.len hei) ?_
   refine RW.k XK 56 3 rfl ?_
   (conv=>whnf);intro b4;(conv=>whnf);refine ⟨rfl,?_⟩
   refine RW.freezeB (ts := (File.c ei)) 4 rfl (DRd.r (DRd.r (DRd.r DRd.e))) ?_
   refine RW.nil ?_
   refine CW.keep 56 [1,3,4] rfl ?_;(conv=>whnf);refine ⟨?_⟩
   refine CW.seqJ 56 (fun (v5 : Bool) => [(1, .rp (Disk.c d)), (3, I (i : Int)), (55, Bo v5)]) (fun v5 => v5 = ((((!(inR (ei.name.size : Int) 1 8)) || decide ((ei.text.size : Int) > 20000)) || (!(inR ei.kept 0 (ei.text.size : Int)))) || (decide ((i : Int) > 0) && (!(Op.bytesLess ((d.files.getD (i - 1) File.z).name).toList ei.name.toList))))) ?_ ?_
   ·refine CW.drawn (by kernel_rfl) ?_
    refine RQ.k XK 56 2 rfl ?_
    (conv=>whnf);refine ⟨rfl,?_⟩
    refine RQ.cons rfl (QOK.call (spec_l03Name_fn ei.name) rfl (.cons (.one (.r .r)) (.nil)) ?_)
    refine RQ.k XK 56 2 rfl ?_
    (conv=>whnf);refine ⟨rfl,?_⟩
    refine RQ.gv rfl rfl rfl rfl (fun h6 => V.fieldR rfl rfl rfl rfl (by decide) rfl (Nat.le_of_ble_eq_true rfl)) (fun h6 => ?_) (fun h6 => ?_)
    ·skip
     refine RQ.k XK 56 5 rfl ?_
     (conv=>whnf);refine ⟨rfl,?_⟩
     refine RQ.gv rfl rfl rfl rfl (fun h7 => V.fieldR rfl rfl rfl rfl (by decide) rfl (Nat.le_of_ble_eq_true rfl)) (fun h7 => ?_) (fun h7 => ?_)
     ·skip
      refine RQ.k XK 56 4 rfl ?_
      (conv=>whnf);refine ⟨rfl,?_⟩
      refine RQ.guardT rfl rfl rfl rfl (QOK.call (spec_l01In_fn ei.kept 0 (ei.text.size : Int)) rfl (.cons (.one (.r .r)) (.cons (.one (.r .r)) (.cons (.one (.r .r)) (.nil)))) ?_)
      refine RQ.k XK 56 3 rfl ?_
      (conv=>whnf);refine ⟨rfl,?_⟩
      refine RQ.gv rfl rfl rfl rfl (fun h8 => V.mv (d := I (i : Int)) rfl rfl) (fun h8 => ?_) (fun h8 => ?_)
      ·skip
       refine RQ.k XK 56 2 rfl ?_
       (conv=>whnf);refine ⟨rfl,?_⟩
       refine RQ.gv rfl rfl rfl rfl (fun h9 => V.fieldR rfl rfl rfl rfl (by decide) rfl (Nat.le_of_ble_eq_true rfl)) (fun h9 => ?_) (fun h9 => ?_)
       ·skip
        refine RQ.k XK 56 2 rfl ?_
        (conv=>whnf);refine ⟨rfl,?_⟩
        refine RQ.gt rfl rfl rfl rfl (V.dec (m := i) rfl rfl rfl (by have := h9; simp at this; omega) (by omega)) ?_
        refine RQ.gt rfl rfl rfl rfl (V.indexS rfl rfl rfl rfl rfl rfl File.len (getD_some (l := d.files) (j := i - 1) (z := File.z) (by omega))) ?_
        refine RQ.k XK 56 7 rfl ?_
        (conv=>whnf);refine ⟨rfl,?_⟩
        refine RQ.nil ?_
        exact ⟨_, by (try clear hr hdi); first | rfl | (simp_all; done) | (simp_all; omega) | grind, rfl, Le.of rfl⟩
       ·skip
        refine RQ.k XK 56 11 rfl ?_
        (conv=>whnf);refine ⟨rfl,?_⟩
        refine RQ.nil ?_
        exact ⟨_, by (try clear hr hdi); first | rfl | (simp_all; done) | (simp_all; omega) | grind, rfl, Le.of rfl⟩
      ·skip
       refine RQ.k XK 56 14 rfl ?_
       (conv=>whnf);refine ⟨rfl,?_⟩
       refine RQ.nil ?_
       exact ⟨_, by (try clear hr hdi); first | rfl | (simp_all; done) | (simp_all; omega) | grind, rfl, Le.of rfl⟩
     ·skip
      refine RQ.k XK 56 23 rfl ?_
      (conv=>whnf);refine ⟨rfl,?_⟩
      refine RQ.nil ?_
      exact ⟨_, by (try clear hr hdi); first | rfl | (simp_all; done) | (simp_all; omega) | grind, rfl, Le.of rfl⟩
    ·skip
     refine RQ.k XK 56 29 rfl ?_
     (conv=>whnf);refine ⟨rfl,?_⟩
     refine RQ.nil ?_
     exact ⟨_, by (try clear hr hdi); first | rfl | (simp_all; done) | (simp_all; omega) | grind, rfl, Le.of rfl⟩
   ·intro v5 hv10
    refine CW.cond rfl (fun h11 => ?_) (fun h11 => ?_)
    ·skip
     refine CW.k XK 56 1 [2] rfl ?_
     (conv=>whnf);refine ⟨rfl,?_⟩
     refine CW.ret ?_
     exact Post.one (RV.b rfl (by (have ht9 : fileF none d.files = false := (by rw [← hr, hdi, fileF]; first | (simp_all [fileOk, prevO, prevS]; done) | grind [fileOk, prevO, prevS])); simp [diskOk, ht9])) (AOs.a rfl AOs.e)
    ·skip
     refine CW.skip ?_
     refine CW.keep 56 [1,3] rfl ?_;(conv=>whnf);refine ⟨?_⟩
     refine CW.region ?_
     refine RW.k XK 56 1 rfl ?_
     (conv=>whnf);refine ⟨rfl,?_⟩
     refine RW.v rfl (V.inc rfl rfl rfl hii hl1) ?_
     refine RW.k XK 56 1 rfl ?_
     (conv=>whnf);refine ⟨rfl,?_⟩
     refine RW.nil ?_
     exact ⟨i + 1, by omega, ⟨by omega, by rw [← hr, hdi, fileF, prevO_succ hei]; first | (simp_all [fileOk, prevO, prevS]; done) | grind [fileOk, prevO, prevS]⟩, rfl, Le.c rfl <| Le.c rfl <| Le.e⟩
  ·skip
   have hii : d.files.length ≤ i := by have := h3; simp at this; first | exact this | omega | (simp; done) | (simp; omega)
   have hdi : d.files.drop i = [] := List.drop_eq_nil_of_le hii
   refine CW.exit ?_
   refine CW.keep 56 [] rfl ?_;(conv=>whnf);refine ⟨?_⟩
   refine CW.k XK 56 1 [2] rfl ?_
   (conv=>whnf);refine ⟨rfl,?_⟩
   refine CW.ret ?_
   exact Post.one (RV.b rfl (by have hu : fileF none d.files = true := (by rw [← hr, hdi]; rfl); clear hr hdi; first | (simp_all [diskOk]; done) | (simp_all [diskOk]; omega) | grind [diskOk])) (AOs.a rfl AOs.e)
set_option maxHeartbeats 4000000 in
theorem impl_SumMore_fn (x : Int) (t : ByteArray) (ht : t.size ≤ maxLen) : Eng.Fn E.P 209 [.one (.r (.v (.int .u32 x))), .one (.r (.v (.string t)))] (.one (.one (.w (.v (.int .u32 (sumN x t t.size)))))) [.one (.r (.v (.int .u32 x))), .one (.r (.v (.string t)))] := by
 refine Eng.Fn.intro (E := E) (rvs := [.tmp 4]) Tryz.func209 rfl rfl rfl (by simp [outSlots, moved, rvSlot, sl]) ?_
 intro B g bo
 refine CW.keep 31 [0,1] rfl ?_;(conv=>whnf);refine ⟨?_⟩
 refine CW.seq ?_
 refine CW.region ?_
 refine RW.v rfl (V.as (d := .r (.v (.int .u32 0))) rfl rfl) ?_
 refine RW.nil ?_
 refine CW.keep 31 [0,1] rfl ?_;(conv=>whnf);refine ⟨?_⟩
 refine CW.seq ?_
 refine CW.k XK 31 1 [0,1,5] rfl ?_
 (conv=>whnf);refine ⟨rfl,?_⟩
 refine CW.block ?_
 refine CW.loopI 31 (fun (zz : Nat × Int) => match zz with | (i, s) => [(0, .r (.v (.int .u32 s))), (1, S t), (5, I (i : Int))]) (fun (zz : Nat × Int) => match zz with | (i, s) => i ≤ t.size ∧ s = sumN x t i) (fun (zz : Nat × Int) => match zz with | (i, s) => t.size - i) (0, _) rfl (Le.c rfl <| Le.c rfl <| Le.c rfl <| Le.e) ⟨by omega, rfl⟩ ?_
 rintro ⟨i, s⟩ ⟨hb, hr⟩
 refine CW.seq ?_
 refine CW.k XK 31 1 [0,1,5,10] rfl ?_
 (conv=>whnf);refine ⟨rfl,?_⟩
 refine CW.cond rfl (fun h1 => ?_) (fun h1 => ?_)
 ·skip
  have hlt : i < t.size := by simpa using h1
  refine CW.skip ?_
  refine CW.keep 31 [0,1,5] rfl ?_;(conv=>whnf);refine ⟨?_⟩
  refine CW.seq ?_
  refine CW.block ?_
  refine CW.seq ?_
  refine CW.region ?_
  refine RW.v rfl (V.mv (d := .r (.v (.int .u32 s))) rfl rfl) ?_
  refine RW.k XK 31 2 rfl ?_
  (conv=>whnf);refine ⟨rfl,?_⟩
  refine RW.v rfl (V.idxStr (m := i) rfl (by kernel_rfl) rfl rfl hlt) ?_
  refine RW.v rfl (V.convInt (k := .u32) (k' := .u8) rfl (by kernel_rfl) (by kernel_rfl) rfl) ?_
  refine RW.v rfl (V.xorW rfl rfl rfl) ?_
  refine RW.v rfl (V.as (d := .r (.v (.int .u32 (xorW s (IntKind.u32.wrap (bat t i)))))) rfl rfl) ?_
  refine RW.nil ?_
  refine CW.keep 31 [0,1,5] rfl ?_;(conv=>whnf);refine ⟨?_⟩
  refine CW.k XK 31 1 [0,1,5,19] rfl ?_
  (conv=>whnf);refine ⟨rfl,?_⟩
  refine CW.block ?_
  refine CW.loopI 31 (fun (zz : Nat × Int) => match zz with | (k, r) => [(0, .r (.v (.int .u32 r))), (1, S t), (5, I (i : Int)), (19, I (k : Int))]) (fun (zz : Nat × Int) => match zz with | (k, r) => k ≤ 8 ∧ r = sumBits k (xorW s (IntKind.u32.wrap (bat t i)))) (fun (zz : Nat × Int) => match zz with | (k, r) => 8 - k) (0, _) rfl (Le.c rfl <| Le.c rfl <| Le.c rfl <| Le.c rfl <| Le.e) ⟨by omega, rfl⟩ ?_
  rintro ⟨k, r⟩ ⟨hk8, hk⟩
  refine CW.k XK 31 1 [0,1,5,19,20] rfl ?_
  (conv=>whnf);refine ⟨rfl,?_⟩
  refine CW.seq ?_
  refine CW.cond rfl (fun h2 => ?_) (fun h2 => ?_)
  ·skip
   have hk9 := of_decide_eq_true h2
   refine CW.skip ?_
   refine CW.keep 31 [0,1,5,19] rfl ?_;(conv=>whnf);refine ⟨?_⟩
   refine CW.seq ?_
   refine CW.block ?_
   refine CW.seq ?_
   refine CW.region ?_
   refine RW.v rfl (V.mv (d := .r (.v (.int .u32 r))) rfl rfl) ?_
   refine RW.v rfl (V.rem (k := .u32) rfl rfl rfl (by decide)) ?_
   refine RW.v rfl (V.cmpInt (k := .u32) rfl rfl rfl rfl) ?_
   refine RW.k XK 31 1 rfl ?_
   (conv=>whnf);refine ⟨rfl,?_⟩
   refine RW.nil ?_
   refine CW.keep 31 [0,1,5,6,19] rfl ?_;(conv=>whnf);refine ⟨?_⟩
   refine CW.seq ?_
   refine CW.region ?_
   refine RW.v rfl (V.mv (d := .r (.v (.int .u32 r))) rfl rfl) ?_
   refine RW.v rfl (V.quo (k := .u32) rfl rfl rfl (by decide)) ?_
   refine RW.v rfl (V.as (d := .r (.v (.int .u32 (IntKind.u32.wrap (Int.tdiv r 2))))) rfl rfl) ?_
   refine RW.nil ?_
   refine CW.keep 31 [0,1,5,6,19] rfl ?_;(conv=>whnf);refine ⟨?_⟩
   refine CW.k XK 31 1 [0,1,5,19,26] rfl ?_
   (conv=>whnf);refine ⟨rfl,?_⟩
   refine CW.cond rfl (fun h3 => ?_) (fun h3 => ?_)
   ·skip
    have hod := h3
    refine CW.region ?_
    refine RW.v rfl (V.mv (d := .r (.v (.int .u32 (IntKind.u32.wrap (Int.tdiv r 2))))) rfl rfl) ?_
    refine RW.v rfl (V.xorW rfl rfl rfl) ?_
    refine RW.v rfl (V.as (d := .r (.v (.int .u32 (xorW (IntKind.u32.wrap (Int.tdiv r 2)) 3558460437)))) rfl rfl) ?_
    refine RW.nil ?_
    refine CW.keep 31 [0,1,5,19] rfl ?_;(conv=>whnf);refine ⟨?_⟩
    refine CW.region ?_
    refine RW.v rfl (V.inc rfl rfl rfl (show k < 8 by omega) (by simp only [maxLen]; omega)) ?_
    refine RW.k XK 31 1 rfl ?_
    (conv=>whnf);refine ⟨rfl,?_⟩
    refine RW.nil ?_
    exact ⟨(k + 1, _), by simp only []; omega, ⟨by omega, by first | exact sumB1 hk hod | exact sumB0 hk hod⟩, rfl, Le.c rfl <| Le.c rfl <| Le.c rfl <| Le.c rfl <| Le.e⟩
   ·skip
    have hod := h3
    refine CW.skip ?_
    refine CW.keep 31 [0,1,5,19] rfl ?_;(conv=>whnf);refine ⟨?_⟩
    refine CW.region ?_
    refine RW.v rfl (V.inc rfl rfl rfl (show k < 8 by omega) (by simp only [maxLen]; omega)) ?_
    refine RW.k XK 31 1 rfl ?_
    (conv=>whnf);refine ⟨rfl,?_⟩
    refine RW.nil ?_
    exact ⟨(k + 1, _), by simp only []; omega, ⟨by omega, by first | exact sumB1 hk hod | exact sumB0 hk hod⟩, rfl, Le.c rfl <| Le.c rfl <| Le.c rfl <| Le.c rfl <| Le.e⟩
  ·skip
   have hk9 := of_decide_eq_false h2
   refine CW.exit ?_
   refine CW.keep 31 [0,1,5] rfl ?_;(conv=>whnf);refine ⟨?_⟩
   refine CW.region ?_
   refine RW.k XK 31 1 rfl ?_
   (conv=>whnf);refine ⟨rfl,?_⟩
   refine RW.v rfl (V.inc rfl rfl rfl hlt ht) ?_
   refine RW.k XK 31 1 rfl ?_
   (conv=>whnf);refine ⟨rfl,?_⟩
   refine RW.nil ?_
   exact ⟨(i + 1, _), by simp only []; omega, ⟨by omega, by rw [sumN, ← hr, hk, show k = 8 by omega]⟩, rfl, Le.c rfl <| Le.c rfl <| Le.c rfl <| Le.e⟩
 ·skip
  have hge : ¬ i < t.size := by simpa using h1
  refine CW.exit ?_
  refine CW.keep 31 [0] rfl ?_;(conv=>whnf);refine ⟨?_⟩
  refine CW.seq ?_
  refine CW.region ?_
  refine RW.v rfl (V.mv (d := .r (.v (.int .u32 s))) rfl rfl) ?_
  refine RW.v rfl (V.as (d := .r (.v (.int .u32 s))) rfl rfl) ?_
  refine RW.nil ?_
  refine CW.keep 31 [4] rfl ?_;(conv=>whnf);refine ⟨?_⟩
  refine CW.ret ?_
  exact Post.one (RV.v rfl (by rw [hr, show i = t.size by omega])) (AOs.r (AOs.r AOs.e))
set_option maxHeartbeats 4000000 in
theorem spec_SumMore_fn (x : Int) (t : ByteArray) (ht : t.size ≤ maxLen) : Eng.Fn E.P 226 [.one (.r (.v (.int .u32 x))), .one (.r (.v (.string t)))] (.one (.one (.w (.v (.int .u32 (sumN x t t.size)))))) [.one (.r (.v (.int .u32 x))), .one (.r (.v (.string t)))] := by
 refine Eng.Fn.intro (E := E) (rvs := [.tmp 4]) Tryz.func226 rfl rfl rfl (by simp [outSlots, moved, rvSlot, sl]) ?_
 intro B g bo
 refine CW.keep 33 [0,1] rfl ?_;(conv=>whnf);refine ⟨?_⟩
 refine CW.seq ?_
 refine CW.region ?_
 refine RW.v rfl (V.as (d := .r (.v (.int .u32 0))) rfl rfl) ?_
 refine RW.nil ?_
 refine CW.keep 33 [0,1] rfl ?_;(conv=>whnf);refine ⟨?_⟩
 refine CW.seq ?_
 refine CW.k XK 33 1 [0,1,5] rfl ?_
 (conv=>whnf);refine ⟨rfl,?_⟩
 refine CW.block ?_
 refine CW.loopI 33 (fun (zz : Nat × Int) => match zz with | (i, s) => [(0, .r (.v (.int .u32 s))), (1, S t), (5, I (i : Int))]) (fun (zz : Nat × Int) => match zz with | (i, s) => i ≤ t.size ∧ s = sumN x t i) (fun (zz : Nat × Int) => match zz with | (i, s) => t.size - i) (0, _) rfl (Le.c rfl <| Le.c rfl <| Le.c rfl <| Le.e) ⟨by omega, rfl⟩ ?_
 rintro ⟨i, s⟩ ⟨hb, hr⟩
 refine CW.seq ?_
 refine CW.k XK 33 1 [0,1,5,11] rfl ?_
 (conv=>whnf);refine ⟨rfl,?_⟩
 refine CW.cond rfl (fun h1 => ?_) (fun h1 => ?_)
 ·skip
  have hlt : i < t.size := by simpa using h1
  refine CW.skip ?_
  refine CW.keep 33 [0,1,5] rfl ?_;(conv=>whnf);refine ⟨?_⟩
  refine CW.seq ?_
  refine CW.block ?_
  refine CW.seq ?_
  refine CW.region ?_
  refine RW.v rfl (V.mv (d := .r (.v (.int .u32 s))) rfl rfl) ?_
  refine RW.k XK 33 2 rfl ?_
  (conv=>whnf);refine ⟨rfl,?_⟩
  refine RW.v rfl (V.idxStr (m := i) rfl (by kernel_rfl) rfl rfl hlt) ?_
  refine RW.v rfl (V.convInt (k := .u32) (k' := .u8) rfl (by kernel_rfl) (by kernel_rfl) rfl) ?_
  refine RW.v rfl (V.xorW rfl rfl rfl) ?_
  refine RW.v rfl (V.as (d := .r (.v (.int .u32 (xorW s (IntKind.u32.wrap (bat t i)))))) rfl rfl) ?_
  refine RW.nil ?_
  refine CW.keep 33 [0,1,5] rfl ?_;(conv=>whnf);refine ⟨?_⟩
  refine CW.k XK 33 1 [0,1,5,6] rfl ?_
  (conv=>whnf);refine ⟨rfl,?_⟩
  refine CW.block ?_
  refine CW.loopI 33 (fun (zz : Nat × Int) => match zz with | (k, r) => [(0, .r (.v (.int .u32 r))), (1, S t), (5, I (i : Int)), (6, I (k : Int))]) (fun (zz : Nat × Int) => match zz with | (k, r) => k ≤ 8 ∧ r = sumBits k (xorW s (IntKind.u32.wrap (bat t i)))) (fun (zz : Nat × Int) => match zz with | (k, r) => 8 - k) (0, _) rfl (Le.c rfl <| Le.c rfl <| Le.c rfl <| Le.c rfl <| Le.e) ⟨by omega, rfl⟩ ?_
  rintro ⟨k, r⟩ ⟨hk8, hk⟩
  refine CW.seq ?_
  refine CW.k XK 33 1 [0,1,5,6,21] rfl ?_
  (conv=>whnf);refine ⟨rfl,?_⟩
  refine CW.cond rfl (fun h2 => ?_) (fun h2 => ?_)
  ·skip
   have hk9 := of_decide_eq_true h2
   refine CW.skip ?_
   refine CW.keep 33 [0,1,5,6] rfl ?_;(conv=>whnf);refine ⟨?_⟩
   refine CW.seq ?_
   refine CW.block ?_
   refine CW.seq ?_
   refine CW.region ?_
   refine RW.v rfl (V.mv (d := .r (.v (.int .u32 r))) rfl rfl) ?_
   refine RW.v rfl (V.rem (k := .u32) rfl rfl rfl (by decide)) ?_
   refine RW.v rfl (V.cmpInt (k := .u32) rfl rfl rfl rfl) ?_
   refine RW.k XK 33 1 rfl ?_
   (conv=>whnf);refine ⟨rfl,?_⟩
   refine RW.nil ?_
   refine CW.keep 33 [0,1,5,6,7] rfl ?_;(conv=>whnf);refine ⟨?_⟩
   refine CW.seq ?_
   refine CW.region ?_
   refine RW.v rfl (V.mv (d := .r (.v (.int .u32 r))) rfl rfl) ?_
   refine RW.v rfl (V.quo (k := .u32) rfl rfl rfl (by decide)) ?_
   refine RW.v rfl (V.as (d := .r (.v (.int .u32 (IntKind.u32.wrap (Int.tdiv r 2))))) rfl rfl) ?_
   refine RW.nil ?_
   refine CW.keep 33 [0,1,5,6,7] rfl ?_;(conv=>whnf);refine ⟨?_⟩
   refine CW.k XK 33 1 [0,1,5,6,29] rfl ?_
   (conv=>whnf);refine ⟨rfl,?_⟩
   refine CW.cond rfl (fun h3 => ?_) (fun h3 => ?_)
   ·skip
    have hod := h3
    refine CW.region ?_
    refine RW.v rfl (V.mv (d := .r (.v (.int .u32 (IntKind.u32.wrap (Int.tdiv r 2))))) rfl rfl) ?_
    refine RW.v rfl (V.xorW rfl rfl rfl) ?_
    refine RW.v rfl (V.as (d := .r (.v (.int .u32 (xorW (IntKind.u32.wrap (Int.tdiv r 2)) 3558460437)))) rfl rfl) ?_
    refine RW.nil ?_
    refine CW.keep 33 [0,1,5,6] rfl ?_;(conv=>whnf);refine ⟨?_⟩
    refine CW.region ?_
    refine RW.k XK 33 1 rfl ?_
    (conv=>whnf);refine ⟨rfl,?_⟩
    refine RW.v rfl (V.inc rfl rfl rfl (show k < 8 by omega) (by simp only [maxLen]; omega)) ?_
    refine RW.k XK 33 1 rfl ?_
    (conv=>whnf);refine ⟨rfl,?_⟩
    refine RW.nil ?_
    exact ⟨(k + 1, _), by simp only []; omega, ⟨by omega, by first | exact sumB1 hk hod | exact sumB0 hk hod⟩, rfl, Le.c rfl <| Le.c rfl <| Le.c rfl <| Le.c rfl <| Le.e⟩
   ·skip
    have hod := h3
    refine CW.skip ?_
    refine CW.keep 33 [0,1,5,6] rfl ?_;(conv=>whnf);refine ⟨?_⟩
    refine CW.region ?_
    refine RW.k XK 33 1 rfl ?_
    (conv=>whnf);refine ⟨rfl,?_⟩
    refine RW.v rfl (V.inc rfl rfl rfl (show k < 8 by omega) (by simp only [maxLen]; omega)) ?_
    refine RW.k XK 33 1 rfl ?_
    (conv=>whnf);refine ⟨rfl,?_⟩
    refine RW.nil ?_
    exact ⟨(k + 1, _), by simp only []; omega, ⟨by omega, by first | exact sumB1 hk hod | exact sumB0 hk hod⟩, rfl, Le.c rfl <| Le.c rfl <| Le.c rfl <| Le.c rfl <| Le.e⟩
  ·skip
   have hk9 := of_decide_eq_false h2
   refine CW.exit ?_
   refine CW.keep 33 [0,1,5] rfl ?_;(conv=>whnf);refine ⟨?_⟩
   refine CW.region ?_
   refine RW.k XK 33 1 rfl ?_
   (conv=>whnf);refine ⟨rfl,?_⟩
   refine RW.v rfl (V.inc rfl rfl rfl hlt ht) ?_
   refine RW.k XK 33 1 rfl ?_
   (conv=>whnf);refine ⟨rfl,?_⟩
   refine RW.nil ?_
   exact ⟨(i + 1, _), by simp only []; omega, ⟨by omega, by rw [sumN, ← hr, hk, show k = 8 by omega]⟩, rfl, Le.c rfl <| Le.c rfl <| Le.c rfl <| Le.e⟩
 ·skip
  have hge : ¬ i < t.size := by simpa using h1
  refine CW.exit ?_
  refine CW.keep 33 [0] rfl ?_;(conv=>whnf);refine ⟨?_⟩
  refine CW.seq ?_
  refine CW.region ?_
  refine RW.v rfl (V.mv (d := .r (.v (.int .u32 s))) rfl rfl) ?_
  refine RW.v rfl (V.as (d := .r (.v (.int .u32 s))) rfl rfl) ?_
  refine RW.nil ?_
  refine CW.keep 33 [4] rfl ?_;(conv=>whnf);refine ⟨?_⟩
  refine CW.ret ?_
  exact Post.one (RV.v rfl (by rw [hr, show i = t.size by omega])) (AOs.r (AOs.r AOs.e))
set_option maxHeartbeats 4000000 in
theorem impl_SumOf_fn (t : ByteArray) (ht : t.size ≤ maxLen) : Eng.Fn E.P 175 [.one (.r (.v (.string t)))] (.one (.one (.w (.v (.int .u32 (sumN 4294967295 t t.size)))))) [.one (.r (.v (.string t)))] := by
 refine Eng.Fn.intro (E := E) (rvs := [.tmp 2]) Tryz.func175 rfl rfl rfl (by simp [outSlots, moved, rvSlot, sl]) ?_
 intro B g bo
 refine CW.keep 5 [0] rfl ?_;(conv=>whnf);refine ⟨?_⟩
 refine CW.seq ?_
 refine CW.region ?_
 refine RW.v rfl (V.as (d := .r (.v (.int .u32 0))) rfl rfl) ?_
 refine RW.nil ?_
 refine CW.keep 5 [0] rfl ?_;(conv=>whnf);refine ⟨?_⟩
 refine CW.seq ?_
 refine CW.region ?_
 refine RW.k XK 5 1 rfl ?_
 (conv=>whnf);refine ⟨rfl,?_⟩
 refine RW.call rfl (impl_SumMore_fn 4294967295 t ht) rfl (.cons (.one (.r .r)) (.cons (.one (.r .r)) (.nil))) fun g1 => ?_
 refine RW.v rfl (V.as (d := .r (.v (.int .u32 (sumN 4294967295 t t.size)))) rfl rfl) ?_
 refine RW.nil ?_
 refine CW.keep 5 [2] rfl ?_;(conv=>whnf);refine ⟨?_⟩
 refine CW.ret ?_
 exact Post.one (RV.v rfl (by rfl)) (AOs.r AOs.e)
set_option maxHeartbeats 4000000 in
theorem spec_SumOf_fn (t : ByteArray) (ht : t.size ≤ maxLen) : Eng.Fn E.P 199 [.one (.r (.v (.string t)))] (.one (.one (.w (.v (.int .u32 (sumN 4294967295 t t.size)))))) [.one (.r (.v (.string t)))] := by
 refine Eng.Fn.intro (E := E) (rvs := [.tmp 2]) Tryz.func199 rfl rfl rfl (by simp [outSlots, moved, rvSlot, sl]) ?_
 intro B g bo
 refine CW.keep 5 [0] rfl ?_;(conv=>whnf);refine ⟨?_⟩
 refine CW.seq ?_
 refine CW.region ?_
 refine RW.v rfl (V.as (d := .r (.v (.int .u32 0))) rfl rfl) ?_
 refine RW.nil ?_
 refine CW.keep 5 [0] rfl ?_;(conv=>whnf);refine ⟨?_⟩
 refine CW.seq ?_
 refine CW.region ?_
 refine RW.k XK 5 1 rfl ?_
 (conv=>whnf);refine ⟨rfl,?_⟩
 refine RW.call rfl (spec_SumMore_fn 4294967295 t ht) rfl (.cons (.one (.r .r)) (.cons (.one (.r .r)) (.nil))) fun g1 => ?_
 refine RW.v rfl (V.as (d := .r (.v (.int .u32 (sumN 4294967295 t t.size)))) rfl rfl) ?_
 refine RW.nil ?_
 refine CW.keep 5 [2] rfl ?_;(conv=>whnf);refine ⟨?_⟩
 refine CW.ret ?_
 exact Post.one (RV.v rfl (by rfl)) (AOs.r AOs.e)
set_option maxHeartbeats 4000000 in
theorem spec_l02Four_fn (x : Int) : Eng.Fn E.P 198 [.one (.r (.v (.int .u32 x)))] (.one (.one (.w (.v (.string (fourN x)))))) [.one (.r (.v (.int .u32 x)))] := by
 refine Eng.Fn.intro (E := E) (rvs := [.tmp 2]) Tryz.func198 rfl rfl rfl (by simp [outSlots, moved, rvSlot, sl]) ?_
 intro B g bo
 refine CW.keep 16 [0] rfl ?_;(conv=>whnf);refine ⟨?_⟩
 refine CW.k XK 16 1 [0] rfl ?_
 (conv=>whnf);refine ⟨rfl,?_⟩
 refine CW.seq ?_
 refine CW.region ?_
 refine RW.v rfl (V.mv (d := .r (.v (.int .u32 x))) rfl rfl) ?_
 refine RW.v rfl (V.shrW rfl rfl rfl (by decide)) ?_
 refine RW.v rfl (V.convInt (k := .u8) (k' := .u32) rfl (by kernel_rfl) (by kernel_rfl) rfl) ?_
 refine RW.v rfl (V.mv (d := .r (.v (.int .u32 x))) rfl rfl) ?_
 refine RW.v rfl (V.shrW rfl rfl rfl (by decide)) ?_
 refine RW.v rfl (V.convInt (k := .u8) (k' := .u32) rfl (by kernel_rfl) (by kernel_rfl) rfl) ?_
 refine RW.v rfl (V.mv (d := .r (.v (.int .u32 x))) rfl rfl) ?_
 refine RW.v rfl (V.shrW rfl rfl rfl (by decide)) ?_
 refine RW.v rfl (V.convInt (k := .u8) (k' := .u32) rfl (by kernel_rfl) (by kernel_rfl) rfl) ?_
 refine RW.v rfl (V.mv (d := .r (.v (.int .u32 x))) rfl rfl) ?_
 refine RW.v rfl (V.convInt (k := .u8) (k' := .u32) rfl (by kernel_rfl) (by kernel_rfl) rfl) ?_
 refine RW.buildV (c := cU) (L := [(IntKind.u8.wrap (shrW x 24)), (IntKind.u8.wrap (shrW x 16)), (IntKind.u8.wrap (shrW x 8)), (IntKind.u8.wrap x)]) (vs := [(.int .u8 (IntKind.u8.wrap (shrW x 24))), (.int .u8 (IntKind.u8.wrap (shrW x 16))), (.int .u8 (IntKind.u8.wrap (shrW x 8))), (.int .u8 (IntKind.u8.wrap x))]) [.tmp 5, .tmp 8, .tmp 11, .tmp 13] rfl rfl rfl rfl rfl rfl rfl rfl rfl rfl (by decide) (by decide) rfl rfl fun X1 => ?_
 refine RW.v rfl (V.bytesStr (l := ([(IntKind.u8.wrap (shrW x 24)), (IntKind.u8.wrap (shrW x 16)), (IntKind.u8.wrap (shrW x 8)), (IntKind.u8.wrap x)] : List Int)) rfl rfl rfl (by kernel_rfl) (by kernel_rfl) (.al (k := none) (i := 14) (sz := 1) (V := X1) rfl rfl nofun)) ?_
 refine RW.k XK 16 1 rfl ?_
 (conv=>whnf);refine ⟨rfl,?_⟩
 refine RW.nil ?_
 refine CW.keep 16 [2] rfl ?_;(conv=>whnf);refine ⟨?_⟩
 refine CW.ret ?_
 exact Post.one (RV.s rfl (by rfl)) (AOs.r AOs.e)
set_option maxHeartbeats 4000000 in
theorem impl_highFirst_fn (n : Int) (k : Int) (hk : k = 4) : Eng.Fn E.P 174 [.one (.r (.v (.int .i64 n))), .one (.r (.v (.int .i64 k)))] (.one (.one (.w (.v (.string (bytesOf (hf4 n))))))) [.one (.r (.v (.int .i64 n))), .one (.r (.v (.int .i64 k)))] := by
 refine Eng.Fn.intro (E := E) (rvs := [.tmp 4]) Tryz.func174 rfl rfl rfl (by simp [outSlots, moved, rvSlot, sl]) ?_
 intro B g bo
 refine CW.keep 25 [0,1] rfl ?_;(conv=>whnf);refine ⟨?_⟩
 have hk2 : k = ((4 : Nat) : Int) := hk
 have hk3 : IntKind.i64.wrap (k - 1) = ((4 : Nat) : Int) - 1 := by rw [hk]; rfl
 refine CW.k XK 25 1 [0,1] rfl ?_
 (conv=>whnf);refine ⟨rfl,?_⟩
 refine CW.seq ?_
 refine CW.region ?_
 refine RW.k XK 25 1 rfl ?_
 (conv=>whnf);refine ⟨rfl,?_⟩
 refine RW.makeS (n := 4) (c := cU) 0 rfl rfl rfl rfl rfl (congrArg (fun z : Int => D.r (.v (.int .i64 z))) hk2) (congrArg (fun z : Int => D.r (.v (.int .i64 z))) hk2) rfl (ZT.v ZT.e) (by show 1 * 4 ≤ 281474976710656; omega) (by simp only [maxLen]; omega) fun X1 => ?_
 refine RW.assignMove rfl rfl rfl (by decide) (Nat.le_of_ble_eq_true rfl) (Nat.le_of_ble_eq_true rfl) ?_
 refine RW.nil ?_
 refine CW.keep 25 [0,1,5] rfl ?_;(conv=>whnf);refine ⟨?_⟩
 refine CW.seq ?_
 refine CW.k XK 25 1 [0,5,6] rfl ?_
 (conv=>whnf);refine ⟨rfl,?_⟩
 refine CW.block ?_
 refine CW.loopI 25 (fun (zz : Nat × Int × List Int × Value) => match zz with | (j, m, l, X) => [(0, I m), (5, .w (sl 1 cU l) X), (6, I ((j : Int) - 1))]) (fun (zz : Nat × Int × List Int × Value) => match zz with | (j, m, l, X) => HfP n j m l) (fun (zz : Nat × Int × List Int × Value) => match zz with | (j, m, l, X) => j) (4, _, _, _) rfl (Le.c rfl <| Le.c rfl <| Le.c (congrArg I hk3) <| Le.e) (HfP.init n) ?_
 rintro ⟨j, m, l, X⟩ hP
 refine CW.seq ?_
 refine CW.k XK 25 1 [0,5,6,12] rfl ?_
 (conv=>whnf);refine ⟨rfl,?_⟩
 refine CW.cond rfl (fun h2 => ?_) (fun h2 => ?_)
 ·skip
  have hge := of_decide_eq_true h2
  refine CW.skip ?_
  refine CW.keep 25 [0,5,6] rfl ?_;(conv=>whnf);refine ⟨?_⟩
  refine CW.seq ?_
  refine CW.block ?_
  refine CW.seq ?_
  refine CW.region ?_
  refine RW.k XK 25 5 rfl ?_
  (conv=>whnf);refine ⟨rfl,?_⟩
  refine RW.v rfl (V.indexWZ (m := (j - 1)) rfl rfl rfl rfl rfl rfl rfl (by omega) (by rw [hP.len]; have h9 := hP.j4; omega)) ?_
  refine RW.storeS1 (v := (IntKind.u8.wrap (andI m 255))) (c := cU) (u := .v (.int .u8 (IntKind.u8.wrap (andI m 255)))) rfl rfl rfl rfl rfl rfl rfl (.inl rfl) rfl cU.len (by rw [hP.len]; have h9 := hP.j4; omega) rfl ?_
  refine RW.nil ?_
  refine CW.keep 25 [0,5,6] rfl ?_;(conv=>whnf);refine ⟨?_⟩
  refine CW.region ?_
  refine RW.k XK 25 3 rfl ?_
  (conv=>whnf);refine ⟨rfl,?_⟩
  refine RW.nil ?_
  refine CW.keep 25 [0,5,6] rfl ?_;(conv=>whnf);refine ⟨?_⟩
  refine CW.region ?_
  refine RW.k XK 25 3 rfl ?_
  (conv=>whnf);refine ⟨rfl,?_⟩
  refine RW.nil ?_
  exact ⟨(j - 1, _, _, _), by simp only []; omega, (hP.step (by omega)), rfl, Le.c rfl <| Le.c rfl <| Le.c (congrArg I (by have h9 := hP.j4; rw [wrap_small (by omega) (by omega)]; omega)) <| Le.e⟩
 ·skip
  have hge := of_decide_eq_false h2
  refine CW.exit ?_
  refine CW.keep 25 [5] rfl ?_;(conv=>whnf);refine ⟨?_⟩
  refine CW.seq ?_
  refine CW.region ?_
  refine RW.k XK 25 1 rfl ?_
  (conv=>whnf);refine ⟨rfl,?_⟩
  refine RW.v rfl (V.bytesStr (l := l) rfl rfl rfl (by kernel_rfl) (by kernel_rfl) (.al (k := none) (i := 5) (sz := 1) (V := X) rfl rfl nofun)) ?_
  refine RW.k XK 25 1 rfl ?_
  (conv=>whnf);refine ⟨rfl,?_⟩
  refine RW.nil ?_
  refine CW.keep 25 [4] rfl ?_;(conv=>whnf);refine ⟨?_⟩
  refine CW.ret ?_
  exact Post.one (RV.s rfl (by rw [hP.fin (by omega)])) (AOs.r (AOs.r AOs.e))
set_option maxHeartbeats 4000000 in
theorem impl_Sealed_fn (t : ByteArray) : Eng.Fn E.P 112 [.one (.r (.v (.string t)))] (.tup [.one (.w (.v (.string ((sealT t).1)))), .one (.w (.v (.bool ((sealT t).2))))]) [.one (.r (.v (.string t)))] := by
 refine Eng.Fn.intro (E := E) (rvs := [.tmp 2, .tmp 3]) Tryz.func112 rfl rfl rfl (by simp [outSlots, moved, rvSlot, sl]) ?_
 intro B g bo
 refine CW.keep 13 [0] rfl ?_;(conv=>whnf);refine ⟨?_⟩
 refine CW.k XK 13 1 [0] rfl ?_
 (conv=>whnf);refine ⟨rfl,?_⟩
 refine CW.seq ?_
 refine CW.k XK 13 1 [0,6] rfl ?_
 (conv=>whnf);refine ⟨rfl,?_⟩
 refine CW.cond rfl (fun h1 => ?_) (fun h1 => ?_)
 ·skip
  have hgt : (t.size : Int) > 20000 := of_decide_eq_true h1
  refine CW.k XK 13 1 [2,3] rfl ?_
  (conv=>whnf);refine ⟨rfl,?_⟩
  refine CW.ret ?_
  exact Post.tup (by decide) (RVs.c (RV.s rfl (by rw [sealT, if_pos hgt])) (RVs.c (RV.b rfl (by rw [sealT, if_pos hgt])) RVs.e)) (AOs.r AOs.e)
 ·skip
  have hgt : ¬ (t.size : Int) > 20000 := of_decide_eq_false h1
  refine CW.skip ?_
  refine CW.keep 13 [0] rfl ?_;(conv=>whnf);refine ⟨?_⟩
  refine CW.seq ?_
  refine CW.region ?_
  refine RW.k XK 13 2 rfl ?_
  (conv=>whnf);refine ⟨rfl,?_⟩
  refine RW.call rfl (impl_SumOf_fn t (by simp only [maxLen]; omega)) rfl (.cons (.one (.r .r)) (.nil)) fun g2 => ?_
  refine RW.v rfl (V.convInt (k := .i64) (k' := .u32) rfl (by kernel_rfl) (by kernel_rfl) rfl) ?_
  refine RW.call rfl (impl_highFirst_fn (IntKind.i64.wrap (sumN 4294967295 t t.size)) 4 rfl) rfl (.cons (.one (.r .r)) (.cons (.one (.r .r)) (.nil))) fun g3 => ?_
  refine RW.v rfl (V.cat rfl rfl rfl (by rw [sum_hf]; have h9 := sumT_size t; simp only [maxLen]; omega)) ?_
  refine RW.k XK 13 2 rfl ?_
  (conv=>whnf);refine ⟨rfl,?_⟩
  refine RW.nil ?_
  refine CW.keep 13 [2,3] rfl ?_;(conv=>whnf);refine ⟨?_⟩
  refine CW.ret ?_
  exact Post.tup (by decide) (RVs.c (RV.s rfl (by rw [sealT, if_neg hgt]; exact congrArg (t ++ ·) (sum_hf t))) (RVs.c (RV.b rfl (by rw [sealT, if_neg hgt])) RVs.e)) (AOs.r AOs.e)
set_option maxHeartbeats 4000000 in
theorem spec_Sealed_fn (t : ByteArray) : Eng.Fn E.P 205 [.one (.r (.v (.string t)))] (.tup [.one (.w (.v (.string ((sealT t).1)))), .one (.w (.v (.bool ((sealT t).2))))]) [.one (.r (.v (.string t)))] := by
 refine Eng.Fn.intro (E := E) (rvs := [.tmp 2, .tmp 3]) Tryz.func205 rfl rfl rfl (by simp [outSlots, moved, rvSlot, sl]) ?_
 intro B g bo
 refine CW.keep 12 [0] rfl ?_;(conv=>whnf);refine ⟨?_⟩
 refine CW.k XK 12 1 [0] rfl ?_
 (conv=>whnf);refine ⟨rfl,?_⟩
 refine CW.seq ?_
 refine CW.k XK 12 1 [0,6] rfl ?_
 (conv=>whnf);refine ⟨rfl,?_⟩
 refine CW.cond rfl (fun h1 => ?_) (fun h1 => ?_)
 ·skip
  have hgt : (t.size : Int) > 20000 := of_decide_eq_true h1
  refine CW.k XK 12 1 [2,3] rfl ?_
  (conv=>whnf);refine ⟨rfl,?_⟩
  refine CW.ret ?_
  exact Post.tup (by decide) (RVs.c (RV.s rfl (by rw [sealT, if_pos hgt])) (RVs.c (RV.b rfl (by rw [sealT, if_pos hgt])) RVs.e)) (AOs.r AOs.e)
 ·skip
  have hgt : ¬ (t.size : Int) > 20000 := of_decide_eq_false h1
  refine CW.skip ?_
  refine CW.keep 12 [0] rfl ?_;(conv=>whnf);refine ⟨?_⟩
  refine CW.seq ?_
  refine CW.region ?_
  refine RW.k XK 12 2 rfl ?_
  (conv=>whnf);refine ⟨rfl,?_⟩
  refine RW.call rfl (spec_SumOf_fn t (by simp only [maxLen]; omega)) rfl (.cons (.one (.r .r)) (.nil)) fun g2 => ?_
  refine RW.call rfl (spec_l02Four_fn (sumN 4294967295 t t.size)) rfl (.cons (.one (.r .r)) (.nil)) fun g3 => ?_
  refine RW.v rfl (V.cat rfl rfl rfl (by have h9 := sumT_size t; simp only [sumT] at h9; simp only [maxLen]; omega)) ?_
  refine RW.k XK 12 2 rfl ?_
  (conv=>whnf);refine ⟨rfl,?_⟩
  refine RW.nil ?_
  refine CW.keep 12 [2,3] rfl ?_;(conv=>whnf);refine ⟨?_⟩
  refine CW.ret ?_
  exact Post.tup (by decide) (RVs.c (RV.s rfl (by rw [sealT, if_neg hgt]; rfl)) (RVs.c (RV.b rfl (by rw [sealT, if_neg hgt])) RVs.e)) (AOs.r AOs.e)
set_option maxHeartbeats 4000000 in
theorem impl_Unsealed_fn (t : ByteArray) (ht : t.size ≤ 1048576) : Eng.Fn E.P 158 [.one (.r (.v (.string t)))] (.tup [.one (.w (.v (.string ((unsT t).1)))), .one (.w (.v (.bool ((unsT t).2))))]) [.one (.r (.v (.string t)))] := by
 refine Eng.Fn.intro (E := E) (rvs := [.tmp 2, .tmp 3]) Tryz.func158 rfl rfl rfl (by simp [outSlots, moved, rvSlot, sl]) ?_
 intro B g bo
 refine CW.keep 29 [0] rfl ?_;(conv=>whnf);refine ⟨?_⟩
 have hsz : IntKind.i64.wrap ((t.size : Int) - 4) = (t.size : Int) - 4 := by rw [IntKind.wrap_i64]; omega
 refine CW.k XK 29 2 [0,4] rfl ?_
 (conv=>whnf);refine ⟨rfl,?_⟩
 refine CW.seq ?_
 refine CW.k XK 29 1 [0,4,11] rfl ?_
 (conv=>whnf);refine ⟨rfl,?_⟩
 refine CW.cond rfl (fun h1 => ?_) (fun h1 => ?_)
 ·skip
  have hlo := of_decide_eq_true h1
  refine CW.k XK 29 1 [2,3] rfl ?_
  (conv=>whnf);refine ⟨rfl,?_⟩
  refine CW.ret ?_
  exact Post.tup (by decide) (RVs.c (RV.s rfl (by rw [uns_lo (by rw [hsz] at hlo; omega)])) (RVs.c (RV.b rfl (by rw [uns_lo (by rw [hsz] at hlo; omega)])) RVs.e)) (AOs.r AOs.e)
 ·skip
  have hlo := of_decide_eq_false h1
  have hg4 : 4 ≤ t.size := by rw [hsz] at hlo; omega
  refine CW.skip ?_
  refine CW.keep 29 [0,4] rfl ?_;(conv=>whnf);refine ⟨?_⟩
  refine CW.seq ?_
  refine CW.region ?_
  refine RW.k XK 29 2 rfl ?_
  (conv=>whnf);refine ⟨rfl,?_⟩
  refine RW.v rfl (V.strSlice (l := 0) (h := (IntKind.i64.wrap ((t.size : Int) - 4))) rfl (by kernel_rfl) rfl (.inl ⟨rfl, rfl⟩) (.inr ⟨_, _, rfl, rfl⟩) (by rw [hsz]; omega)) ?_
  refine RW.call rfl (impl_Sealed_fn (t.extract (0 : Int).toNat (IntKind.i64.wrap ((t.size : Int) - 4)).toNat)) rfl (.cons (.one (.r .r)) (.nil)) fun g2 => ?_
  refine RW.k XK 29 5 rfl ?_
  (conv=>whnf);refine ⟨rfl,?_⟩
  refine RW.nil ?_
  refine CW.keep 29 [0,4,5,6] rfl ?_;(conv=>whnf);refine ⟨?_⟩
  refine CW.seq ?_
  refine CW.seqJ 29 (fun (v3 : Bool) => [(0, S t), (4, I (IntKind.i64.wrap ((t.size : Int) - 4))), (25, Bo v3)]) (fun v3 => v3 = ((!((sealT (t.extract (0 : Int).toNat (IntKind.i64.wrap ((t.size : Int) - 4)).toNat)).2)) || (!(((sealT (t.extract (0 : Int).toNat (IntKind.i64.wrap ((t.size : Int) - 4)).toNat)).1).toList == t.toList)))) ?_ ?_
  ·refine CW.region ?_
   refine RW.k XK 29 3 rfl ?_
   (conv=>whnf);refine ⟨rfl,?_⟩
   refine RW.gv rfl rfl rfl rfl (fun h4 => V.mv (d := S ((sealT (t.extract (0 : Int).toNat (IntKind.i64.wrap ((t.size : Int) - 4)).toNat)).1)) rfl rfl) (fun h4 => ?_) (fun h4 => ?_)
   ·skip
    refine RW.k XK 29 3 rfl ?_
    (conv=>whnf);refine ⟨rfl,?_⟩
    refine RW.nil ?_
    exact ⟨_, by first | rfl | (simp_all; done) | (simp_all; omega) | grind, rfl, Le.of rfl⟩
   ·skip
    refine RW.k XK 29 3 rfl ?_
    (conv=>whnf);refine ⟨rfl,?_⟩
    refine RW.nil ?_
    exact ⟨_, by first | rfl | (simp_all; done) | (simp_all; omega) | grind, rfl, Le.of rfl⟩
  ·intro v3 hv5
   refine CW.cond rfl (fun h6 => ?_) (fun h6 => ?_)
   ·skip
    have hvv := hv5.symm.trans h6
    refine CW.k XK 29 1 [2,3] rfl ?_
    (conv=>whnf);refine ⟨rfl,?_⟩
    refine CW.ret ?_
    exact Post.tup (by decide) (RVs.c (RV.s rfl (by rw [uns_i hg4 hsz, if_pos hvv])) (RVs.c (RV.b rfl (by rw [uns_i hg4 hsz, if_pos hvv])) RVs.e)) (AOs.r AOs.e)
   ·skip
    have hvv := hv5.symm.trans h6
    refine CW.skip ?_
    refine CW.keep 29 [0,4] rfl ?_;(conv=>whnf);refine ⟨?_⟩
    refine CW.seq ?_
    refine CW.region ?_
    refine RW.k XK 29 2 rfl ?_
    (conv=>whnf);refine ⟨rfl,?_⟩
    refine RW.v rfl (V.strSlice (l := 0) (h := (IntKind.i64.wrap ((t.size : Int) - 4))) rfl (by kernel_rfl) rfl (.inl ⟨rfl, rfl⟩) (.inr ⟨_, _, rfl, rfl⟩) (by rw [hsz]; omega)) ?_
    refine RW.k XK 29 2 rfl ?_
    (conv=>whnf);refine ⟨rfl,?_⟩
    refine RW.nil ?_
    refine CW.keep 29 [2,3] rfl ?_;(conv=>whnf);refine ⟨?_⟩
    refine CW.ret ?_
    exact Post.tup (by decide) (RVs.c (RV.s rfl (by rw [uns_i hg4 hsz, if_neg (by rw [hvv]; simp)])) (RVs.c (RV.b rfl (by rw [uns_i hg4 hsz, if_neg (by rw [hvv]; simp)])) RVs.e)) (AOs.r AOs.e)
set_option maxHeartbeats 4000000 in
theorem spec_Unsealed_fn (t : ByteArray) (ht : t.size ≤ 1048576) : Eng.Fn E.P 147 [.one (.r (.v (.string t)))] (.tup [.one (.w (.v (.string ((unsT t).1)))), .one (.w (.v (.bool ((unsT t).2))))]) [.one (.r (.v (.string t)))] := by
 refine Eng.Fn.intro (E := E) (rvs := [.tmp 2, .tmp 3]) Tryz.func147 rfl rfl rfl (by simp [outSlots, moved, rvSlot, sl]) ?_
 intro B g bo
 refine CW.keep 28 [0] rfl ?_;(conv=>whnf);refine ⟨?_⟩
 have hsz : IntKind.i64.wrap ((t.size : Int) - 4) = (t.size : Int) - 4 := by rw [IntKind.wrap_i64]; omega
 refine CW.k XK 28 2 [0,4] rfl ?_
 (conv=>whnf);refine ⟨rfl,?_⟩
 refine CW.seq ?_
 refine CW.anyP (fc := []) 28 (fun (v1 : Bool) => [(0, S t), (4, I (IntKind.i64.wrap ((t.size : Int) - 4))), (24, Bo v1)]) (fun (v1 : Bool) => v1 = ((decide ((IntKind.i64.wrap ((t.size : Int) - 4)) < 0) || decide ((IntKind.i64.wrap ((t.size : Int) - 4)) > 20000)) || (!((t.extract (IntKind.i64.wrap ((t.size : Int) - 4)).toNat (t.size : Int).toNat).toList == (fourN (sumN 4294967295 (t.extract (0 : Int).toNat (IntKind.i64.wrap ((t.size : Int) - 4)).toNat) (t.extract (0 : Int).toNat (IntKind.i64.wrap ((t.size : Int) - 4)).toNat).size)).toList)))) (fun K hK => ?_) ?_
 ·refine RA.start (m := 17) (ls' := (bt 17 0)) (by kernel_rfl) (by kernel_rfl) ?_
  refine RA.keep 28 [0,4] rfl ?_;(conv=>whnf);refine ⟨?_⟩
  refine RA.fr XK 28 14 [0,1,2] (bt 17 7) rfl rfl (by kernel_rfl) (Tell.of rfl) ?_
  (conv=>whnf);refine ⟨rfl,fun B=>?_⟩
  refine RA.keep 28 [0,4,10] rfl ?_;(conv=>whnf);refine ⟨?_⟩
  refine RA.bool 10 rfl (fun h2 => ?_) (fun h2 => ?_)
  ·skip
   refine RA.firstF (i := 3) (ls' := (bt 17 15)) (Tell.of rfl) (by kernel_rfl) rfl rfl rfl rfl rfl (.inl rfl) ?_
   refine RA.firstF (i := 4) (ls' := (bt 17 31)) (Tell.of rfl) (by kernel_rfl) rfl rfl rfl rfl rfl (.inl rfl) ?_
   refine RA.fr XK 28 10 [5,6] (bt 17 127) rfl rfl (by kernel_rfl) (Tell.of rfl) ?_
   (conv=>whnf);refine ⟨rfl,fun B=>?_⟩
   refine RA.firstF (i := 7) (ls' := (bt 17 255)) (Tell.of rfl) (by kernel_rfl) rfl rfl rfl rfl rfl (.inl rfl) ?_
   refine RA.firstF (i := 8) (ls' := (bt 17 511)) (Tell.of rfl) (by kernel_rfl) rfl rfl rfl rfl rfl (.inl rfl) ?_
   refine RA.firstF (i := 9) (ls' := (bt 17 1023)) (Tell.of rfl) (by kernel_rfl) rfl rfl rfl rfl rfl (.inl rfl) ?_
   refine RA.firstF (i := 10) (ls' := (bt 17 2047)) (Tell.of rfl) (by kernel_rfl) rfl rfl rfl rfl rfl (.inl rfl) ?_
   refine RA.keep 28 [0,4,14,17,18] rfl ?_;(conv=>whnf);refine ⟨?_⟩
   refine RA.firstF (i := 11) (ls' := (bt 17 4095)) (Tell.of rfl) (by kernel_rfl) rfl rfl rfl rfl rfl (.inl rfl) ?_
   refine RA.firstF (i := 12) (ls' := (bt 17 8191)) (Tell.of rfl) (by kernel_rfl) rfl rfl rfl rfl rfl (.inl rfl) ?_
   refine RA.firstF (i := 13) (ls' := (bt 17 16383)) (Tell.of rfl) (by kernel_rfl) rfl rfl rfl rfl rfl (.inl rfl) ?_
   refine RA.firstF (i := 14) (ls' := (bt 17 32767)) (Tell.of rfl) (by kernel_rfl) rfl rfl rfl rfl rfl (.inl rfl) ?_
   refine RA.firstF (i := 15) (ls' := (bt 17 65535)) (Tell.of rfl) (by kernel_rfl) rfl rfl rfl rfl rfl (.inl rfl) ?_
   refine RA.fr XK 28 0 [16] (bt 17 131071) rfl rfl (by kernel_rfl) (Tell.of rfl) ?_
   (conv=>whnf);refine ⟨rfl,fun B=>?_⟩
   exact RA.finH (Tell.of rfl) (by kernel_rfl) (hK _ _ (by first | rfl | (simp_all; done) | grind) rfl (Le.of rfl))
  ·skip
   refine RA.firstT (i := 3) (ls' := (bt 17 15)) (Tell.of rfl) (by kernel_rfl) rfl rfl rfl rfl rfl rfl (VF.p (V.mv (d := I (IntKind.i64.wrap ((t.size : Int) - 4))) rfl rfl)) ?_
   refine RA.firstT (i := 4) (ls' := (bt 17 31)) (Tell.of rfl) (by kernel_rfl) rfl rfl rfl rfl rfl rfl (VF.p (V.cmpInt rfl rfl rfl rfl)) ?_
   refine RA.fr XK 28 10 [5,6] (bt 17 127) rfl rfl (by kernel_rfl) (Tell.of rfl) ?_
   (conv=>whnf);refine ⟨rfl,fun B=>?_⟩
   refine RA.keep 28 [0,4,14] rfl ?_;(conv=>whnf);refine ⟨?_⟩
   refine RA.bool 14 rfl (fun h3 => ?_) (fun h3 => ?_)
   ·skip
    refine RA.firstF (i := 7) (ls' := (bt 17 255)) (Tell.of rfl) (by kernel_rfl) rfl rfl rfl rfl rfl (.inl rfl) ?_
    refine RA.firstF (i := 8) (ls' := (bt 17 511)) (Tell.of rfl) (by kernel_rfl) rfl rfl rfl rfl rfl (.inl rfl) ?_
    refine RA.firstF (i := 9) (ls' := (bt 17 1023)) (Tell.of rfl) (by kernel_rfl) rfl rfl rfl rfl rfl (.inl rfl) ?_
    refine RA.firstF (i := 10) (ls' := (bt 17 2047)) (Tell.of rfl) (by kernel_rfl) rfl rfl rfl rfl rfl (.inl rfl) ?_
    refine RA.firstF (i := 11) (ls' := (bt 17 4095)) (Tell.of rfl) (by kernel_rfl) rfl rfl rfl rfl rfl (.inl rfl) ?_
    refine RA.firstF (i := 12) (ls' := (bt 17 8191)) (Tell.of rfl) (by kernel_rfl) rfl rfl rfl rfl rfl (.inl rfl) ?_
    refine RA.firstF (i := 13) (ls' := (bt 17 16383)) (Tell.of rfl) (by kernel_rfl) rfl rfl rfl rfl rfl (.inl rfl) ?_
    refine RA.firstF (i := 14) (ls' := (bt 17 32767)) (Tell.of rfl) (by kernel_rfl) rfl rfl rfl rfl rfl (.inl rfl) ?_
    refine RA.keep 28 [0,4,14,17,22] rfl ?_;(conv=>whnf);refine ⟨?_⟩
    refine RA.firstF (i := 15) (ls' := (bt 17 65535)) (Tell.of rfl) (by kernel_rfl) rfl rfl rfl rfl rfl (.inl rfl) ?_
    refine RA.fr XK 28 0 [16] (bt 17 131071) rfl rfl (by kernel_rfl) (Tell.of rfl) ?_
    (conv=>whnf);refine ⟨rfl,fun B=>?_⟩
    exact RA.finH (Tell.of rfl) (by kernel_rfl) (hK _ _ (by first | rfl | (simp_all; done) | grind) rfl (Le.of rfl))
   ·skip
    refine RA.firstT (i := 7) (ls' := (bt 17 255)) (Tell.of rfl) (by kernel_rfl) rfl rfl rfl rfl rfl rfl (VF.p (V.mv (d := S t) rfl rfl)) ?_
    refine RA.firstT (i := 8) (ls' := (bt 17 511)) (Tell.of rfl) (by kernel_rfl) rfl rfl rfl rfl rfl rfl (VF.p (V.mv (d := I (IntKind.i64.wrap ((t.size : Int) - 4))) rfl rfl)) ?_
    refine RA.firstT (i := 9) (ls' := (bt 17 1023)) (Tell.of rfl) (by kernel_rfl) rfl rfl rfl rfl rfl rfl (VF.p (V.strSlice (l := (IntKind.i64.wrap ((t.size : Int) - 4))) (h := (t.size : Int)) rfl (by kernel_rfl) rfl (.inr ⟨_, _, rfl, rfl⟩) (.inl ⟨rfl, rfl⟩) (by have h9 : 4 ≤ t.size := (by first | exact uns_h hsz (by assumption) | exact uns_4 hsz hvv); rw [hsz]; omega))) ?_
    refine RA.firstT (i := 10) (ls' := (bt 17 2047)) (Tell.of rfl) (by kernel_rfl) rfl rfl rfl rfl rfl rfl (VF.p (V.mv (d := S t) rfl rfl)) ?_
    refine RA.firstT (i := 11) (ls' := (bt 17 4095)) (Tell.of rfl) (by kernel_rfl) rfl rfl rfl rfl rfl rfl (VF.p (V.mv (d := I (IntKind.i64.wrap ((t.size : Int) - 4))) rfl rfl)) ?_
    refine RA.firstT (i := 12) (ls' := (bt 17 8191)) (Tell.of rfl) (by kernel_rfl) rfl rfl rfl rfl rfl rfl (VF.p (V.strSlice (l := 0) (h := (IntKind.i64.wrap ((t.size : Int) - 4))) rfl (by kernel_rfl) rfl (.inl ⟨rfl, rfl⟩) (.inr ⟨_, _, rfl, rfl⟩) (by have h9 : 4 ≤ t.size := (by first | exact uns_h hsz (by assumption) | exact uns_4 hsz hvv); rw [hsz]; omega))) ?_
    refine RA.keep 28 [0,4,14,17,20] rfl ?_;(conv=>whnf);refine ⟨?_⟩
    refine RA.oneCall (i := 13) (ls' := (bt 17 16383)) (Tell.of rfl) (by kernel_rfl) rfl rfl rfl rfl rfl rfl (spec_SumOf_fn (t.extract (0 : Int).toNat (IntKind.i64.wrap ((t.size : Int) - 4)).toNat) (by rw [ByteArray.size_extract]; simp only [maxLen]; omega)) rfl (.cons (.one (.r .r)) (.nil)) fun g4 => ?_
    refine RA.keep 28 [0,4,14,17,21] rfl ?_;(conv=>whnf);refine ⟨?_⟩
    refine RA.oneCall (i := 14) (ls' := (bt 17 32767)) (Tell.of rfl) (by kernel_rfl) rfl rfl rfl rfl rfl rfl (spec_l02Four_fn (sumN 4294967295 (t.extract (0 : Int).toNat (IntKind.i64.wrap ((t.size : Int) - 4)).toNat) (t.extract (0 : Int).toNat (IntKind.i64.wrap ((t.size : Int) - 4)).toNat).size)) rfl (.cons (.one (.r .r)) (.nil)) fun g5 => ?_
    refine RA.firstT (i := 15) (ls' := (bt 17 65535)) (Tell.of rfl) (by kernel_rfl) rfl rfl rfl rfl rfl rfl (VF.p (V.strCmp rfl rfl rfl rfl)) ?_
    refine RA.fr XK 28 0 [16] (bt 17 131071) rfl rfl (by kernel_rfl) (Tell.of rfl) ?_
    (conv=>whnf);refine ⟨rfl,fun B=>?_⟩
    exact RA.finH (Tell.of rfl) (by kernel_rfl) (hK _ _ (by first | rfl | (simp_all; done) | grind) rfl (Le.of rfl))
 ·rintro v1 hv6
  refine CW.cond rfl (fun h7 => ?_) (fun h7 => ?_)
  ·skip
   have hvv := hv6.symm.trans h7
   refine CW.k XK 28 1 [2,3] rfl ?_
   (conv=>whnf);refine ⟨rfl,?_⟩
   refine CW.ret ?_
   exact Post.tup (by decide) (RVs.c (RV.s rfl (by rw [uns_s hsz, if_pos hvv])) (RVs.c (RV.b rfl (by rw [uns_s hsz, if_pos hvv])) RVs.e)) (AOs.r AOs.e)
  ·skip
   have hvv := hv6.symm.trans h7
   refine CW.skip ?_
   refine CW.keep 28 [0,4] rfl ?_;(conv=>whnf);refine ⟨?_⟩
   refine CW.seq ?_
   refine CW.region ?_
   refine RW.k XK 28 2 rfl ?_
   (conv=>whnf);refine ⟨rfl,?_⟩
   refine RW.v rfl (V.strSlice (l := 0) (h := (IntKind.i64.wrap ((t.size : Int) - 4))) rfl (by kernel_rfl) rfl (.inl ⟨rfl, rfl⟩) (.inr ⟨_, _, rfl, rfl⟩) (by have h9 : 4 ≤ t.size := (by first | exact uns_h hsz (by assumption) | exact uns_4 hsz hvv); rw [hsz]; omega)) ?_
   refine RW.k XK 28 2 rfl ?_
   (conv=>whnf);refine ⟨rfl,?_⟩
   refine RW.nil ?_
   refine CW.keep 28 [2,3] rfl ?_;(conv=>whnf);refine ⟨?_⟩
   refine CW.ret ?_
   exact Post.tup (by decide) (RVs.c (RV.s rfl (by rw [uns_s hsz, if_neg (by rw [hvv]; simp)])) (RVs.c (RV.b rfl (by rw [uns_s hsz, if_neg (by rw [hvv]; simp)])) RVs.e)) (AOs.r AOs.e)
set_option maxHeartbeats 4000000 in
theorem spec_l01Figure_fn (d : Int) (hd : d < 10) : Eng.Fn E.P 225 [.one (.r (.v (.int .i64 d)))] (.one (.one (.w (.v (.int .u8 (IntKind.u8.wrap (IntKind.i64.wrap (48 + d)))))))) [.one (.r (.v (.int .i64 d)))] := by
 refine Eng.Fn.intro (E := E) (rvs := [.tmp 2]) Tryz.func225 rfl rfl rfl (by simp [outSlots, moved, rvSlot, sl]) ?_
 intro B g bo
 refine CW.keep 12 [0] rfl ?_;(conv=>whnf);refine ⟨?_⟩
 refine CW.k XK 12 1 [0] rfl ?_
 (conv=>whnf);refine ⟨rfl,?_⟩
 refine CW.seq ?_
 refine CW.k XK 12 1 [0,4] rfl ?_
 (conv=>whnf);refine ⟨rfl,?_⟩
 refine CW.cond rfl (fun h1 => ?_) (fun h1 => ?_)
 ·skip
  refine CW.k XK 12 1 [2] rfl ?_
  (conv=>whnf);refine ⟨rfl,?_⟩
  refine CW.ret ?_
  exact Post.one (RV.v rfl (by rfl)) (AOs.r AOs.e)
 ·skip
  refine CW.skip ?_
  refine CW.keep 12 [0] rfl ?_;(conv=>whnf);refine ⟨?_⟩
  refine CW.k XK 12 1 [2] rfl ?_
  (conv=>whnf);refine ⟨rfl,?_⟩
  refine CW.ret ?_
  exact Post.one (RV.v rfl (by exfalso; simp at h1; omega)) (AOs.r AOs.e)
set_option maxHeartbeats 4000000 in
theorem spec_Decimal_fn (n : Int) (hn : 0 ≤ n ∧ n ≤ 9223372036854775807) : Eng.Fn E.P 197 [.one (.r (.v (.int .i64 n)))] (.one (.one (.w (.v (.string (itoaB n)))))) [.one (.r (.v (.int .i64 n)))] := by
 refine Eng.Fn.intro (E := E) (rvs := [.tmp 2]) Tryz.func197 rfl rfl rfl (by simp [outSlots, moved, rvSlot, sl]) ?_
 intro B g bo
 refine CW.keep 30 [0] rfl ?_;(conv=>whnf);refine ⟨?_⟩
 refine CW.k XK 30 1 [0] rfl ?_
 (conv=>whnf);refine ⟨rfl,?_⟩
 refine CW.seq ?_
 refine CW.k XK 30 1 [0,7] rfl ?_
 (conv=>whnf);refine ⟨rfl,?_⟩
 refine CW.cond rfl (fun h1 => ?_) (fun h1 => ?_)
 ·skip
  refine CW.k XK 30 1 [2] rfl ?_
  (conv=>whnf);refine ⟨rfl,?_⟩
  refine CW.ret ?_
  exact Post.one (RV.s rfl (by rw [show n = 0 by simpa using h1]; exact itoa_zero.symm)) (AOs.r AOs.e)
 ·skip
  refine CW.skip ?_
  refine CW.keep 30 [0] rfl ?_;(conv=>whnf);refine ⟨?_⟩
  refine CW.k XK 30 2 [0,3,4] rfl ?_
  (conv=>whnf);refine ⟨rfl,?_⟩
  refine CW.seq ?_
  refine CW.block ?_
  refine CW.loopI 30 (fun (zz : Int × ByteArray) => match zz with | (m, s) => [(0, I m), (3, Bo (decide (n < 0))), (4, S s)]) (fun (zz : Int × ByteArray) => match zz with | (m, s) => 0 ≤ m ∧ s.size ≤ 60 ∧ m * 10 ^ s.size ≤ 9223372036854775807 ∧ dgs m.toNat s = dgs n.toNat ⟨#[]⟩) (fun (zz : Int × ByteArray) => match zz with | (m, s) => m.toNat) (_, _) rfl (Le.c rfl <| Le.c rfl <| Le.c rfl <| Le.e) ⟨hn.1, by decide, by show n * 10 ^ 0 ≤ _; omega, rfl⟩ ?_
  rintro ⟨m, s⟩ ⟨h0, hs, hp, hr⟩
  refine CW.seq ?_
  refine CW.k XK 30 1 [0,3,4,11] rfl ?_
  (conv=>whnf);refine ⟨rfl,?_⟩
  refine CW.cond rfl (fun h2 => ?_) (fun h2 => ?_)
  ·skip
   have h2p : decide (m > 0) = true := by simp at h2 ⊢; omega
   refine CW.skip ?_
   refine CW.keep 30 [0,3,4] rfl ?_;(conv=>whnf);refine ⟨?_⟩
   refine CW.block ?_
   refine CW.k XK 30 1 [0,3,4,5] rfl ?_
   (conv=>whnf);refine ⟨rfl,?_⟩
   refine CW.seq ?_
   refine CW.k XK 30 1 [0,3,4,5,15] rfl ?_
   (conv=>whnf);refine ⟨rfl,?_⟩
   refine CW.cond rfl (fun h3 => ?_) (fun h3 => ?_)
   ·skip
    exact absurd (Int.tmod_nonneg 10 h0) (by simpa using h3)
   ·skip
    refine CW.skip ?_
    refine CW.keep 30 [0,3,4,5] rfl ?_;(conv=>whnf);refine ⟨?_⟩
    refine CW.seq ?_
    refine CW.region ?_
    refine RW.k XK 30 1 rfl ?_
    (conv=>whnf);refine ⟨rfl,?_⟩
    refine RW.call rfl (spec_l01Figure_fn (Int.tmod m 10) (Int.tmod_lt_of_pos m (by omega))) rfl (.cons (.one (.r .r)) (.nil)) fun g4 => ?_
    refine RW.build1c (c := cU) (v := (IntKind.u8.wrap (IntKind.i64.wrap (48 + (Int.tmod m 10))))) (u := .v (.int .u8 (IntKind.u8.wrap (IntKind.i64.wrap (48 + (Int.tmod m 10)))))) rfl rfl rfl rfl rfl rfl (.inl rfl) rfl rfl fun X5 => ?_
    refine RW.v rfl (V.bytesStr (l := [(IntKind.u8.wrap (IntKind.i64.wrap (48 + (Int.tmod m 10))))]) rfl rfl rfl (by kernel_rfl) (by kernel_rfl) (.al (k := none) (i := 20) (sz := 1) (V := X5) rfl rfl nofun)) ?_
    refine RW.k XK 30 1 rfl ?_
    (conv=>whnf);refine ⟨rfl,?_⟩
    refine RW.v rfl (V.cat rfl rfl rfl (by simp only [bytesOf_one, maxLen]; first | omega | (show 1 + s.size ≤ _; omega))) ?_
    refine RW.k XK 30 1 rfl ?_
    (conv=>whnf);refine ⟨rfl,?_⟩
    refine RW.nil ?_
    refine CW.keep 30 [0,3,4] rfl ?_;(conv=>whnf);refine ⟨?_⟩
    refine CW.region ?_
    refine RW.k XK 30 3 rfl ?_
    (conv=>whnf);refine ⟨rfl,?_⟩
    refine RW.nil ?_
    exact ⟨(_, _), by have := mt_dec h0 hp h2p; simp only []; omega, mt_step h0 hp hr h2p, rfl, Le.c rfl <| Le.c rfl <| Le.c rfl <| Le.e⟩
  ·skip
   refine CW.exit ?_
   refine CW.keep 30 [3,4] rfl ?_;(conv=>whnf);refine ⟨?_⟩
   refine CW.seq ?_
   refine CW.k XK 30 1 [4,26] rfl ?_
   (conv=>whnf);refine ⟨rfl,?_⟩
   refine CW.cond rfl (fun h6 => ?_) (fun h6 => ?_)
   ·skip
    refine CW.seq ?_
    refine CW.region ?_
    refine RW.k XK 30 1 rfl ?_
    (conv=>whnf);refine ⟨rfl,?_⟩
    refine RW.v rfl (V.cat rfl rfl rfl (by simp only [bytesOf_one, maxLen]; first | omega | (show 1 + s.size ≤ _; omega))) ?_
    refine RW.k XK 30 1 rfl ?_
    (conv=>whnf);refine ⟨rfl,?_⟩
    refine RW.nil ?_
    refine CW.keep 30 [2] rfl ?_;(conv=>whnf);refine ⟨?_⟩
    refine CW.ret ?_
    exact Post.one (RV.s rfl (by exfalso; simp_all; omega)) (AOs.r AOs.e)
   ·skip
    refine CW.skip ?_
    refine CW.keep 30 [4] rfl ?_;(conv=>whnf);refine ⟨?_⟩
    refine CW.k XK 30 1 [2] rfl ?_
    (conv=>whnf);refine ⟨rfl,?_⟩
    refine CW.ret ?_
    exact Post.one (RV.s rfl (by rw [itoa_pos (by simp at h1; omega), ← hr, dgs, dif_pos (by simp at h2; omega)])) (AOs.r AOs.e)
set_option maxHeartbeats 4000000 in
theorem impl_Decimal_fn (n : Int) (hn : okI n) : Eng.Fn E.P 113 [.one (.r (.v (.int .i64 n)))] (.one (.one (.w (.v (.string (itoaB n)))))) [.one (.r (.v (.int .i64 n)))] := by
 refine Eng.Fn.intro (E := E) (rvs := [.tmp 2]) Tryz.func113 rfl rfl rfl (by simp [outSlots, moved, rvSlot, sl]) ?_
 intro B g bo
 refine CW.keep 5 [0] rfl ?_;(conv=>whnf);refine ⟨?_⟩
 refine CW.k XK 5 1 [0] rfl ?_
 (conv=>whnf);refine ⟨rfl,?_⟩
 refine CW.seq ?_
 refine CW.region ?_
 refine RW.k XK 5 1 rfl ?_
 (conv=>whnf);refine ⟨rfl,?_⟩
 refine RW.call rfl (strconv_Itoa_fn n hn) rfl (.cons (.one (.r .r)) (.nil)) fun g1 => ?_
 refine RW.k XK 5 1 rfl ?_
 (conv=>whnf);refine ⟨rfl,?_⟩
 refine RW.nil ?_
 refine CW.keep 5 [2] rfl ?_;(conv=>whnf);refine ⟨?_⟩
 refine CW.ret ?_
 exact Post.one (RV.s rfl (by rfl)) (AOs.r AOs.e)
set_option maxHeartbeats 4000000 in
theorem impl_ReadDecimal_fn (t : ByteArray) (ht : t.size ≤ 1048576) : Eng.Fn E.P 157 [.one (.r (.v (.string t)))] (.tup [.one (.w (.v (.int .i64 ((rdDec t).1)))), .one (.w (.v (.bool ((rdDec t).2))))]) [.one (.r (.v (.string t)))] := by
 refine Eng.Fn.intro (E := E) (rvs := [.tmp 2, .tmp 3]) Tryz.func157 rfl rfl rfl (by simp [outSlots, moved, rvSlot, sl]) ?_
 intro B g bo
 refine CW.keep 25 [0] rfl ?_;(conv=>whnf);refine ⟨?_⟩
 refine CW.k XK 25 1 [0] rfl ?_
 (conv=>whnf);refine ⟨rfl,?_⟩
 refine CW.seq ?_
 refine CW.region ?_
 refine RW.k XK 25 1 rfl ?_
 (conv=>whnf);refine ⟨rfl,?_⟩
 refine RW.callX rfl (strconv_Atoi_fn t ht) rfl (.cons (.one (.r .r)) (.nil)) fun y1 g2 => ?_
 refine RW.k XK 25 5 rfl ?_
 (conv=>whnf);refine ⟨rfl,?_⟩
 refine RW.nil ?_
 refine CW.keep 25 [0,4,5] rfl ?_;(conv=>whnf);refine ⟨?_⟩
 refine CW.seq ?_
 refine CW.seqJ 25 (fun (v3 : Bool) => [(4, I y1.v), (23, Bo v3)]) (fun v3 => v3 = (((!isNil y1.e) || (!(inR y1.v 0 1000000000))) || (!((itoaB y1.v).toList == t.toList)))) ?_ ?_
 ·refine CW.region ?_
  refine RW.k XK 25 1 rfl ?_
  (conv=>whnf);refine ⟨rfl,?_⟩
  refine RW.v rfl (V.neNil rfl rfl (y1.in_) (by kernel_rfl)) ?_
  refine RW.k XK 25 1 rfl ?_
  (conv=>whnf);refine ⟨rfl,?_⟩
  refine RW.gv rfl rfl rfl rfl (fun h4 => V.mv (d := I y1.v) rfl rfl) (fun h4 => ?_) (fun h4 => ?_)
  ·skip
   refine RW.gcall rfl rfl rfl rfl (impl_within_fn y1.v 0 1000000000) rfl (.cons (.one (.r .r)) (.cons (.one (.r .r)) (.cons (.one (.r .r)) (.nil)))) fun g5 => ?_
   refine RW.k XK 25 3 rfl ?_
   (conv=>whnf);refine ⟨rfl,?_⟩
   refine RW.gv rfl rfl rfl rfl (fun h6 => V.mv (d := I y1.v) rfl rfl) (fun h6 => ?_) (fun h6 => ?_)
   ·skip
    refine RW.gcall rfl rfl rfl rfl (impl_Decimal_fn y1.v (by have h9 := inR_of (nF (b := inR _ 0 1000000000) (by assumption)); exact okI_of (by omega) (by omega))) rfl (.cons (.one (.r .r)) (.nil)) fun g7 => ?_
    refine RW.k XK 25 3 rfl ?_
    (conv=>whnf);refine ⟨rfl,?_⟩
    refine RW.nil ?_
    exact ⟨_, by first | rfl | (simp_all; done) | (simp_all; omega) | grind, rfl, Le.of rfl⟩
   ·skip
    refine RW.k XK 25 4 rfl ?_
    (conv=>whnf);refine ⟨rfl,?_⟩
    refine RW.nil ?_
    exact ⟨_, by first | rfl | (simp_all; done) | (simp_all; omega) | grind, rfl, Le.of rfl⟩
  ·skip
   refine RW.k XK 25 9 rfl ?_
   (conv=>whnf);refine ⟨rfl,?_⟩
   refine RW.nil ?_
   exact ⟨_, by first | rfl | (simp_all; done) | (simp_all; omega) | grind, rfl, Le.of rfl⟩
 ·intro v3 hv8
  refine CW.cond rfl (fun h9 => ?_) (fun h9 => ?_)
  ·skip
   have hvv := hv8.symm.trans h9
   refine CW.k XK 25 1 [2,3] rfl ?_
   (conv=>whnf);refine ⟨rfl,?_⟩
   refine CW.ret ?_
   exact Post.tup (by decide) (RVs.c (RV.i rfl (by rw [rda_no _ hvv])) (RVs.c (RV.b rfl (by rw [rda_no _ hvv])) RVs.e)) (AOs.r AOs.e)
  ·skip
   have hvv := hv8.symm.trans h9
   refine CW.skip ?_
   refine CW.keep 25 [4] rfl ?_;(conv=>whnf);refine ⟨?_⟩
   refine CW.k XK 25 1 [2,3] rfl ?_
   (conv=>whnf);refine ⟨rfl,?_⟩
   refine CW.ret ?_
   exact Post.tup (by decide) (RVs.c (RV.i rfl (by rw [rda_yes _ hvv])) (RVs.c (RV.b rfl (by rw [rda_yes _ hvv])) RVs.e)) (AOs.r AOs.e)
set_option maxHeartbeats 4000000 in
theorem spec_ReadDecimal_fn (t : ByteArray) (ht : t.size ≤ 1048576) : Eng.Fn E.P 145 [.one (.r (.v (.string t)))] (.tup [.one (.w (.v (.int .i64 ((rdDec t).1)))), .one (.w (.v (.bool ((rdDec t).2))))]) [.one (.r (.v (.string t)))] := by
 refine Eng.Fn.intro (E := E) (rvs := [.tmp 2, .tmp 3]) Tryz.func145 rfl rfl rfl (by simp [outSlots, moved, rvSlot, sl]) ?_
 intro B g bo
 refine CW.keep 42 [0] rfl ?_;(conv=>whnf);refine ⟨?_⟩
 refine CW.k XK 42 1 [0] rfl ?_
 (conv=>whnf);refine ⟨rfl,?_⟩
 refine CW.seq ?_
 refine CW.k XK 42 1 [0,8] rfl ?_
 (conv=>whnf);refine ⟨rfl,?_⟩
 refine CW.cond rfl (fun h1 => ?_) (fun h1 => ?_)
 ·skip
  have hgt := of_decide_eq_true h1
  refine CW.k XK 42 1 [2,3] rfl ?_
  (conv=>whnf);refine ⟨rfl,?_⟩
  refine CW.ret ?_
  exact Post.tup (by decide) (RVs.c (RV.i rfl (by rw [rdDec_no (fun n hn => by have h9 := hn.size; omega)])) (RVs.c (RV.b rfl (by rw [rdDec_no (fun n hn => by have h9 := hn.size; omega)])) RVs.e)) (AOs.r AOs.e)
 ·skip
  have ht10 : t.size ≤ 10 := by have h9 := of_decide_eq_false h1; omega
  refine CW.skip ?_
  refine CW.keep 42 [0] rfl ?_;(conv=>whnf);refine ⟨?_⟩
  refine CW.k XK 42 1 [0,4] rfl ?_
  (conv=>whnf);refine ⟨rfl,?_⟩
  refine CW.seq ?_
  refine CW.k XK 42 1 [0,4,5] rfl ?_
  (conv=>whnf);refine ⟨rfl,?_⟩
  refine CW.block ?_
  refine CW.loopI 42 (fun (zz : Nat × Nat) => match zz with | (i, m) => [(0, S t), (4, I (m : Int)), (5, I (i : Int))]) (fun (zz : Nat × Nat) => match zz with | (i, m) => DecP t i m) (fun (zz : Nat × Nat) => match zz with | (i, m) => t.size - i) (0, 0) rfl (Le.c rfl <| Le.c rfl <| Le.c rfl <| Le.e) (DecP.init t) ?_
  rintro ⟨i, m⟩ hP
  refine CW.seq ?_
  refine CW.k XK 42 1 [0,4,5,12] rfl ?_
  (conv=>whnf);refine ⟨rfl,?_⟩
  refine CW.cond rfl (fun h2 => ?_) (fun h2 => ?_)
  ·skip
   have hlt : i < t.size := by have h9 := of_decide_eq_true h2; omega
   refine CW.skip ?_
   refine CW.keep 42 [0,4,5] rfl ?_;(conv=>whnf);refine ⟨?_⟩
   refine CW.seq ?_
   refine CW.block ?_
   refine CW.seq ?_
   refine CW.seqJ 42 (fun (v3 : Bool) => [(0, S t), (4, I (m : Int)), (5, I (i : Int)), (24, Bo v3)]) (fun v3 => v3 = (decide ((bat t i) < 48) || decide ((bat t i) > 57))) ?_ ?_
   ·refine CW.region ?_
    refine RW.k XK 42 2 rfl ?_
    (conv=>whnf);refine ⟨rfl,?_⟩
    refine RW.v rfl (V.idxStr (m := i) rfl (by kernel_rfl) rfl rfl hlt) ?_
    refine RW.k XK 42 2 rfl ?_
    (conv=>whnf);refine ⟨rfl,?_⟩
    refine RW.gv rfl rfl rfl rfl (fun h4 => V.mv (d := S t) rfl rfl) (fun h4 => ?_) (fun h4 => ?_)
    ·skip
     refine RW.k XK 42 1 rfl ?_
     (conv=>whnf);refine ⟨rfl,?_⟩
     refine RW.gt rfl rfl rfl rfl (V.idxStr (m := i) rfl (by kernel_rfl) rfl rfl hlt) ?_
     refine RW.k XK 42 2 rfl ?_
     (conv=>whnf);refine ⟨rfl,?_⟩
     refine RW.nil ?_
     exact ⟨_, by first | rfl | (simp_all; done) | (simp_all; omega) | grind, rfl, Le.of rfl⟩
    ·skip
     refine RW.k XK 42 4 rfl ?_
     (conv=>whnf);refine ⟨rfl,?_⟩
     refine RW.nil ?_
     exact ⟨_, by first | rfl | (simp_all; done) | (simp_all; omega) | grind, rfl, Le.of rfl⟩
   ·intro v3 hv5
    refine CW.cond rfl (fun h6 => ?_) (fun h6 => ?_)
    ·skip
     have hnd := dig_no (hv5.symm.trans h6)
     refine CW.k XK 42 1 [2,3] rfl ?_
     (conv=>whnf);refine ⟨rfl,?_⟩
     refine CW.ret ?_
     exact Post.tup (by decide) (RVs.c (RV.i rfl (by rw [rdDec_no (hP.bad hlt hnd)])) (RVs.c (RV.b rfl (by rw [rdDec_no (hP.bad hlt hnd)])) RVs.e)) (AOs.r AOs.e)
    ·skip
     have hdg := dig_yes (hv5.symm.trans h6)
     refine CW.skip ?_
     refine CW.keep 42 [0,4,5] rfl ?_;(conv=>whnf);refine ⟨?_⟩
     refine CW.region ?_
     refine RW.k XK 42 4 rfl ?_
     (conv=>whnf);refine ⟨rfl,?_⟩
     refine RW.v rfl (V.idxStr (m := i) rfl (by kernel_rfl) rfl rfl hlt) ?_
     refine RW.k XK 42 4 rfl ?_
     (conv=>whnf);refine ⟨rfl,?_⟩
     refine RW.nil ?_
     refine CW.keep 42 [0,4,5] rfl ?_;(conv=>whnf);refine ⟨?_⟩
     refine CW.region ?_
     refine RW.k XK 42 1 rfl ?_
     (conv=>whnf);refine ⟨rfl,?_⟩
     refine RW.v rfl (V.inc rfl rfl rfl hlt (by simp only [maxLen]; omega)) ?_
     refine RW.k XK 42 1 rfl ?_
     (conv=>whnf);refine ⟨rfl,?_⟩
     refine RW.nil ?_
     exact ⟨(i + 1, m * 10 + (bat t i - 48).toNat), by simp only []; omega, (hP.step ht10 hlt hdg), rfl, Le.c rfl <| Le.c (congrArg I (hP.val ht10 hlt hdg)) <| Le.c rfl <| Le.e⟩
  ·skip
   have hge : ¬ i < t.size := by have h9 := of_decide_eq_false h2; omega
   refine CW.exit ?_
   refine CW.keep 42 [0,4] rfl ?_;(conv=>whnf);refine ⟨?_⟩
   refine CW.seq ?_
   refine CW.seqJ 42 (fun (v7 : Bool) => [(4, I (m : Int)), (40, Bo v7)]) (fun v7 => v7 = (decide ((m : Int) > 1000000000) || (!((itoaB (m : Int)).toList == t.toList)))) ?_ ?_
   ·refine CW.region ?_
    refine RW.k XK 42 3 rfl ?_
    (conv=>whnf);refine ⟨rfl,?_⟩
    refine RW.gv rfl rfl rfl rfl (fun h8 => V.mv (d := I (m : Int)) rfl rfl) (fun h8 => ?_) (fun h8 => ?_)
    ·skip
     refine RW.gcall rfl rfl rfl rfl (spec_Decimal_fn (m : Int) (by have h9 := hP.lt ht10; omega)) rfl (.cons (.one (.r .r)) (.nil)) fun g9 => ?_
     refine RW.k XK 42 3 rfl ?_
     (conv=>whnf);refine ⟨rfl,?_⟩
     refine RW.nil ?_
     exact ⟨_, by first | rfl | (simp_all; done) | (simp_all; omega) | grind, rfl, Le.of rfl⟩
    ·skip
     refine RW.k XK 42 4 rfl ?_
     (conv=>whnf);refine ⟨rfl,?_⟩
     refine RW.nil ?_
     exact ⟨_, by first | rfl | (simp_all; done) | (simp_all; omega) | grind, rfl, Le.of rfl⟩
   ·intro v7 hv10
    refine CW.cond rfl (fun h11 => ?_) (fun h11 => ?_)
    ·skip
     have hvv := hv10.symm.trans h11
     refine CW.k XK 42 1 [2,3] rfl ?_
     (conv=>whnf);refine ⟨rfl,?_⟩
     refine CW.ret ?_
     exact Post.tup (by decide) (RVs.c (RV.i rfl (by rw [rdd_no (fun n hn => hP.all hge hn) hvv])) (RVs.c (RV.b rfl (by rw [rdd_no (fun n hn => hP.all hge hn) hvv])) RVs.e)) (AOs.r AOs.e)
    ·skip
     have hvv := hv10.symm.trans h11
     refine CW.skip ?_
     refine CW.keep 42 [4] rfl ?_;(conv=>whnf);refine ⟨?_⟩
     refine CW.k XK 42 1 [2,3] rfl ?_
     (conv=>whnf);refine ⟨rfl,?_⟩
     refine CW.ret ?_
     exact Post.tup (by decide) (RVs.c (RV.i rfl (by rw [rdd_yes (by omega) hvv])) (RVs.c (RV.b rfl (by rw [rdd_yes (by omega) hvv])) RVs.e)) (AOs.r AOs.e)
set_option maxHeartbeats 4000000 in
theorem impl_numberOf_fn (t : ByteArray) (l : ByteArray) (m : Int) (ht : t.size ≤ 1048576) (hl : l = sB) (hm : m = 1000000) : Eng.Fn E.P 88 [.one (.r (.v (.string t))), .one (.r (.v (.string l))), .one (.r (.v (.int .i64 m)))] (.one (.one (.w (.v (.int .i64 (snIx t)))))) [.one (.r (.v (.string t))), .one (.r (.v (.string l))), .one (.r (.v (.int .i64 m)))] := by
 refine Eng.Fn.intro (E := E) (rvs := [.tmp 6]) Tryz.func88 rfl rfl rfl (by simp [outSlots, moved, rvSlot, sl]) ?_
 intro B g bo
 refine CW.keep 32 [0,1,2] rfl ?_;(conv=>whnf);refine ⟨?_⟩
 refine CW.k XK 32 1 [0,1,2] rfl ?_
 (conv=>whnf);refine ⟨rfl,?_⟩
 refine CW.seq ?_
 refine CW.seqJ 32 (fun (v1 : Bool) => [(0, S t), (2, I m), (17, Bo v1)]) (fun v1 => v1 = (decide ((t.size : Int) < 2) || (!((t.extract (0 : Int).toNat (1 : Int).toNat).toList == l.toList)))) ?_ ?_
 ·refine CW.region ?_
  refine RW.k XK 32 4 rfl ?_
  (conv=>whnf);refine ⟨rfl,?_⟩
  refine RW.gv rfl rfl rfl rfl (fun h2 => V.mv (d := S t) rfl rfl) (fun h2 => ?_) (fun h2 => ?_)
  ·skip
   refine RW.gt rfl rfl rfl rfl (V.strSlice (l := 0) (h := 1) rfl (by kernel_rfl) rfl (.inl ⟨rfl, rfl⟩) (.inr ⟨_, _, rfl, rfl⟩) (by first | (have h9 := of_decide_eq_false h2; omega) | (have h9 := nm2.1; omega))) ?_
   refine RW.k XK 32 3 rfl ?_
   (conv=>whnf);refine ⟨rfl,?_⟩
   refine RW.nil ?_
   exact ⟨_, by first | rfl | (simp_all; done) | (simp_all; omega) | grind, rfl, Le.of rfl⟩
  ·skip
   refine RW.k XK 32 4 rfl ?_
   (conv=>whnf);refine ⟨rfl,?_⟩
   refine RW.nil ?_
   exact ⟨_, by first | rfl | (simp_all; done) | (simp_all; omega) | grind, rfl, Le.of rfl⟩
 ·intro v1 hv3
  refine CW.cond rfl (fun h4 => ?_) (fun h4 => ?_)
  ·skip
   have hvv := hv3.symm.trans h4
   rw [hl] at hvv
   refine CW.k XK 32 1 [6] rfl ?_
   (conv=>whnf);refine ⟨rfl,?_⟩
   refine CW.ret ?_
   exact Post.one (RV.i rfl (by rw [nm_no1 hvv])) (AOs.r (AOs.r (AOs.r AOs.e)))
  ·skip
   have nm2 := nm_2 (by have h9 := hv3.symm.trans h4; rw [hl] at h9; exact h9)
   refine CW.skip ?_
   refine CW.keep 32 [0,2] rfl ?_;(conv=>whnf);refine ⟨?_⟩
   refine CW.seq ?_
   refine CW.region ?_
   refine RW.k XK 32 1 rfl ?_
   (conv=>whnf);refine ⟨rfl,?_⟩
   refine RW.v rfl (V.strSlice (l := 1) (h := (t.size : Int)) rfl (by kernel_rfl) rfl (.inr ⟨_, _, rfl, rfl⟩) (.inl ⟨rfl, rfl⟩) (by first | (have h9 := of_decide_eq_false h; omega) | (have h9 := nm2.1; omega))) ?_
   refine RW.call rfl (impl_ReadDecimal_fn (t.extract (1 : Int).toNat (t.size : Int).toNat) (by rw [ByteArray.size_extract]; omega)) rfl (.cons (.one (.r .r)) (.nil)) fun g5 => ?_
   refine RW.k XK 32 5 rfl ?_
   (conv=>whnf);refine ⟨rfl,?_⟩
   refine RW.nil ?_
   refine CW.keep 32 [2,7,8] rfl ?_;(conv=>whnf);refine ⟨?_⟩
   refine CW.seq ?_
   refine CW.seqJ 32 (fun (v6 : Bool) => [(7, I ((rdDec (t.extract (1 : Int).toNat (t.size : Int).toNat)).1)), (30, Bo v6)]) (fun v6 => v6 = ((!((rdDec (t.extract (1 : Int).toNat (t.size : Int).toNat)).2)) || decide (((rdDec (t.extract (1 : Int).toNat (t.size : Int).toNat)).1) > m))) ?_ ?_
   ·refine CW.region ?_
    refine RW.k XK 32 3 rfl ?_
    (conv=>whnf);refine ⟨rfl,?_⟩
    refine RW.gv rfl rfl rfl rfl (fun h7 => V.mv (d := I ((rdDec (t.extract (1 : Int).toNat (t.size : Int).toNat)).1)) rfl rfl) (fun h7 => ?_) (fun h7 => ?_)
    ·skip
     refine RW.k XK 32 3 rfl ?_
     (conv=>whnf);refine ⟨rfl,?_⟩
     refine RW.nil ?_
     exact ⟨_, by first | rfl | (simp_all; done) | (simp_all; omega) | grind, rfl, Le.of rfl⟩
    ·skip
     refine RW.k XK 32 3 rfl ?_
     (conv=>whnf);refine ⟨rfl,?_⟩
     refine RW.nil ?_
     exact ⟨_, by first | rfl | (simp_all; done) | (simp_all; omega) | grind, rfl, Le.of rfl⟩
   ·intro v6 hv8
    refine CW.cond rfl (fun h9 => ?_) (fun h9 => ?_)
    ·skip
     have hvv := hv8.symm.trans h9
     rw [hm] at hvv
     refine CW.k XK 32 1 [6] rfl ?_
     (conv=>whnf);refine ⟨rfl,?_⟩
     refine CW.ret ?_
     exact Post.one (RV.i rfl (by rw [nm_no2 hvv])) (AOs.r (AOs.r (AOs.r AOs.e)))
    ·skip
     have hvv := hv8.symm.trans h9
     rw [hm] at hvv
     refine CW.skip ?_
     refine CW.keep 32 [7] rfl ?_;(conv=>whnf);refine ⟨?_⟩
     refine CW.k XK 32 1 [6] rfl ?_
     (conv=>whnf);refine ⟨rfl,?_⟩
     refine CW.ret ?_
     exact Post.one (RV.i rfl (by exact (nm_yes nm2 hvv).symm)) (AOs.r (AOs.r (AOs.r AOs.e)))
set_option maxHeartbeats 4000000 in
theorem spec_SnapName_fn (n : Int) (hn : 0 ≤ n ∧ n ≤ 1000000000) : Eng.Fn E.P 146 [.one (.r (.v (.int .i64 n)))] (.one (.one (.w (.v (.string (snNm n)))))) [.one (.r (.v (.int .i64 n)))] := by
 refine Eng.Fn.intro (E := E) (rvs := [.tmp 2]) Tryz.func146 rfl rfl rfl (by simp [outSlots, moved, rvSlot, sl]) ?_
 intro B g bo
 refine CW.keep 9 [0] rfl ?_;(conv=>whnf);refine ⟨?_⟩
 refine CW.k XK 9 1 [0] rfl ?_
 (conv=>whnf);refine ⟨rfl,?_⟩
 refine CW.seq ?_
 refine CW.seq ?_
 refine CW.region ?_
 refine RW.k XK 9 1 rfl ?_
 (conv=>whnf);refine ⟨rfl,?_⟩
 refine RW.call rfl (spec_l01In_fn n 0 1000000) rfl (.cons (.one (.r .r)) (.cons (.one (.r .r)) (.cons (.one (.r .r)) (.nil)))) fun g1 => ?_
 refine RW.k XK 9 1 rfl ?_
 (conv=>whnf);refine ⟨rfl,?_⟩
 refine RW.nil ?_
 refine CW.keep 9 [0,5] rfl ?_;(conv=>whnf);refine ⟨?_⟩
 refine CW.cond rfl (fun h2 => ?_) (fun h2 => ?_)
 ·skip
  have hno := nT h2
  refine CW.k XK 9 1 [2] rfl ?_
  (conv=>whnf);refine ⟨rfl,?_⟩
  refine CW.ret ?_
  exact Post.one (RV.s rfl (by rw [snNm, if_neg (by rw [hno]; simp)])) (AOs.r AOs.e)
 ·skip
  have hin := nF h2
  refine CW.skip ?_
  refine CW.keep 9 [0] rfl ?_;(conv=>whnf);refine ⟨?_⟩
  refine CW.seq ?_
  refine CW.region ?_
  refine RW.k XK 9 1 rfl ?_
  (conv=>whnf);refine ⟨rfl,?_⟩
  refine RW.call rfl (spec_Decimal_fn n (by omega)) rfl (.cons (.one (.r .r)) (.nil)) fun g3 => ?_
  refine RW.v rfl (V.cat rfl rfl rfl (by have h9 := itoaB_size hn.1 hn.2; have h8 : (⟨#[115]⟩ : ByteArray).size = 1 := rfl; simp only [maxLen, h8]; omega)) ?_
  refine RW.k XK 9 1 rfl ?_
  (conv=>whnf);refine ⟨rfl,?_⟩
  refine RW.nil ?_
  refine CW.keep 9 [2] rfl ?_;(conv=>whnf);refine ⟨?_⟩
  refine CW.ret ?_
  exact Post.one (RV.s rfl (by rw [snNm, if_pos hin]; rfl)) (AOs.r AOs.e)
set_option maxHeartbeats 4000000 in
theorem spec_l08Index_fn (t : ByteArray) (ht : t.size ≤ 1048576) : Eng.Fn E.P 79 [.one (.r (.v (.string t)))] (.one (.one (.w (.v (.int .i64 (snIx t)))))) [.one (.r (.v (.string t)))] := by
 refine Eng.Fn.intro (E := E) (rvs := [.tmp 2]) Tryz.func79 rfl rfl rfl (by simp [outSlots, moved, rvSlot, sl]) ?_
 intro B g bo
 refine CW.keep 23 [0] rfl ?_;(conv=>whnf);refine ⟨?_⟩
 refine CW.k XK 23 1 [0] rfl ?_
 (conv=>whnf);refine ⟨rfl,?_⟩
 refine CW.seq ?_
 refine CW.k XK 23 1 [0,7] rfl ?_
 (conv=>whnf);refine ⟨rfl,?_⟩
 refine CW.cond rfl (fun h1 => ?_) (fun h1 => ?_)
 ·skip
  have hlt := h1
  refine CW.k XK 23 1 [2] rfl ?_
  (conv=>whnf);refine ⟨rfl,?_⟩
  refine CW.ret ?_
  exact Post.one (RV.i rfl (by rw [ns_no1 hlt])) (AOs.r AOs.e)
 ·skip
  have hs2 := ns_2 h1
  refine CW.skip ?_
  refine CW.keep 23 [0] rfl ?_;(conv=>whnf);refine ⟨?_⟩
  refine CW.seq ?_
  refine CW.region ?_
  refine RW.k XK 23 1 rfl ?_
  (conv=>whnf);refine ⟨rfl,?_⟩
  refine RW.v rfl (V.strSlice (l := 1) (h := (t.size : Int)) rfl (by kernel_rfl) rfl (.inr ⟨_, _, rfl, rfl⟩) (.inl ⟨rfl, rfl⟩) (by have h9 := hs2; omega)) ?_
  refine RW.call rfl (spec_ReadDecimal_fn (t.extract (1 : Int).toNat (t.size : Int).toNat) (by rw [ByteArray.size_extract]; omega)) rfl (.cons (.one (.r .r)) (.nil)) fun g2 => ?_
  refine RW.k XK 23 5 rfl ?_
  (conv=>whnf);refine ⟨rfl,?_⟩
  refine RW.nil ?_
  refine CW.keep 23 [0,3,4] rfl ?_;(conv=>whnf);refine ⟨?_⟩
  refine CW.seq ?_
  refine CW.seqJ 23 (fun (v3 : Bool) => [(3, I ((rdDec (t.extract (1 : Int).toNat (t.size : Int).toNat)).1)), (21, Bo v3)]) (fun v3 => v3 = ((!((rdDec (t.extract (1 : Int).toNat (t.size : Int).toNat)).2)) || (!((snNm ((rdDec (t.extract (1 : Int).toNat (t.size : Int).toNat)).1)).toList == t.toList)))) ?_ ?_
  ·refine CW.region ?_
   refine RW.k XK 23 3 rfl ?_
   (conv=>whnf);refine ⟨rfl,?_⟩
   refine RW.gv rfl rfl rfl rfl (fun h4 => V.mv (d := I ((rdDec (t.extract (1 : Int).toNat (t.size : Int).toNat)).1)) rfl rfl) (fun h4 => ?_) (fun h4 => ?_)
   ·skip
    refine RW.gcall rfl rfl rfl rfl (spec_SnapName_fn ((rdDec (t.extract (1 : Int).toNat (t.size : Int).toNat)).1) (rdDec_in _)) rfl (.cons (.one (.r .r)) (.nil)) fun g5 => ?_
    refine RW.k XK 23 3 rfl ?_
    (conv=>whnf);refine ⟨rfl,?_⟩
    refine RW.nil ?_
    exact ⟨_, by first | rfl | (simp_all; done) | (simp_all; omega) | grind, rfl, Le.of rfl⟩
   ·skip
    refine RW.k XK 23 4 rfl ?_
    (conv=>whnf);refine ⟨rfl,?_⟩
    refine RW.nil ?_
    exact ⟨_, by first | rfl | (simp_all; done) | (simp_all; omega) | grind, rfl, Le.of rfl⟩
  ·intro v3 hv6
   refine CW.cond rfl (fun h7 => ?_) (fun h7 => ?_)
   ·skip
    have hvv := hv6.symm.trans h7
    refine CW.k XK 23 1 [2] rfl ?_
    (conv=>whnf);refine ⟨rfl,?_⟩
    refine CW.ret ?_
    exact Post.one (RV.i rfl (by rw [ns_no2 hs2 hvv])) (AOs.r AOs.e)
   ·skip
    have hvv := hv6.symm.trans h7
    refine CW.skip ?_
    refine CW.keep 23 [3] rfl ?_;(conv=>whnf);refine ⟨?_⟩
    refine CW.k XK 23 1 [2] rfl ?_
    (conv=>whnf);refine ⟨rfl,?_⟩
    refine CW.ret ?_
    exact Post.one (RV.i rfl (by exact (ns_yes hs2 hvv).symm)) (AOs.r AOs.e)
set_option maxHeartbeats 4000000 in
theorem spec_l01Var_fn (n : Int) (hn : 0 ≤ n ∧ n ≤ 9223372036854775807) : Eng.Fn E.P 203 [.one (.r (.v (.int .i64 n)))] (.one (.one (.w (.v (.string (varB n.toNat)))))) [.one (.r (.v (.int .i64 n)))] := by
 refine Eng.Fn.intro (E := E) (rvs := [.tmp 2]) Tryz.func203 rfl rfl rfl (by simp [outSlots, moved, rvSlot, sl]) ?_
 intro B g bo
 refine CW.keep 22 [0] rfl ?_;(conv=>whnf);refine ⟨?_⟩
 refine CW.k XK 22 1 [0] rfl ?_
 (conv=>whnf);refine ⟨rfl,?_⟩
 refine CW.seq ?_
 refine CW.region ?_
 refine RW.build0 cU rfl rfl rfl rfl rfl fun X1 => ?_
 refine RW.assignMove rfl rfl rfl (by decide) (Nat.le_of_ble_eq_true rfl) (Nat.le_of_ble_eq_true rfl) ?_
 refine RW.nil ?_
 refine CW.keep 22 [0,3] rfl ?_;(conv=>whnf);refine ⟨?_⟩
 refine CW.seq ?_
 refine CW.block ?_
 refine CW.loopI 22 (fun (zz : Int × List Int × Value) => match zz with | (m, l, X) => [(0, I m), (3, .w (sl 1 cU l) X)]) (fun (zz : Int × List Int × Value) => match zz with | (m, l, X) => VbP n m l) (fun (zz : Int × List Int × Value) => match zz with | (m, l, X) => m.toNat) (_, [], _) rfl (Le.c rfl <| Le.c rfl <| Le.e) (VbP.init hn) ?_
 rintro ⟨m, l, X⟩ hP
 refine CW.seq ?_
 refine CW.k XK 22 1 [0,3,6] rfl ?_
 (conv=>whnf);refine ⟨rfl,?_⟩
 refine CW.cond rfl (fun h2 => ?_) (fun h2 => ?_)
 ·skip
  have hgt := h2
  refine CW.skip ?_
  refine CW.keep 22 [0,3] rfl ?_;(conv=>whnf);refine ⟨?_⟩
  refine CW.block ?_
  refine CW.seq ?_
  refine CW.region ?_
  refine RW.k XK 22 5 rfl ?_
  (conv=>whnf);refine ⟨rfl,?_⟩
  refine RW.build1c (c := cU) (v := (IntKind.u8.wrap (IntKind.i64.wrap ((Int.tmod m 128) + 128)))) (u := .v (.int .u8 (IntKind.u8.wrap (IntKind.i64.wrap ((Int.tmod m 128) + 128))))) rfl rfl rfl rfl rfl rfl (.inl rfl) rfl rfl fun X3 => ?_
  refine RW.appendSR (c := cU) (l1 := l) (l2 := [(IntKind.u8.wrap (IntKind.i64.wrap ((Int.tmod m 128) + 128)))]) rfl rfl rfl rfl rfl rfl rfl rfl (.al (k := none) (i := 12) (sz := 1) (V := X3) rfl rfl nofun) (by decide) (Nat.le_of_ble_eq_true rfl) cU.len (fun _ => rfl) rfl (by have h9 := hP.len; simp only [maxLen, List.length_singleton]; omega) (by have h9 := hP.len; simp only [maxLen, List.length_singleton]; omega) fun X4 => ?_
  refine RW.assignMove rfl rfl rfl (by decide) (Nat.le_of_ble_eq_true rfl) (Nat.le_of_ble_eq_true rfl) ?_
  refine RW.nil ?_
  refine CW.keep 22 [0,3] rfl ?_;(conv=>whnf);refine ⟨?_⟩
  refine CW.region ?_
  refine RW.k XK 22 3 rfl ?_
  (conv=>whnf);refine ⟨rfl,?_⟩
  refine RW.nil ?_
  exact ⟨(_, _, _), (hP.step hgt).2, (hP.step hgt).1, rfl, Le.c rfl <| Le.c rfl <| Le.e⟩
 ·skip
  have hgt := h2
  refine CW.exit ?_
  refine CW.keep 22 [0,3] rfl ?_;(conv=>whnf);refine ⟨?_⟩
  refine CW.seq ?_
  refine CW.region ?_
  refine RW.k XK 22 3 rfl ?_
  (conv=>whnf);refine ⟨rfl,?_⟩
  refine RW.build1c (c := cU) (v := (IntKind.u8.wrap m)) (u := .v (.int .u8 (IntKind.u8.wrap m))) rfl rfl rfl rfl rfl rfl (.inl rfl) rfl rfl fun X5 => ?_
  refine RW.appendSR (c := cU) (l1 := l) (l2 := [(IntKind.u8.wrap m)]) rfl rfl rfl rfl rfl rfl rfl rfl (.al (k := none) (i := 19) (sz := 1) (V := X5) rfl rfl nofun) (by decide) (Nat.le_of_ble_eq_true rfl) cU.len (fun _ => rfl) rfl (by have h9 := hP.len; simp only [maxLen, List.length_singleton]; omega) (by have h9 := hP.len; simp only [maxLen, List.length_singleton]; omega) fun X6 => ?_
  refine RW.v rfl (V.bytesStr (l := (l ++ ([(IntKind.u8.wrap m)]))) rfl rfl rfl (by kernel_rfl) (by kernel_rfl) (.al (k := none) (i := 20) (sz := 1) (V := X6) rfl rfl nofun)) ?_
  refine RW.k XK 22 1 rfl ?_
  (conv=>whnf);refine ⟨rfl,?_⟩
  refine RW.nil ?_
  refine CW.keep 22 [2] rfl ?_;(conv=>whnf);refine ⟨?_⟩
  refine CW.ret ?_
  exact Post.one (RV.s rfl (by exact hP.fin hgt)) (AOs.r AOs.e)
set_option maxHeartbeats 4000000 in
theorem spec_ReadVar_fn (t : ByteArray) (a : Int) (ht : t.size ≤ 1048576) : Eng.Fn E.P 200 [.one (.r (.v (.string t))), .one (.r (.v (.int .i64 a)))] (.tup [.one (.w (.v (.int .i64 ((rdVar t a).1)))), .one (.w (.v (.int .i64 ((rdVar t a).2.1)))), .one (.w (.v (.bool ((rdVar t a).2.2))))]) [.one (.r (.v (.string t))), .one (.r (.v (.int .i64 a)))] := by
 refine Eng.Fn.intro (E := E) (rvs := [.tmp 4, .tmp 5, .tmp 6]) Tryz.func200 rfl rfl rfl (by simp [outSlots, moved, rvSlot, sl]) ?_
 intro B g bo
 refine CW.keep 58 [0,1] rfl ?_;(conv=>whnf);refine ⟨?_⟩
 have hsz : t.size ≤ 4611686018427387904 := by omega
 refine CW.k XK 58 1 [0,1] rfl ?_
 (conv=>whnf);refine ⟨rfl,?_⟩
 refine CW.seq ?_
 refine CW.seq ?_
 refine CW.region ?_
 refine RW.k XK 58 3 rfl ?_
 (conv=>whnf);refine ⟨rfl,?_⟩
 refine RW.call rfl (spec_l01In_fn a 0 (t.size : Int)) rfl (.cons (.one (.r .r)) (.cons (.one (.r .r)) (.cons (.one (.r .r)) (.nil)))) fun g1 => ?_
 refine RW.k XK 58 1 rfl ?_
 (conv=>whnf);refine ⟨rfl,?_⟩
 refine RW.nil ?_
 refine CW.keep 58 [0,1,14] rfl ?_;(conv=>whnf);refine ⟨?_⟩
 refine CW.cond rfl (fun h2 => ?_) (fun h2 => ?_)
 ·skip
  refine CW.k XK 58 1 [4,5,6] rfl ?_
  (conv=>whnf);refine ⟨rfl,?_⟩
  refine CW.ret ?_
  exact Post.tup (by decide) (RVs.c (RV.i rfl (by rw [rdVar_out (nT (by assumption))])) (RVs.c (RV.i rfl (by rw [rdVar_out (nT (by assumption))])) (RVs.c (RV.b rfl (by rw [rdVar_out (nT (by assumption))])) RVs.e))) (AOs.r (AOs.r AOs.e))
 ·skip
  have hin := nF h2
  refine CW.skip ?_
  refine CW.keep 58 [0,1] rfl ?_;(conv=>whnf);refine ⟨?_⟩
  refine CW.k XK 58 2 [0,1,7,8] rfl ?_
  (conv=>whnf);refine ⟨rfl,?_⟩
  refine CW.seq ?_
  refine CW.k XK 58 1 [0,1,7,8,9] rfl ?_
  (conv=>whnf);refine ⟨rfl,?_⟩
  refine CW.block ?_
  refine CW.loopI 58 (fun (zz : Nat × Int) => match zz with | (j, n) => [(0, S t), (1, I a), (7, I n), (8, I ((128 ^ j : Nat) : Int)), (9, I (a + (j : Int)))]) (fun (zz : Nat × Int) => match zz with | (j, n) => RvP t a j n) (fun (zz : Nat × Int) => match zz with | (j, n) => 5 - j) (0, 0) rfl (Le.c rfl <| Le.c rfl <| Le.c rfl <| Le.c (congrArg I (by simp)) <| Le.c (congrArg I (by omega)) <| Le.e) (RvP.init hin hsz) ?_
  rintro ⟨j, n⟩ hP
  refine CW.seq ?_
  refine CW.seqJ 58 (fun (v3 : Bool) => [(0, S t), (1, I a), (7, I n), (8, I ((128 ^ j : Nat) : Int)), (9, I (a + (j : Int))), (25, Bo v3)]) (fun v3 => v3 = (decide ((a + (j : Int)) < (t.size : Int)) && decide ((a + (j : Int)) < (IntKind.i64.wrap (a + 5))))) ?_ ?_
  ·refine CW.region ?_
   refine RW.k XK 58 5 rfl ?_
   (conv=>whnf);refine ⟨rfl,?_⟩
   refine RW.gv rfl rfl rfl rfl (fun h4 => V.mv (d := I (a + (j : Int))) rfl rfl) (fun h4 => ?_) (fun h4 => ?_)
   ·skip
    refine RW.k XK 58 4 rfl ?_
    (conv=>whnf);refine ⟨rfl,?_⟩
    refine RW.nil ?_
    exact ⟨_, by first | rfl | (simp_all; done) | (simp_all; omega) | grind, rfl, Le.of rfl⟩
   ·skip
    refine RW.k XK 58 4 rfl ?_
    (conv=>whnf);refine ⟨rfl,?_⟩
    refine RW.nil ?_
    exact ⟨_, by first | rfl | (simp_all; done) | (simp_all; omega) | grind, rfl, Le.of rfl⟩
  ·intro v3 hv5
   refine CW.cond rfl (fun h6 => ?_) (fun h6 => ?_)
   ·skip
    have hvv := hv5.symm.trans h6
    simp only [Bool.and_eq_true, decide_eq_true_eq] at hvv
    have h5 : j < 5 := by have h9 := hP.a0; have h8 := hP.sz; rw [wrap_small (x := a + 5) (by omega) (by omega)] at hvv; omega
    have hlt : a.toNat + j < t.size := by have h9 := hP.a0; omega
    obtain ⟨c, hb⟩ := hP.byte hlt
    refine CW.skip ?_
    refine CW.keep 58 [0,1,7,8,9] rfl ?_;(conv=>whnf);refine ⟨?_⟩
    refine CW.seq ?_
    refine CW.block ?_
    refine CW.seq ?_
    refine CW.region ?_
    refine RW.k XK 58 3 rfl ?_
    (conv=>whnf);refine ⟨rfl,?_⟩
    refine RW.v rfl (V.idxStrZ (m := (a.toNat + j)) rfl (by kernel_rfl) rfl rfl (by have h9 := hP.a0; omega) hlt) ?_
    refine RW.k XK 58 6 rfl ?_
    (conv=>whnf);refine ⟨rfl,?_⟩
    refine RW.nil ?_
    refine CW.keep 58 [0,1,7,8,9] rfl ?_;(conv=>whnf);refine ⟨?_⟩
    refine CW.k XK 58 1 [0,1,7,8,9] rfl ?_
    (conv=>whnf);refine ⟨rfl,?_⟩
    refine CW.seq ?_
    refine CW.region ?_
    refine RW.k XK 58 2 rfl ?_
    (conv=>whnf);refine ⟨rfl,?_⟩
    refine RW.v rfl (V.idxStrZ (m := (a.toNat + j)) rfl (by kernel_rfl) rfl rfl (by have h9 := hP.a0; omega) hlt) ?_
    refine RW.k XK 58 1 rfl ?_
    (conv=>whnf);refine ⟨rfl,?_⟩
    refine RW.nil ?_
    refine CW.keep 58 [0,1,7,8,9,42] rfl ?_;(conv=>whnf);refine ⟨?_⟩
    refine CW.cond rfl (fun h7 => ?_) (fun h7 => ?_)
    ·skip
     have hc : (c.toNat : Int) ≤ 127 := by have h9 := of_decide_eq_true h7; rw [hb.bt] at h9; omega
     refine CW.seq ?_
     refine CW.anyP (fc := []) 58 (fun (v8 : Bool) => [(7, I (IntKind.i64.wrap (n + (IntKind.i64.wrap ((Int.tmod (IntKind.i64.wrap (bat t (a.toNat + j))) 128) * ((128 ^ j : Nat) : Int)))))), (9, I (a + (j : Int))), (54, Bo v8)]) (fun (v8 : Bool) => v8 = (decide ((IntKind.i64.wrap (n + (IntKind.i64.wrap ((Int.tmod (IntKind.i64.wrap (bat t (a.toNat + j))) 128) * ((128 ^ j : Nat) : Int))))) > 1000000000) || (!((varB (IntKind.i64.wrap (n + (IntKind.i64.wrap ((Int.tmod (IntKind.i64.wrap (bat t (a.toNat + j))) 128) * ((128 ^ j : Nat) : Int))))).toNat).toList == (t.extract a.toNat (IntKind.i64.wrap ((a + (j : Int)) + 1)).toNat).toList)))) (fun K hK => ?_) ?_
     ·refine RA.start (m := 12) (ls' := (bt 12 0)) (by kernel_rfl) (by kernel_rfl) ?_
      refine RA.keep 58 [0,1,7,9] rfl ?_;(conv=>whnf);refine ⟨?_⟩
      refine RA.fr XK 58 9 [0,1,2] (bt 12 7) rfl rfl (by kernel_rfl) (Tell.of rfl) ?_
      (conv=>whnf);refine ⟨rfl,fun B=>?_⟩
      refine RA.keep 58 [0,1,7,9,45] rfl ?_;(conv=>whnf);refine ⟨?_⟩
      refine RA.bool 45 rfl (fun h9 => ?_) (fun h9 => ?_)
      ·skip
       refine RA.firstF (i := 3) (ls' := (bt 12 15)) (Tell.of rfl) (by kernel_rfl) rfl rfl rfl rfl rfl (.inl rfl) ?_
       refine RA.firstF (i := 4) (ls' := (bt 12 31)) (Tell.of rfl) (by kernel_rfl) rfl rfl rfl rfl rfl (.inl rfl) ?_
       refine RA.firstF (i := 5) (ls' := (bt 12 63)) (Tell.of rfl) (by kernel_rfl) rfl rfl rfl rfl rfl (.inl rfl) ?_
       refine RA.firstF (i := 6) (ls' := (bt 12 127)) (Tell.of rfl) (by kernel_rfl) rfl rfl rfl rfl rfl (.inl rfl) ?_
       refine RA.firstF (i := 7) (ls' := (bt 12 255)) (Tell.of rfl) (by kernel_rfl) rfl rfl rfl rfl rfl (.inl rfl) ?_
       refine RA.firstF (i := 8) (ls' := (bt 12 511)) (Tell.of rfl) (by kernel_rfl) rfl rfl rfl rfl rfl (.inl rfl) ?_
       refine RA.firstF (i := 9) (ls' := (bt 12 1023)) (Tell.of rfl) (by kernel_rfl) rfl rfl rfl rfl rfl (.inl rfl) ?_
       refine RA.firstF (i := 10) (ls' := (bt 12 2047)) (Tell.of rfl) (by kernel_rfl) rfl rfl rfl rfl rfl (.inl rfl) ?_
       refine RA.keep 58 [7,9,45,53] rfl ?_;(conv=>whnf);refine ⟨?_⟩
       refine RA.fr XK 58 0 [11] (bt 12 4095) rfl rfl (by kernel_rfl) (Tell.of rfl) ?_
       (conv=>whnf);refine ⟨rfl,fun B=>?_⟩
       exact RA.finH (Tell.of rfl) (by kernel_rfl) (hK _ _ (by first | rfl | (simp_all; done) | grind) rfl (Le.of rfl))
      ·skip
       refine RA.firstT (i := 3) (ls' := (bt 12 15)) (Tell.of rfl) (by kernel_rfl) rfl rfl rfl rfl rfl rfl (VF.p (V.mv (d := I (IntKind.i64.wrap (n + (IntKind.i64.wrap ((Int.tmod (IntKind.i64.wrap (bat t (a.toNat + j))) 128) * ((128 ^ j : Nat) : Int)))))) rfl rfl)) ?_
       refine RA.firstT (i := 5) (ls' := (bt 12 47)) (Tell.of rfl) (by kernel_rfl) rfl rfl rfl rfl rfl rfl (VF.p (V.mv (d := S t) rfl rfl)) ?_
       refine RA.firstT (i := 6) (ls' := (bt 12 111)) (Tell.of rfl) (by kernel_rfl) rfl rfl rfl rfl rfl rfl (VF.p (V.mv (d := I a) rfl rfl)) ?_
       refine RA.firstT (i := 7) (ls' := (bt 12 239)) (Tell.of rfl) (by kernel_rfl) rfl rfl rfl rfl rfl rfl (VF.p (V.mv (d := I (a + (j : Int))) rfl rfl)) ?_
       refine RA.firstT (i := 8) (ls' := (bt 12 495)) (Tell.of rfl) (by kernel_rfl) rfl rfl rfl rfl rfl rfl (VF.p (V.arInt rfl rfl rfl rfl)) ?_
       refine RA.firstT (i := 9) (ls' := (bt 12 1007)) (Tell.of rfl) (by kernel_rfl) rfl rfl rfl rfl rfl rfl (VF.p (V.strSlice (l := a) (h := (IntKind.i64.wrap ((a + (j : Int)) + 1))) rfl (by kernel_rfl) rfl (.inr ⟨_, _, rfl, rfl⟩) (.inr ⟨_, _, rfl, rfl⟩) (by have h9 := hP.a0; have h8 := hP.sz; rw [wrap_small (by omega) (by omega)]; omega))) ?_
       refine RA.keep 58 [7,9,45,46,52] rfl ?_;(conv=>whnf);refine ⟨?_⟩
       refine RA.oneCall (i := 4) (ls' := (bt 12 1023)) (Tell.of rfl) (by kernel_rfl) rfl rfl rfl rfl rfl rfl (spec_l01Var_fn (IntKind.i64.wrap (n + (IntKind.i64.wrap ((Int.tmod (IntKind.i64.wrap (bat t (a.toNat + j))) 128) * ((128 ^ j : Nat) : Int))))) (by rw [hP.nS hb h5]; have h9 := (hP.more hb h5).2; have h8 := (hP.more hb h5).1; omega)) rfl (.cons (.one (.r .r)) (.nil)) fun g10 => ?_
       refine RA.firstT (i := 10) (ls' := (bt 12 2047)) (Tell.of rfl) (by kernel_rfl) rfl rfl rfl rfl rfl rfl (VF.p (V.strCmp rfl rfl rfl rfl)) ?_
       refine RA.fr XK 58 0 [11] (bt 12 4095) rfl rfl (by kernel_rfl) (Tell.of rfl) ?_
       (conv=>whnf);refine ⟨rfl,fun B=>?_⟩
       exact RA.finH (Tell.of rfl) (by kernel_rfl) (hK _ _ (by first | rfl | (simp_all; done) | grind) rfl (Le.of rfl))
     ·rintro v8 hv11
      refine CW.cond rfl (fun h12 => ?_) (fun h12 => ?_)
      ·skip
       have hz := (hP.specT hb h5 hc hlt hv11).1 h12
       refine CW.k XK 58 1 [4,5,6] rfl ?_
       (conv=>whnf);refine ⟨rfl,?_⟩
       refine CW.ret ?_
       exact Post.tup (by decide) (RVs.c (RV.i rfl (by rw [hP.badZ hb h5 hc hz])) (RVs.c (RV.i rfl (by rw [hP.badZ hb h5 hc hz])) (RVs.c (RV.b rfl (by rw [hP.badZ hb h5 hc hz])) RVs.e))) (AOs.r (AOs.r AOs.e))
      ·skip
       have hz := (hP.specT hb h5 hc hlt hv11).2 h12
       refine CW.skip ?_
       refine CW.keep 58 [7,9] rfl ?_;(conv=>whnf);refine ⟨?_⟩
       refine CW.k XK 58 1 [4,5,6] rfl ?_
       (conv=>whnf);refine ⟨rfl,?_⟩
       refine CW.ret ?_
       exact Post.tup (by decide) (RVs.c (RV.i rfl (by rw [hP.goodZ hb h5 hc hz]; exact hP.nS hb h5)) (RVs.c (RV.i rfl (by rw [hP.goodZ hb h5 hc hz]; have h9 := hP.a0; have h8 := hP.sz; rw [wrap_small (by omega) (by omega)]; show _ = a + ((j + 1 : Nat) : Int); omega)) (RVs.c (RV.b rfl (by rw [hP.goodZ hb h5 hc hz])) RVs.e))) (AOs.r (AOs.r AOs.e))
    ·skip
     have hc : (c.toNat : Int) > 127 := by have h9 := of_decide_eq_false h7; rw [hb.bt] at h9; omega
     refine CW.skip ?_
     refine CW.keep 58 [0,1,7,8,9] rfl ?_;(conv=>whnf);refine ⟨?_⟩
     refine CW.region ?_
     refine RW.k XK 58 3 rfl ?_
     (conv=>whnf);refine ⟨rfl,?_⟩
     refine RW.nil ?_
     exact ⟨(j + 1, (IntKind.i64.wrap (n + (IntKind.i64.wrap ((Int.tmod (IntKind.i64.wrap (bat t (a.toNat + j))) 128) * ((128 ^ j : Nat) : Int)))))), by simp only []; omega, (hP.next hb h5 hlt hc (hP.nS hb h5)), rfl, Le.c rfl <| Le.c rfl <| Le.c rfl <| Le.c (congrArg I (pow_next h5)) <| Le.c (congrArg I (by have h9 := hP.a0; have h8 := hP.sz; rw [wrap_small (by omega) (by omega)]; omega)) <| Le.e⟩
   ·skip
    have hen := hP.end_ (by have hvv := hv5.symm.trans h6; simp only [Bool.and_eq_false_iff, decide_eq_false_iff_not] at hvv; have h9 := hP.a0; have h8 := hP.sz; have h7 := hP.j5; rw [wrap_small (x := a + 5) (by omega) (by omega)] at hvv; omega)
    refine CW.exit ?_
    refine CW.keep 58 [] rfl ?_;(conv=>whnf);refine ⟨?_⟩
    refine CW.k XK 58 1 [4,5,6] rfl ?_
    (conv=>whnf);refine ⟨rfl,?_⟩
    refine CW.ret ?_
    exact Post.tup (by decide) (RVs.c (RV.i rfl (by rw [hen])) (RVs.c (RV.i rfl (by rw [hen])) (RVs.c (RV.b rfl (by rw [hen])) RVs.e))) (AOs.r (AOs.r AOs.e))
end Go.Proofs.YtmhnehgpmndiiaaGreatDoor.Y
