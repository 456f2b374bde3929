import Derived.Test.YtbiocicogminlaaPu
import Derived.Test.YtbiocicogminlaaProg
namespace Go.Proofs.Ytbiocicogminlaa.Y
open Go Go.RowKit Go.Eng Go.Proofs
set_option maxRecDepth 10000
def tl : List (Nat × TyI) := [
(3, ⟨1, 8, [.int .i64 0], .prim⟩),
(4, ⟨1, 1, [.bool false], .prim⟩),
(5, ⟨1, 1, [.int .u8 0], .prim⟩),
(9, ⟨1, 16, [.string ⟨#[]⟩], .prim⟩),
(24, ⟨1, 24, [.slice none 0 0], .slice 81⟩),
(34, ⟨1, 24, [.slice none 0 0], .slice 3⟩),
(35, ⟨1, 24, [.slice none 0 0], .slice 77⟩),
(37, ⟨3, 40, [.int .i64 0, .int .i64 0, .slice none 0 0], .agg [(0, 3, 1), (1, 3, 1), (2, 35, 1)]⟩),
(38, ⟨1, 24, [.slice none 0 0], .slice 139⟩),
(40, ⟨14, 176, [.int .i64 0, .int .i64 0, .int .i64 0, .int .i64 0, .int .i64 0, .slice none 0 0, .int .i64 0, .int .i64 0, .slice none 0 0, .int .i64 0, .int .i64 0, .int .i64 0, .slice none 0 0, .slice none 0 0], .agg [(0, 3, 1), (1, 3, 1), (2, 3, 1), (3, 3, 1), (4, 3, 1), (5, 34, 1), (6, 37, 3), (9, 3, 1), (10, 3, 1), (11, 3, 1), (12, 34, 1), (13, 38, 1)]⟩),
(44, ⟨3, 40, [.int .i64 0, .int .i64 0, .slice none 0 0], .agg [(0, 3, 1), (1, 3, 1), (2, 24, 1)]⟩),
(45, ⟨1, 24, [.slice none 0 0], .slice 98⟩),
(47, ⟨14, 176, [.int .i64 0, .int .i64 0, .int .i64 0, .int .i64 0, .int .i64 0, .slice none 0 0, .int .i64 0, .int .i64 0, .slice none 0 0, .int .i64 0, .int .i64 0, .int .i64 0, .slice none 0 0, .slice none 0 0], .agg [(0, 3, 1), (1, 3, 1), (2, 3, 1), (3, 3, 1), (4, 3, 1), (5, 34, 1), (6, 44, 3), (9, 3, 1), (10, 3, 1), (11, 3, 1), (12, 34, 1), (13, 45, 1)]⟩),
(60, ⟨1, 24, [.slice none 0 0], .slice 124⟩),
(68, ⟨1, 24, [.slice none 0 0], .slice 5⟩),
(77, ⟨3, 32, [.int .i64 0, .int .i64 0, .string ⟨#[]⟩], .agg [(0, 3, 1), (1, 3, 1), (2, 9, 1)]⟩),
(81, ⟨3, 32, [.int .i64 0, .int .i64 0, .string ⟨#[]⟩], .agg [(0, 3, 1), (1, 3, 1), (2, 9, 1)]⟩),
(98, ⟨4, 32, [.int .i64 0, .int .i64 0, .int .i64 0, .int .i64 0], .agg [(0, 3, 1), (1, 3, 1), (2, 3, 1), (3, 3, 1)]⟩),
(115, ⟨15, 200, [.int .i64 0, .int .i64 0, .int .i64 0, .int .i64 0, .int .i64 0, .slice none 0 0, .int .i64 0, .int .i64 0, .slice none 0 0, .int .i64 0, .int .i64 0, .int .i64 0, .slice none 0 0, .slice none 0 0, .slice none 0 0], .agg [(0, 47, 14), (14, 60, 1)]⟩),
(124, ⟨12, 136, [.int .i64 0, .int .i64 0, .int .i64 0, .int .i64 0, .int .i64 0, .int .i64 0, .int .i64 0, .bool false, .slice none 0 0, .slice none 0 0, .string ⟨#[]⟩, .bool false], .agg [(0, 3, 1), (1, 3, 1), (2, 3, 1), (3, 3, 1), (4, 3, 1), (5, 3, 1), (6, 3, 1), (7, 4, 1), (8, 24, 1), (9, 34, 1), (10, 9, 1), (11, 4, 1)]⟩),
(139, ⟨4, 32, [.int .i64 0, .int .i64 0, .int .i64 0, .int .i64 0], .agg [(0, 3, 1), (1, 3, 1), (2, 3, 1), (3, 3, 1)]⟩),
(150, ⟨3, 40, [.slice none 0 0, .int .i64 0, .int .i64 0], .agg [(0, 68, 1), (1, 3, 1), (2, 3, 1)]⟩)]
theorem tl_ok : ∀ p ∈ tl, tyI Try.prog p.1 = some p.2 := by
  refine List.forall_mem_cons.2 ⟨by kernel_rfl, ?_⟩
  refine List.forall_mem_cons.2 ⟨by kernel_rfl, ?_⟩
  refine List.forall_mem_cons.2 ⟨by kernel_rfl, ?_⟩
  refine List.forall_mem_cons.2 ⟨by kernel_rfl, ?_⟩
  refine List.forall_mem_cons.2 ⟨by kernel_rfl, ?_⟩
  refine List.forall_mem_cons.2 ⟨by kernel_rfl, ?_⟩
  refine List.forall_mem_cons.2 ⟨by kernel_rfl, ?_⟩
  refine List.forall_mem_cons.2 ⟨by kernel_rfl, ?_⟩
  refine List.forall_mem_cons.2 ⟨by kernel_rfl, ?_⟩
  refine List.forall_mem_cons.2 ⟨by kernel_rfl, ?_⟩
  refine List.forall_mem_cons.2 ⟨by kernel_rfl, ?_⟩
  refine List.forall_mem_cons.2 ⟨by kernel_rfl, ?_⟩
  refine List.forall_mem_cons.2 ⟨by kernel_rfl, ?_⟩
  refine List.forall_mem_cons.2 ⟨by kernel_rfl, ?_⟩
  refine List.forall_mem_cons.2 ⟨by kernel_rfl, ?_⟩
  refine List.forall_mem_cons.2 ⟨by kernel_rfl, ?_⟩
  refine List.forall_mem_cons.2 ⟨by kernel_rfl, ?_⟩
  refine List.forall_mem_cons.2 ⟨by kernel_rfl, ?_⟩
  refine List.forall_mem_cons.2 ⟨by kernel_rfl, ?_⟩
  refine List.forall_mem_cons.2 ⟨by kernel_rfl, ?_⟩
  refine List.forall_mem_cons.2 ⟨by kernel_rfl, ?_⟩
  refine List.forall_mem_cons.2 ⟨by kernel_rfl, ?_⟩
  exact fun _ h => by cases h
noncomputable def E : Env := ⟨Try.prog, lk tl, fun t i h => tl_ok (t, i) (lk_mem _ _ _ h), by kernel_rfl⟩
def kl : List (Nat × TypeDesc) := [(3, .int .i64), (4, .bool), (5, .int .u8), (9, .string)]
theorem kl_ok : ∀ p ∈ kl, Try.prog.underlying p.1 = some p.2 := by
  refine List.forall_mem_cons.2 ⟨by kernel_rfl, ?_⟩
  refine List.forall_mem_cons.2 ⟨by kernel_rfl, ?_⟩
  refine List.forall_mem_cons.2 ⟨by kernel_rfl, ?_⟩
  refine List.forall_mem_cons.2 ⟨by kernel_rfl, ?_⟩
  exact fun _ h => by cases h
noncomputable def XK : Kd E.P := ⟨lk kl, fun t d h => kl_ok (t, d) (lk_mem _ _ _ h)⟩
set_option maxHeartbeats 4000000 in
theorem impl_within_fn (n : Int) (x : Int) (y : Int) : Eng.Fn E.P 70 [.one (.r (.v (.int .i64 n))), .one (.r (.v (.int .i64 x))), .one (.r (.v (.int .i64 y)))] (.one (.one (.w (.v (.bool (inR n x y)))))) [.one (.r (.v (.int .i64 n))), .one (.r (.v (.int .i64 x))), .one (.r (.v (.int .i64 y)))] := by
 refine Eng.Fn.intro (E := E) (rvs := [.tmp 6]) Try.func70 rfl rfl rfl (by simp [outSlots, moved, rvSlot, sl]) ?_
 intro B g bo
 refine CW.keep 15 [0,1,2] rfl ?_;(conv=>whnf);refine ⟨?_⟩
 refine CW.k XK 15 1 [0,1,2] rfl ?_
 (conv=>whnf);refine ⟨rfl,?_⟩
 refine CW.seqJ 15 (fun (v1 : Bool) => [(6, Bo v1)]) (fun v1 => v1 = (decide (n ≥ x) && decide (n ≤ y))) ?_ ?_
 ·refine CW.region ?_
  refine RW.k XK 15 4 rfl ?_
  (conv=>whnf);refine ⟨rfl,?_⟩
  refine RW.gv rfl rfl rfl rfl (fun h2 => V.mv (d := I n) rfl rfl) (fun h2 => ?_) (fun h2 => ?_)
  ·skip
   refine RW.k XK 15 4 rfl ?_
   (conv=>whnf);refine ⟨rfl,?_⟩
   refine RW.nil ?_
   exact ⟨_, by first | rfl | (simp_all; done) | (simp_all; omega) | grind, rfl, Le.of rfl⟩
  ·skip
   refine RW.k XK 15 4 rfl ?_
   (conv=>whnf);refine ⟨rfl,?_⟩
   refine RW.nil ?_
   exact ⟨_, by first | rfl | (simp_all; done) | (simp_all; omega) | grind, rfl, Le.of rfl⟩
 ·intro v1 hv3
  refine CW.ret ?_
  exact Post.one (RV.b rfl (by simp_all [inR])) (AOs.r (AOs.r (AOs.r AOs.e)))
set_option maxHeartbeats 4000000 in
theorem impl_isNode_fn (n : Int) : Eng.Fn E.P 66 [.one (.r (.v (.int .i64 n)))] (.one (.one (.w (.v (.bool (inR n 1 4)))))) [.one (.r (.v (.int .i64 n)))] := by
 refine Eng.Fn.intro (E := E) (rvs := [.tmp 2]) Try.func66 rfl rfl rfl (by simp [outSlots, moved, rvSlot, sl]) ?_
 intro B g bo
 refine CW.keep 5 [0] rfl ?_;(conv=>whnf);refine ⟨?_⟩
 refine CW.k XK 5 1 [0] rfl ?_
 (conv=>whnf);refine ⟨rfl,?_⟩
 refine CW.seq ?_
 refine CW.region ?_
 refine RW.k XK 5 1 rfl ?_
 (conv=>whnf);refine ⟨rfl,?_⟩
 refine RW.call rfl (impl_within_fn n 1 4) rfl (.cons (.one (.r .r)) (.cons (.one (.r .r)) (.cons (.one (.r .r)) (.nil)))) fun g1 => ?_
 refine RW.k XK 5 1 rfl ?_
 (conv=>whnf);refine ⟨rfl,?_⟩
 refine RW.nil ?_
 refine CW.keep 5 [2] rfl ?_;(conv=>whnf);refine ⟨?_⟩
 refine CW.ret ?_
 exact Post.one (RV.b rfl (by rfl)) (AOs.r AOs.e)
set_option maxHeartbeats 4000000 in
theorem impl_nodesOk_fn (a : List Int) : Eng.Fn E.P 71 [.one (.r (sl 1 cI a))] (.one (.one (.w (.v (.bool (riseOk 1 4 none a)))))) [.one (.r (sl 1 cI a))] := by
 refine Eng.Fn.intro (E := E) (rvs := [.tmp 2]) Try.func71 rfl rfl rfl (by simp [outSlots, moved, rvSlot, sl]) ?_
 intro B g bo
 refine CW.bound (x := .tmp 0) (n := a.length) (AsT.r) (fun hl0 => ?_)
 refine CW.keep 29 [0] rfl ?_;(conv=>whnf);refine ⟨?_⟩
 refine CW.k XK 29 1 [0] rfl ?_
 (conv=>whnf);refine ⟨rfl,?_⟩
 refine CW.seq ?_
 refine CW.k XK 29 1 [0,5,6,7] rfl ?_
 (conv=>whnf);refine ⟨rfl,?_⟩
 refine CW.block ?_
 refine CW.loopI 29 (fun (i : Nat) => [(0, .r (sl 1 cI a)), (5, .r (sl 1 cI a)), (6, I (a.length : Int)), (7, I (i : Int))]) (fun (i : Nat) => i ≤ a.length ∧ riseOk 1 4 (prevI a i) (a.drop i) = riseOk 1 4 none a) (fun (i : Nat) => a.length - i) 0 rfl (Le.c rfl <| Le.c rfl <| Le.c rfl <| Le.c rfl <| Le.e) ⟨by omega, by simp [prevI]⟩ ?_
 rintro i ⟨hb, hr⟩
 refine CW.k XK 29 1 [0,5,6,7,8] rfl ?_
 (conv=>whnf);refine ⟨rfl,?_⟩
 refine CW.seq ?_
 refine CW.cond rfl (fun h1 => ?_) (fun h1 => ?_)
 ·skip
  have hii : i < a.length := by have := h1; simp at this; first | exact this | omega | (simp; done) | (simp; omega)
  obtain ⟨ei, hei⟩ : ∃ e, a[i]? = some e := ⟨_, List.getElem?_eq_getElem hii⟩
  have hdi := drop_get hei
  refine CW.skip ?_
  refine CW.keep 29 [0,5,6,7] rfl ?_;(conv=>whnf);refine ⟨?_⟩
  refine CW.seq ?_
  refine CW.block ?_
  refine CW.seq ?_
  refine CW.region ?_
  refine RW.k XK 29 1 rfl ?_
  (conv=>whnf);refine ⟨rfl,?_⟩
  refine RW.v rfl (V.indexS rfl rfl rfl rfl rfl rfl cI.len hei) ?_
  refine RW.k XK 29 3 rfl ?_
  (conv=>whnf);refine ⟨rfl,?_⟩
  refine RW.nil ?_
  refine CW.keep 29 [0,3,4,5,6,7] rfl ?_;(conv=>whnf);refine ⟨?_⟩
  refine CW.seqJ 29 (fun (v2 : Bool) => [(0, .r (sl 1 cI a)), (5, .r (sl 1 cI a)), (6, I (a.length : Int)), (7, I (i : Int)), (27, Bo v2)]) (fun v2 => v2 = ((!(inR ei 1 4)) || (decide ((i : Int) > 0) && decide ((a.getD (i - 1) 0) ≥ ei)))) ?_ ?_
  ·refine CW.region ?_
   refine RW.k XK 29 1 rfl ?_
   (conv=>whnf);refine ⟨rfl,?_⟩
   refine RW.call rfl (impl_isNode_fn ei) rfl (.cons (.one (.r .r)) (.nil)) fun g3 => ?_
   refine RW.k XK 29 2 rfl ?_
   (conv=>whnf);refine ⟨rfl,?_⟩
   refine RW.gv rfl rfl rfl rfl (fun h4 => V.mv (d := I (i : Int)) rfl rfl) (fun h4 => ?_) (fun h4 => ?_)
   ·skip
    refine RW.k XK 29 2 rfl ?_
    (conv=>whnf);refine ⟨rfl,?_⟩
    refine RW.gv rfl rfl rfl rfl (fun h5 => V.mv (d := .r (sl 1 cI a)) rfl rfl) (fun h5 => ?_) (fun h5 => ?_)
    ·skip
     refine RW.k XK 29 1 rfl ?_
     (conv=>whnf);refine ⟨rfl,?_⟩
     refine RW.gt rfl rfl rfl rfl (V.dec (m := i) rfl rfl rfl (by have := h5; simp at this; omega) (by omega)) ?_
     refine RW.gt rfl rfl rfl rfl (V.indexS rfl rfl rfl rfl rfl rfl cI.len (getD_some (l := a) (j := i - 1) (z := 0) (by omega))) ?_
     refine RW.k XK 29 5 rfl ?_
     (conv=>whnf);refine ⟨rfl,?_⟩
     refine RW.nil ?_
     exact ⟨_, by first | rfl | (simp_all; done) | (simp_all; omega) | grind, rfl, Le.of rfl⟩
    ·skip
     refine RW.k XK 29 8 rfl ?_
     (conv=>whnf);refine ⟨rfl,?_⟩
     refine RW.nil ?_
     exact ⟨_, by first | rfl | (simp_all; done) | (simp_all; omega) | grind, rfl, Le.of rfl⟩
   ·skip
    refine RW.k XK 29 11 rfl ?_
    (conv=>whnf);refine ⟨rfl,?_⟩
    refine RW.nil ?_
    exact ⟨_, by first | rfl | (simp_all; done) | (simp_all; omega) | grind, rfl, Le.of rfl⟩
  ·intro v2 hv6
   refine CW.cond rfl (fun h7 => ?_) (fun h7 => ?_)
   ·skip
    refine CW.k XK 29 1 [2] rfl ?_
    (conv=>whnf);refine ⟨rfl,?_⟩
    refine CW.ret ?_
    exact Post.one (RV.b rfl (by rw [← hr, hdi, riseOk_cons]; grind [prevI])) (AOs.r AOs.e)
   ·skip
    refine CW.skip ?_
    refine CW.keep 29 [0,5,6,7] rfl ?_;(conv=>whnf);refine ⟨?_⟩
    refine CW.region ?_
    refine RW.v rfl (V.inc rfl rfl rfl hii hl0) ?_
    refine RW.k XK 29 1 rfl ?_
    (conv=>whnf);refine ⟨rfl,?_⟩
    refine RW.nil ?_
    exact ⟨i + 1, by omega, ⟨by omega, by rw [← hr, hdi, riseOk_cons, prevI_succ hei]; grind [prevI]⟩, rfl, Le.c rfl <| Le.c rfl <| Le.c rfl <| Le.c rfl <| Le.e⟩
 ·skip
  have hii : a.length ≤ i := by have := h1; simp at this; first | exact this | omega | (simp; done) | (simp; omega)
  have hdi : a.drop i = [] := List.drop_eq_nil_of_le hii
  refine CW.exit ?_
  refine CW.keep 29 [] rfl ?_;(conv=>whnf);refine ⟨?_⟩
  refine CW.k XK 29 1 [2] rfl ?_
  (conv=>whnf);refine ⟨rfl,?_⟩
  refine CW.ret ?_
  exact Post.one (RV.b rfl (by rw [← hr, hdi, riseOk_nil])) (AOs.r AOs.e)
set_option maxHeartbeats 4000000 in
theorem impl_ConfOk_fn (a : List Int) : Eng.Fn E.P 67 [.one (.r (sl 1 cI a))] (.one (.one (.w (.v (.bool (confOk a)))))) [.one (.r (sl 1 cI a))] := by
 refine Eng.Fn.intro (E := E) (rvs := [.tmp 2]) Try.func67 rfl rfl rfl (by simp [outSlots, moved, rvSlot, sl]) ?_
 intro B g bo
 refine CW.bound (x := .tmp 0) (n := a.length) (AsT.r) (fun hl0 => ?_)
 refine CW.keep 10 [0] rfl ?_;(conv=>whnf);refine ⟨?_⟩
 refine CW.k XK 10 1 [0] rfl ?_
 (conv=>whnf);refine ⟨rfl,?_⟩
 refine CW.seqJ 10 (fun (v1 : Bool) => [(2, Bo v1)]) (fun v1 => v1 = (decide ((a.length : Int) > 0) && (riseOk 1 4 none a))) ?_ ?_
 ·refine CW.region ?_
  refine RW.k XK 10 4 rfl ?_
  (conv=>whnf);refine ⟨rfl,?_⟩
  refine RW.gv rfl rfl rfl rfl (fun h2 => V.mv (d := .r (sl 1 cI a)) rfl rfl) (fun h2 => ?_) (fun h2 => ?_)
  ·skip
   refine RW.gcall rfl rfl rfl rfl (impl_nodesOk_fn a) rfl (.cons (.one (.r .r)) (.nil)) fun g3 => ?_
   refine RW.k XK 10 2 rfl ?_
   (conv=>whnf);refine ⟨rfl,?_⟩
   refine RW.nil ?_
   exact ⟨_, by first | rfl | (simp_all; done) | (simp_all; omega) | grind, rfl, Le.of rfl⟩
  ·skip
   refine RW.k XK 10 3 rfl ?_
   (conv=>whnf);refine ⟨rfl,?_⟩
   refine RW.nil ?_
   exact ⟨_, by first | rfl | (simp_all; done) | (simp_all; omega) | grind, rfl, Le.of rfl⟩
 ·intro v1 hv4
  refine CW.ret ?_
  exact Post.one (RV.b rfl (by (subst_vars; exact confOk_impl a))) (AOs.r AOs.e)
set_option maxHeartbeats 4000000 in
theorem impl_isIndex_fn (n : Int) : Eng.Fn E.P 119 [.one (.r (.v (.int .i64 n)))] (.one (.one (.w (.v (.bool (inR n 0 1000000)))))) [.one (.r (.v (.int .i64 n)))] := by
 refine Eng.Fn.intro (E := E) (rvs := [.tmp 2]) Try.func119 rfl rfl rfl (by simp [outSlots, moved, rvSlot, sl]) ?_
 intro B g bo
 refine CW.keep 5 [0] rfl ?_;(conv=>whnf);refine ⟨?_⟩
 refine CW.k XK 5 1 [0] rfl ?_
 (conv=>whnf);refine ⟨rfl,?_⟩
 refine CW.seq ?_
 refine CW.region ?_
 refine RW.k XK 5 1 rfl ?_
 (conv=>whnf);refine ⟨rfl,?_⟩
 refine RW.call rfl (impl_within_fn n 0 1000000) rfl (.cons (.one (.r .r)) (.cons (.one (.r .r)) (.cons (.one (.r .r)) (.nil)))) fun g1 => ?_
 refine RW.k XK 5 1 rfl ?_
 (conv=>whnf);refine ⟨rfl,?_⟩
 refine RW.nil ?_
 refine CW.keep 5 [2] rfl ?_;(conv=>whnf);refine ⟨?_⟩
 refine CW.ret ?_
 exact Post.one (RV.b rfl (by rfl)) (AOs.r AOs.e)
set_option maxHeartbeats 4000000 in
theorem impl_isTerm_fn (n : Int) : Eng.Fn E.P 120 [.one (.r (.v (.int .i64 n)))] (.one (.one (.w (.v (.bool (inR n 0 100000)))))) [.one (.r (.v (.int .i64 n)))] := by
 refine Eng.Fn.intro (E := E) (rvs := [.tmp 2]) Try.func120 rfl rfl rfl (by simp [outSlots, moved, rvSlot, sl]) ?_
 intro B g bo
 refine CW.keep 5 [0] rfl ?_;(conv=>whnf);refine ⟨?_⟩
 refine CW.k XK 5 1 [0] rfl ?_
 (conv=>whnf);refine ⟨rfl,?_⟩
 refine CW.seq ?_
 refine CW.region ?_
 refine RW.k XK 5 1 rfl ?_
 (conv=>whnf);refine ⟨rfl,?_⟩
 refine RW.call rfl (impl_within_fn n 0 100000) rfl (.cons (.one (.r .r)) (.cons (.one (.r .r)) (.cons (.one (.r .r)) (.nil)))) fun g1 => ?_
 refine RW.k XK 5 1 rfl ?_
 (conv=>whnf);refine ⟨rfl,?_⟩
 refine RW.nil ?_
 refine CW.keep 5 [2] rfl ?_;(conv=>whnf);refine ⟨?_⟩
 refine CW.ret ?_
 exact Post.one (RV.b rfl (by rfl)) (AOs.r AOs.e)
set_option maxHeartbeats 4000000 in
theorem impl_votesOk_fn (n : Int) (m : Int) : Eng.Fn E.P 69 [.one (.r (.v (.int .i64 n))), .one (.r (.v (.int .i64 m)))] (.one (.one (.w (.v (.bool (inR n 0 100000 && inR m 0 4)))))) [.one (.r (.v (.int .i64 n))), .one (.r (.v (.int .i64 m)))] := by
 refine Eng.Fn.intro (E := E) (rvs := [.tmp 4]) Try.func69 rfl rfl rfl (by simp [outSlots, moved, rvSlot, sl]) ?_
 intro B g bo
 refine CW.keep 11 [0,1] rfl ?_;(conv=>whnf);refine ⟨?_⟩
 refine CW.k XK 11 1 [0,1] rfl ?_
 (conv=>whnf);refine ⟨rfl,?_⟩
 refine CW.seqJ 11 (fun (v1 : Bool) => [(4, Bo v1)]) (fun v1 => v1 = ((inR n 0 100000) && (inR m 0 4))) ?_ ?_
 ·refine CW.region ?_
  refine RW.k XK 11 1 rfl ?_
  (conv=>whnf);refine ⟨rfl,?_⟩
  refine RW.call rfl (impl_isTerm_fn n) rfl (.cons (.one (.r .r)) (.nil)) fun g2 => ?_
  refine RW.k XK 11 1 rfl ?_
  (conv=>whnf);refine ⟨rfl,?_⟩
  refine RW.gv rfl rfl rfl rfl (fun h3 => V.mv (d := I m) rfl rfl) (fun h3 => ?_) (fun h3 => ?_)
  ·skip
   refine RW.gcall rfl rfl rfl rfl (impl_within_fn m 0 4) rfl (.cons (.one (.r .r)) (.cons (.one (.r .r)) (.cons (.one (.r .r)) (.nil)))) fun g4 => ?_
   refine RW.k XK 11 2 rfl ?_
   (conv=>whnf);refine ⟨rfl,?_⟩
   refine RW.nil ?_
   exact ⟨_, by first | rfl | (simp_all; done) | (simp_all; omega) | grind, rfl, Le.of rfl⟩
  ·skip
   refine RW.k XK 11 3 rfl ?_
   (conv=>whnf);refine ⟨rfl,?_⟩
   refine RW.nil ?_
   exact ⟨_, by first | rfl | (simp_all; done) | (simp_all; omega) | grind, rfl, Le.of rfl⟩
 ·intro v1 hv5
  refine CW.ret ?_
  exact Post.one (RV.b rfl (by simp_all)) (AOs.r (AOs.r AOs.e))
set_option maxHeartbeats 4000000 in
theorem impl_ReadConf_fn (s : ByteArray) (hm : s.size ≤ 1048576) : Eng.Fn E.P 127 [.one (.r (.v (.string s)))] (.tup [.one (.w (sl 1 cI ((readConf s).1))), .one (.w (.v (.bool ((readConf s).2))))]) [.one (.r (.v (.string s)))] := by
 refine Eng.Fn.intro (E := E) (rvs := [.tmp 2, .tmp 3]) Try.func127 rfl rfl rfl (by simp [outSlots, moved, rvSlot, sl]) ?_
 intro B g bo
 refine CW.keep 24 [0] rfl ?_;(conv=>whnf);refine ⟨?_⟩
 refine CW.k XK 24 1 [0] rfl ?_
 (conv=>whnf);refine ⟨rfl,?_⟩
 refine CW.seq ?_
 refine CW.region ?_
 refine RW.build0 cI rfl rfl rfl rfl rfl fun X1 => ?_
 refine RW.assignMove rfl rfl rfl (by decide) (Nat.le_of_ble_eq_true rfl) (Nat.le_of_ble_eq_true rfl) ?_
 refine RW.nil ?_
 refine CW.keep 24 [0,4] rfl ?_;(conv=>whnf);refine ⟨?_⟩
 refine CW.seq ?_
 refine CW.k XK 24 1 [0,4,5] rfl ?_
 (conv=>whnf);refine ⟨rfl,?_⟩
 refine CW.block ?_
 refine CW.loopI 24 (fun (zz : Nat × Value) => match zz with | (i, X) => [(0, S s), (4, .w (sl 1 cI (bys s i)) X), (5, I (i : Int))]) (fun (zz : Nat × Value) => match zz with | (i, X) => i ≤ s.size) (fun (zz : Nat × Value) => match zz with | (i, X) => s.size - i) (0, _) rfl (Le.c rfl <| Le.c rfl <| Le.c rfl <| Le.e) (by omega) ?_
 rintro ⟨i, X⟩ hb
 refine CW.seq ?_
 refine CW.k XK 24 1 [0,4,5,10] rfl ?_
 (conv=>whnf);refine ⟨rfl,?_⟩
 refine CW.cond rfl (fun h2 => ?_) (fun h2 => ?_)
 ·skip
  have hlt : i < s.size := by simpa using h2
  refine CW.skip ?_
  refine CW.keep 24 [0,4,5] rfl ?_;(conv=>whnf);refine ⟨?_⟩
  refine CW.seq ?_
  refine CW.block ?_
  refine CW.region ?_
  refine RW.k XK 24 3 rfl ?_
  (conv=>whnf);refine ⟨rfl,?_⟩
  refine RW.v rfl (V.idxStr (m := i) rfl (by kernel_rfl) rfl rfl hlt) ?_
  refine RW.k XK 24 1 rfl ?_
  (conv=>whnf);refine ⟨rfl,?_⟩
  refine RW.build1c (c := cI) (v := (IntKind.i64.wrap (bat s i))) (u := .v (.int .i64 (IntKind.i64.wrap (bat s i)))) rfl rfl rfl rfl rfl rfl (.inl rfl) rfl rfl fun X3 => ?_
  refine RW.appendSR (c := cI) (l1 := (bys s i)) (l2 := [(IntKind.i64.wrap (bat s i))]) rfl rfl rfl rfl rfl rfl rfl rfl (.al (k := none) (i := 18) (sz := 1) (V := X3) rfl rfl nofun) (by decide) (Nat.le_of_ble_eq_true rfl) cI.len (fun _ => rfl) rfl (by simp only [maxLen, bys_len, List.length_singleton]; omega) (by simp only [maxLen, bys_len, List.length_singleton]; omega) fun X4 => ?_
  refine RW.assignMove rfl rfl rfl (by decide) (Nat.le_of_ble_eq_true rfl) (Nat.le_of_ble_eq_true rfl) ?_
  refine RW.nil ?_
  refine CW.keep 24 [0,4,5] rfl ?_;(conv=>whnf);refine ⟨?_⟩
  refine CW.region ?_
  refine RW.k XK 24 1 rfl ?_
  (conv=>whnf);refine ⟨rfl,?_⟩
  refine RW.v rfl (V.inc rfl rfl rfl hlt (by simp only [maxLen]; omega)) ?_
  refine RW.k XK 24 1 rfl ?_
  (conv=>whnf);refine ⟨rfl,?_⟩
  refine RW.nil ?_
  exact ⟨(i + 1, _), by simp only []; omega, (by omega), rfl, Le.c rfl <| Le.c (Dw_congr (bys_succ s i).symm) <| Le.c rfl <| Le.e⟩
 ·skip
  have hi : i = s.size := by simp at h2; omega
  refine CW.exit ?_
  refine CW.keep 24 [4] rfl ?_;(conv=>whnf);refine ⟨?_⟩
  refine CW.seq ?_
  refine CW.seq ?_
  refine CW.region ?_
  refine RW.k XK 24 1 rfl ?_
  (conv=>whnf);refine ⟨rfl,?_⟩
  refine RW.callOwn rfl (impl_ConfOk_fn (bys s i)) rfl (.cons (.one (.r (.al (k := none) (i := 4) (sz := 1) (V := X) rfl rfl nofun))) (.nil)) rfl fun g5 => ?_
  refine RW.k XK 24 1 rfl ?_
  (conv=>whnf);refine ⟨rfl,?_⟩
  refine RW.nil ?_
  refine CW.keep 24 [4,22] rfl ?_;(conv=>whnf);refine ⟨?_⟩
  refine CW.cond rfl (fun h6 => ?_) (fun h6 => ?_)
  ·skip
   refine CW.k XK 24 1 [2,3] rfl ?_
   (conv=>whnf);refine ⟨rfl,?_⟩
   refine CW.ret ?_
   exact Post.tup (by decide) (RVs.c (RV.n rfl (by rw [rc_no (i := i) (.inl hi) (by simp_all)])) (RVs.c (RV.b rfl (by rw [rc_no (i := i) (.inl hi) (by simp_all)])) RVs.e)) (AOs.r AOs.e)
  ·skip
   refine CW.skip ?_
   refine CW.keep 24 [4] rfl ?_;(conv=>whnf);refine ⟨?_⟩
   refine CW.seq ?_
   refine CW.region ?_
   refine RW.k XK 24 2 rfl ?_
   (conv=>whnf);refine ⟨rfl,?_⟩
   refine RW.pullS 2 4 (by decide) rfl rfl ?_
   refine RW.k XK 24 1 rfl ?_
   (conv=>whnf);refine ⟨rfl,?_⟩
   refine RW.nil ?_
   refine CW.keep 24 [2,3] rfl ?_;(conv=>whnf);refine ⟨?_⟩
   refine CW.ret ?_
   exact Post.tup (by decide) (RVs.c (RV.w rfl (by rw [rc_yes (i := i) (by simp_all [bys_len])])) (RVs.c (RV.b rfl (by rw [rc_yes (i := i) (by simp_all [bys_len])])) RVs.e)) (AOs.r AOs.e)
set_option maxHeartbeats 4000000 in
theorem impl_LogLast_fn (l : Log) (hok : okToLog l) : Eng.Fn E.P 65 [.agg ((Log.c l).map .r)] (.tup [.one (.w (.v (.int .i64 ((logLast l).1)))), .one (.w (.v (.int .i64 ((logLast l).2))))]) [.agg ((Log.c l).map .r)] := by
 refine Eng.Fn.intro (E := E) (rvs := [.tmp 2, .tmp 3]) Try.func65 rfl rfl rfl (by simp [outSlots, moved, rvSlot, sl]) ?_
 intro B g bo
 refine CW.keep 25 [0] rfl ?_;(conv=>whnf);refine ⟨?_⟩
 have hle : l.entries.length ≤ maxLen := by have := hok.1; simp only [maxLen]; omega
 refine CW.seq ?_
 refine CW.region ?_
 refine RW.k XK 25 1 rfl ?_
 (conv=>whnf);intro b1;(conv=>whnf);refine ⟨rfl,?_⟩
 refine RW.freezeB (ts := (Log.c l)) 1 rfl (DRd.r (DRd.r (DRd.r DRd.e))) ?_
 refine RW.k XK 25 2 rfl ?_
 (conv=>whnf);refine ⟨rfl,?_⟩
 refine RW.nil ?_
 refine CW.keep 25 [1] rfl ?_;(conv=>whnf);refine ⟨?_⟩
 refine CW.k XK 25 1 [1,4] rfl ?_
 (conv=>whnf);refine ⟨rfl,?_⟩
 refine CW.seq ?_
 refine CW.k XK 25 1 [1,4,9] rfl ?_
 (conv=>whnf);refine ⟨rfl,?_⟩
 refine CW.cond rfl (fun h2 => ?_) (fun h2 => ?_)
 ·skip
  refine CW.seq ?_
  refine CW.drawn (by kernel_rfl) ?_
  refine RQ.k XK 25 6 rfl ?_
  (conv=>whnf);refine ⟨rfl,?_⟩
  refine RQ.nil ?_
  refine CW.keep 25 [2,3] rfl ?_;(conv=>whnf);refine ⟨?_⟩
  refine CW.ret ?_
  exact Post.tup (by decide) (RVs.c (RV.i rfl (by simp_all [logLast])) (RVs.c (RV.i rfl (by simp_all [logLast])) RVs.e)) (AOs.a rfl AOs.e)
 ·skip
  have hpos : 0 < l.entries.length := List.length_pos_iff.2 (by simpa using h2)
  refine CW.skip ?_
  refine CW.keep 25 [1,4] rfl ?_;(conv=>whnf);refine ⟨?_⟩
  refine CW.seq ?_
  refine CW.drawn (by kernel_rfl) ?_
  refine RQ.k XK 25 7 rfl ?_
  (conv=>whnf);refine ⟨rfl,?_⟩
  refine RQ.v rfl (V.dec (m := l.entries.length) rfl rfl rfl hpos hle) ?_
  refine RQ.v rfl (V.indexS rfl rfl rfl rfl rfl rfl Entry.len (getD_some (l := l.entries) (j := l.entries.length - 1) (z := Entry.z) (by omega))) ?_
  refine RQ.k XK 25 4 rfl ?_
  (conv=>whnf);refine ⟨rfl,?_⟩
  refine RQ.nil ?_
  refine CW.keep 25 [2,3] rfl ?_;(conv=>whnf);refine ⟨?_⟩
  refine CW.ret ?_
  exact Post.tup (by decide) (RVs.c (RV.i rfl (by simp_all [logLast])) (RVs.c (RV.i rfl (by simp_all [logLast])) RVs.e)) (AOs.a rfl AOs.e)
set_option maxHeartbeats 4000000 in
theorem impl_EntryOk_fn (e : Entry) (hok : okToEntry e) : Eng.Fn E.P 96 [.agg ((Entry.c e).map .r)] (.one (.one (.w (.v (.bool (entOk e)))))) [.agg ((Entry.c e).map .r)] := by
 refine Eng.Fn.intro (E := E) (rvs := [.tmp 2]) Try.func96 rfl rfl rfl (by simp [outSlots, moved, rvSlot, sl]) ?_
 intro B g bo
 refine CW.keep 45 [0] rfl ?_;(conv=>whnf);refine ⟨?_⟩
 refine CW.seq ?_
 refine CW.region ?_
 refine RW.k XK 45 1 rfl ?_
 (conv=>whnf);intro b1;(conv=>whnf);refine ⟨rfl,?_⟩
 refine RW.freezeB (ts := (Entry.c e)) 1 rfl (DRd.r (DRd.r (DRd.r DRd.e))) ?_
 refine RW.k XK 45 1 rfl ?_
 (conv=>whnf);refine ⟨rfl,?_⟩
 refine RW.nil ?_
 refine CW.keep 45 [1] rfl ?_;(conv=>whnf);refine ⟨?_⟩
 refine CW.seq ?_
 refine CW.k XK 45 1 [1,6] rfl ?_
 (conv=>whnf);refine ⟨rfl,?_⟩
 refine CW.block ?_
 refine CW.k XK 45 1 [1,6,7] rfl ?_
 (conv=>whnf);refine ⟨rfl,?_⟩
 refine CW.cond rfl (fun h2 => ?_) (fun h2 => ?_)
 ·skip
  refine CW.seqJ 45 (fun (v3 : Bool) => [(2, Bo v3)]) (fun v3 => v3 = ((inR e.term_ 0 100000) && (e.data.toList == (⟨#[]⟩ : ByteArray).toList))) ?_ ?_
  ·refine CW.region ?_
   refine RW.k XK 45 2 rfl ?_
   (conv=>whnf);refine ⟨rfl,?_⟩
   refine RW.call rfl (impl_isTerm_fn e.term_) rfl (.cons (.one (.r .r)) (.nil)) fun g4 => ?_
   refine RW.k XK 45 1 rfl ?_
   (conv=>whnf);refine ⟨rfl,?_⟩
   refine RW.gv rfl rfl rfl rfl (fun h5 => V.fieldR rfl rfl rfl rfl (by decide) rfl (Nat.le_of_ble_eq_true rfl)) (fun h5 => ?_) (fun h5 => ?_)
   ·skip
    refine RW.k XK 45 4 rfl ?_
    (conv=>whnf);refine ⟨rfl,?_⟩
    refine RW.nil ?_
    exact ⟨_, by first | rfl | (simp_all; done) | (simp_all; omega) | grind, rfl, Le.of rfl⟩
   ·skip
    refine RW.k XK 45 4 rfl ?_
    (conv=>whnf);refine ⟨rfl,?_⟩
    refine RW.nil ?_
    exact ⟨_, by first | rfl | (simp_all; done) | (simp_all; omega) | grind, rfl, Le.of rfl⟩
  ·intro v3 hv6
   refine CW.ret ?_
   exact Post.one (RV.b rfl (by first | (simp_all [entOk]; done) | grind [entOk])) (AOs.a rfl AOs.e)
 ·skip
  refine CW.k XK 45 1 [1,17] rfl ?_
  (conv=>whnf);refine ⟨rfl,?_⟩
  refine CW.cond rfl (fun h7 => ?_) (fun h7 => ?_)
  ·skip
   refine CW.seq ?_
   refine CW.region ?_
   refine RW.k XK 45 2 rfl ?_
   (conv=>whnf);refine ⟨rfl,?_⟩
   refine RW.call rfl (impl_ReadConf_fn e.data hok) rfl (.cons (.one (.r .r)) (.nil)) fun g8 => ?_
   refine RW.k XK 45 3 rfl ?_
   (conv=>whnf);refine ⟨rfl,?_⟩
   refine RW.assignMove rfl rfl rfl (by decide) (Nat.le_of_ble_eq_true rfl) (Nat.le_of_ble_eq_true rfl) ?_
   refine RW.k XK 45 1 rfl ?_
   (conv=>whnf);refine ⟨rfl,?_⟩
   refine RW.nil ?_
   refine CW.keep 45 [1,4] rfl ?_;(conv=>whnf);refine ⟨?_⟩
   refine CW.seqJ 45 (fun (v9 : Bool) => [(2, Bo v9)]) (fun v9 => v9 = ((inR e.term_ 0 100000) && ((readConf e.data).2))) ?_ ?_
   ·refine CW.region ?_
    refine RW.k XK 45 2 rfl ?_
    (conv=>whnf);refine ⟨rfl,?_⟩
    refine RW.call rfl (impl_isTerm_fn e.term_) rfl (.cons (.one (.r .r)) (.nil)) fun g10 => ?_
    refine RW.k XK 45 1 rfl ?_
    (conv=>whnf);refine ⟨rfl,?_⟩
    refine RW.gv rfl rfl rfl rfl (fun h11 => V.mv (d := Bo ((readConf e.data).2)) rfl rfl) (fun h11 => ?_) (fun h11 => ?_)
    ·skip
     refine RW.k XK 45 2 rfl ?_
     (conv=>whnf);refine ⟨rfl,?_⟩
     refine RW.nil ?_
     exact ⟨_, by first | rfl | (simp_all; done) | (simp_all; omega) | grind, rfl, Le.of rfl⟩
    ·skip
     refine RW.k XK 45 2 rfl ?_
     (conv=>whnf);refine ⟨rfl,?_⟩
     refine RW.nil ?_
     exact ⟨_, by first | rfl | (simp_all; done) | (simp_all; omega) | grind, rfl, Le.of rfl⟩
   ·intro v9 hv12
    refine CW.ret ?_
    exact Post.one (RV.b rfl (by first | (simp_all [entOk]; done) | grind [entOk])) (AOs.a rfl AOs.e)
  ·skip
   refine CW.skip ?_
   refine CW.keep 45 [1] rfl ?_;(conv=>whnf);refine ⟨?_⟩
   refine CW.seqJ 45 (fun (v13 : Bool) => [(2, Bo v13)]) (fun v13 => v13 = (((e.kind == 3) && (inR e.term_ 0 100000)) && decide ((e.data.size : Int) ≤ 120))) ?_ ?_
   ·refine CW.region ?_
    refine RW.k XK 45 4 rfl ?_
    (conv=>whnf);refine ⟨rfl,?_⟩
    refine RW.gv rfl rfl rfl rfl (fun h14 => V.fieldR rfl rfl rfl rfl (by decide) rfl (Nat.le_of_ble_eq_true rfl)) (fun h14 => ?_) (fun h14 => ?_)
    ·skip
     refine RW.k XK 45 1 rfl ?_
     (conv=>whnf);refine ⟨rfl,?_⟩
     refine RW.gcall rfl rfl rfl rfl (impl_isTerm_fn e.term_) rfl (.cons (.one (.r .r)) (.nil)) fun g15 => ?_
     refine RW.k XK 45 2 rfl ?_
     (conv=>whnf);refine ⟨rfl,?_⟩
     refine RW.gv rfl rfl rfl rfl (fun h16 => V.fieldR rfl rfl rfl rfl (by decide) rfl (Nat.le_of_ble_eq_true rfl)) (fun h16 => ?_) (fun h16 => ?_)
     ·skip
      refine RW.k XK 45 5 rfl ?_
      (conv=>whnf);refine ⟨rfl,?_⟩
      refine RW.nil ?_
      exact ⟨_, by first | rfl | (simp_all; done) | (simp_all; omega) | grind, rfl, Le.of rfl⟩
     ·skip
      refine RW.k XK 45 5 rfl ?_
      (conv=>whnf);refine ⟨rfl,?_⟩
      refine RW.nil ?_
      exact ⟨_, by first | rfl | (simp_all; done) | (simp_all; omega) | grind, rfl, Le.of rfl⟩
    ·skip
     refine RW.k XK 45 10 rfl ?_
     (conv=>whnf);refine ⟨rfl,?_⟩
     refine RW.nil ?_
     exact ⟨_, by first | rfl | (simp_all; done) | (simp_all; omega) | grind, rfl, Le.of rfl⟩
   ·intro v13 hv17
    refine CW.ret ?_
    exact Post.one (RV.b rfl (by first | (simp_all [entOk]; done) | grind [entOk])) (AOs.a rfl AOs.e)
set_option maxHeartbeats 4000000 in
theorem impl_LogOk_fn (l : Log) (hok : okToLog l) : Eng.Fn E.P 68 [.agg ((Log.c l).map .r)] (.one (.one (.w (.v (.bool (logOk l)))))) [.agg ((Log.c l).map .r)] := by
 refine Eng.Fn.intro (E := E) (rvs := [.tmp 2]) Try.func68 rfl rfl rfl (by simp [outSlots, moved, rvSlot, sl]) ?_
 intro B g bo
 refine CW.keep 50 [0] rfl ?_;(conv=>whnf);refine ⟨?_⟩
 have hl0 : l.entries.length ≤ maxLen := by have := hok.1; simp only [maxLen]; omega
 refine CW.seq ?_
 refine CW.region ?_
 refine RW.k XK 50 1 rfl ?_
 (conv=>whnf);intro b1;(conv=>whnf);refine ⟨rfl,?_⟩
 refine RW.freezeB (ts := (Log.c l)) 1 rfl (DRd.r (DRd.r (DRd.r DRd.e))) ?_
 refine RW.k XK 50 1 rfl ?_
 (conv=>whnf);refine ⟨rfl,?_⟩
 refine RW.nil ?_
 refine CW.keep 50 [1] rfl ?_;(conv=>whnf);refine ⟨?_⟩
 refine CW.k XK 50 1 [1,3] rfl ?_
 (conv=>whnf);refine ⟨rfl,?_⟩
 refine CW.seq ?_
 refine CW.k XK 50 1 [1,3,9,10,11] rfl ?_
 (conv=>whnf);refine ⟨rfl,?_⟩
 refine CW.block ?_
 refine CW.loopI 50 (fun (zz : Nat × Int) => match zz with | (i, t) => [(1, .rp (Log.c l)), (3, I t), (9, .r (sl 3 Entry.c l.entries)), (10, I (l.entries.length : Int)), (11, I (i : Int))]) (fun (zz : Nat × Int) => match zz with | (i, t) => i ≤ l.entries.length ∧ termsOk t (l.entries.drop i) = termsOk l.startTerm l.entries) (fun (zz : Nat × Int) => match zz with | (i, t) => l.entries.length - i) (0, _) rfl (Le.c rfl <| Le.c rfl <| Le.c rfl <| Le.c rfl <| Le.c rfl <| Le.e) ⟨by omega, by simp⟩ ?_
 rintro ⟨i, t⟩ ⟨hb, hr⟩
 refine CW.k XK 50 1 [1,3,9,10,11,12] rfl ?_
 (conv=>whnf);refine ⟨rfl,?_⟩
 refine CW.seq ?_
 refine CW.cond rfl (fun h2 => ?_) (fun h2 => ?_)
 ·skip
  have hii : i < l.entries.length := by have := h2; simp at this; first | exact this | omega | (simp; done) | (simp; omega)
  obtain ⟨ei, hei⟩ : ∃ e, l.entries[i]? = some e := ⟨_, List.getElem?_eq_getElem hii⟩
  have hdi := drop_get hei
  refine CW.skip ?_
  refine CW.keep 50 [1,3,9,10,11] rfl ?_;(conv=>whnf);refine ⟨?_⟩
  refine CW.seq ?_
  refine CW.block ?_
  refine CW.seq ?_
  refine CW.region ?_
  refine RW.v rfl (V.indexS rfl rfl rfl rfl rfl rfl Entry.len hei) ?_
  refine RW.k XK 50 3 rfl ?_
  (conv=>whnf);intro b3;(conv=>whnf);refine ⟨rfl,?_⟩
  refine RW.freezeB (ts := (Entry.c ei)) 5 rfl (DRd.r (DRd.r (DRd.r DRd.e))) ?_
  refine RW.nil ?_
  refine CW.keep 50 [1,3,5,9,10,11] rfl ?_;(conv=>whnf);refine ⟨?_⟩
  refine CW.seq ?_
  refine CW.seqJ 50 (fun (v4 : Bool) => [(1, .rp (Log.c l)), (5, .rp (Entry.c ei)), (9, .r (sl 3 Entry.c l.entries)), (10, I (l.entries.length : Int)), (11, I (i : Int)), (23, Bo v4)]) (fun v4 => v4 = ((!(entOk ei)) || decide (ei.term_ < t))) ?_ ?_
  ·refine CW.region ?_
   refine RW.k XK 50 1 rfl ?_
   (conv=>whnf);refine ⟨rfl,?_⟩
   refine RW.call rfl (impl_EntryOk_fn ei (hok.2 ei (List.mem_of_getElem? hei))) rfl (.cons (.agg (.cons (.r .r) (.cons (.r .r) (.cons (.r .r) (.nil))))) (.nil)) fun g5 => ?_
   refine RW.k XK 50 2 rfl ?_
   (conv=>whnf);refine ⟨rfl,?_⟩
   refine RW.gv rfl rfl rfl rfl (fun h6 => V.fieldR rfl rfl rfl rfl (by decide) rfl (Nat.le_of_ble_eq_true rfl)) (fun h6 => ?_) (fun h6 => ?_)
   ·skip
    refine RW.k XK 50 4 rfl ?_
    (conv=>whnf);refine ⟨rfl,?_⟩
    refine RW.nil ?_
    exact ⟨_, by first | rfl | (simp_all; done) | (simp_all; omega) | grind, rfl, Le.of rfl⟩
   ·skip
    refine RW.k XK 50 4 rfl ?_
    (conv=>whnf);refine ⟨rfl,?_⟩
    refine RW.nil ?_
    exact ⟨_, by first | rfl | (simp_all; done) | (simp_all; omega) | grind, rfl, Le.of rfl⟩
  ·intro v4 hv7
   refine CW.cond rfl (fun h8 => ?_) (fun h8 => ?_)
   ·skip
    refine CW.k XK 50 1 [2] rfl ?_
    (conv=>whnf);refine ⟨rfl,?_⟩
    refine CW.ret ?_
    exact Post.one (RV.b rfl (by have ht : termsOk l.startTerm l.entries = false := (by rw [← hr, hdi, termsOk]; first | (simp_all; done) | grind); simp [logOk, ht])) (AOs.a rfl AOs.e)
   ·skip
    refine CW.skip ?_
    refine CW.keep 50 [1,5,9,10,11] rfl ?_;(conv=>whnf);refine ⟨?_⟩
    refine CW.region ?_
    refine RW.k XK 50 3 rfl ?_
    (conv=>whnf);refine ⟨rfl,?_⟩
    refine RW.nil ?_
    refine CW.keep 50 [1,3,9,10,11] rfl ?_;(conv=>whnf);refine ⟨?_⟩
    refine CW.region ?_
    refine RW.v rfl (V.inc rfl rfl rfl hii hl0) ?_
    refine RW.k XK 50 1 rfl ?_
    (conv=>whnf);refine ⟨rfl,?_⟩
    refine RW.nil ?_
    exact ⟨(i + 1, _), by simp only []; omega, ⟨by omega, by rw [← hr, hdi, termsOk]; simp_all⟩, rfl, Le.c rfl <| Le.c rfl <| Le.c rfl <| Le.c rfl <| Le.c rfl <| Le.e⟩
 ·skip
  have hii : l.entries.length ≤ i := by have := h2; simp at this; first | exact this | omega | (simp; done) | (simp; omega)
  have hdi : l.entries.drop i = [] := List.drop_eq_nil_of_le hii
  refine CW.exit ?_
  refine CW.keep 50 [1] rfl ?_;(conv=>whnf);refine ⟨?_⟩
  refine CW.seqJ 50 (fun (v9 : Bool) => [(2, Bo v9)]) (fun v9 => v9 = ((((inR l.start 0 1000000) && (inR l.startTerm 0 100000)) && decide ((l.entries.length : Int) ≤ 60)) && decide ((IntKind.i64.wrap (l.start + (l.entries.length : Int))) ≤ 1000000))) ?_ ?_
  ·refine CW.region ?_
   refine RW.k XK 50 2 rfl ?_
   (conv=>whnf);refine ⟨rfl,?_⟩
   refine RW.call rfl (impl_isIndex_fn l.start) rfl (.cons (.one (.r .r)) (.nil)) fun g10 => ?_
   refine RW.k XK 50 1 rfl ?_
   (conv=>whnf);refine ⟨rfl,?_⟩
   refine RW.gv rfl rfl rfl rfl (fun h11 => V.fieldR rfl rfl rfl rfl (by decide) rfl (Nat.le_of_ble_eq_true rfl)) (fun h11 => ?_) (fun h11 => ?_)
   ·skip
    refine RW.k XK 50 1 rfl ?_
    (conv=>whnf);refine ⟨rfl,?_⟩
    refine RW.gcall rfl rfl rfl rfl (impl_isTerm_fn l.startTerm) rfl (.cons (.one (.r .r)) (.nil)) fun g12 => ?_
    refine RW.k XK 50 2 rfl ?_
    (conv=>whnf);refine ⟨rfl,?_⟩
    refine RW.gv rfl rfl rfl rfl (fun h13 => V.fieldR rfl rfl rfl rfl (by decide) rfl (Nat.le_of_ble_eq_true rfl)) (fun h13 => ?_) (fun h13 => ?_)
    ·skip
     refine RW.k XK 50 5 rfl ?_
     (conv=>whnf);refine ⟨rfl,?_⟩
     refine RW.gv rfl rfl rfl rfl (fun h14 => V.fieldR rfl rfl rfl rfl (by decide) rfl (Nat.le_of_ble_eq_true rfl)) (fun h14 => ?_) (fun h14 => ?_)
     ·skip
      refine RW.k XK 50 8 rfl ?_
      (conv=>whnf);refine ⟨rfl,?_⟩
      refine RW.nil ?_
      exact ⟨_, by first | rfl | (simp_all; done) | (simp_all; omega) | grind, rfl, Le.of rfl⟩
     ·skip
      refine RW.k XK 50 8 rfl ?_
      (conv=>whnf);refine ⟨rfl,?_⟩
      refine RW.nil ?_
      exact ⟨_, by first | rfl | (simp_all; done) | (simp_all; omega) | grind, rfl, Le.of rfl⟩
    ·skip
     refine RW.k XK 50 14 rfl ?_
     (conv=>whnf);refine ⟨rfl,?_⟩
     refine RW.nil ?_
     exact ⟨_, by first | rfl | (simp_all; done) | (simp_all; omega) | grind, rfl, Le.of rfl⟩
   ·skip
    refine RW.k XK 50 19 rfl ?_
    (conv=>whnf);refine ⟨rfl,?_⟩
    refine RW.nil ?_
    exact ⟨_, by first | rfl | (simp_all; done) | (simp_all; omega) | grind, rfl, Le.of rfl⟩
  ·intro v9 hv15
   refine CW.ret ?_
   exact Post.one (RV.b rfl (by have ht : termsOk l.startTerm l.entries = true := (by rw [← hr, hdi]; rfl); clear hr hdi; first | (simp_all [logOk]; done) | grind [logOk])) (AOs.a rfl AOs.e)
set_option maxHeartbeats 4000000 in
theorem impl_copyInts_fn (a : List Int) (hm : a.length ≤ 1048576) : Eng.Fn E.P 75 [.one (.r (sl 1 cI a))] (.one (.one (.w (sl 1 cI a)))) [.one (.r (sl 1 cI a))] := by
 refine Eng.Fn.intro (E := E) (rvs := [.tmp 2]) Try.func75 rfl rfl rfl (by simp [outSlots, moved, rvSlot, sl]) ?_
 intro B g bo
 refine CW.bound (x := .tmp 0) (n := a.length) (AsT.r) (fun hl0 => ?_)
 refine CW.keep 6 [0] rfl ?_;(conv=>whnf);refine ⟨?_⟩
 refine CW.k XK 6 1 [0] rfl ?_
 (conv=>whnf);refine ⟨rfl,?_⟩
 refine CW.seq ?_
 refine CW.region ?_
 refine RW.build0 cI rfl rfl rfl rfl rfl fun X1 => ?_
 refine RW.k XK 6 1 rfl ?_
 (conv=>whnf);refine ⟨rfl,?_⟩
 refine RW.appendSR (c := cI) (l1 := ([] : List Int)) (l2 := a) rfl rfl rfl rfl rfl rfl rfl rfl .r (by decide) (Nat.le_of_ble_eq_true rfl) cI.len (fun _ => rfl) rfl (by simp only [maxLen, List.length_nil]; omega) (by simp only [maxLen, List.length_nil]; omega) fun X2 => ?_
 refine RW.assignMove rfl rfl rfl (by decide) (Nat.le_of_ble_eq_true rfl) (Nat.le_of_ble_eq_true rfl) ?_
 refine RW.nil ?_
 refine CW.keep 6 [2] rfl ?_;(conv=>whnf);refine ⟨?_⟩
 refine CW.ret ?_
 exact Post.one (RV.w rfl (by rfl)) (AOs.r AOs.e)
set_option maxHeartbeats 4000000 in
theorem slices_IndexFunc___int_int__fn (a : List Int) (f_id : Nat) (f_ts : List T) (f_p : Int → Bool) (f_h : ∀ x, Eng.Fn E.P f_id [.one (.r (.v (.int .i64 x))), .one (.r (.f none f_ts))] (wB (f_p x)) [.one (.r (.v (.int .i64 x))), .one (.r (.f none f_ts))]) : Eng.Fn E.P 137 [.one (.r (sl 1 cI a)), .one (.r (.f (some f_id) f_ts))] (.one (.one (.w (.v (.int .i64 (idxF f_p a)))))) [.one (.r (sl 1 cI a)), .one (.r (.f (some f_id) f_ts))] := by
 refine Eng.Fn.intro (E := E) (rvs := [.tmp 4]) Try.func137 rfl rfl rfl (by simp [outSlots, moved, rvSlot, sl]) ?_
 intro B g bo
 refine CW.bound (x := .tmp 0) (n := a.length) (AsT.r) (fun hl0 => ?_)
 refine CW.keep 19 [0,1] rfl ?_;(conv=>whnf);refine ⟨?_⟩
 refine CW.k XK 19 1 [0,1] rfl ?_
 (conv=>whnf);refine ⟨rfl,?_⟩
 refine CW.seq ?_
 refine CW.k XK 19 1 [0,1,7,8] rfl ?_
 (conv=>whnf);refine ⟨rfl,?_⟩
 refine CW.block ?_
 refine CW.loopI 19 (fun (i : Nat) => [(0, .r (sl 1 cI a)), (1, .r (.f (some f_id) f_ts)), (7, I (a.length : Int)), (8, I (i : Int))]) (fun (i : Nat) => i ≤ a.length ∧ (a.take i).any f_p = false) (fun (i : Nat) => a.length - i) 0 rfl (Le.c rfl <| Le.c rfl <| Le.c rfl <| Le.c rfl <| Le.e) ⟨by omega, by simp⟩ ?_
 rintro i ⟨hb, hr⟩
 refine CW.k XK 19 1 [0,1,7,8,9] rfl ?_
 (conv=>whnf);refine ⟨rfl,?_⟩
 refine CW.seq ?_
 refine CW.cond rfl (fun h1 => ?_) (fun h1 => ?_)
 ·skip
  have hii : i < a.length := by have := h1; simp at this; first | exact this | omega | (simp; done) | (simp; omega)
  obtain ⟨ei, hei⟩ : ∃ e, a[i]? = some e := ⟨_, List.getElem?_eq_getElem hii⟩
  have hdi := drop_get hei
  refine CW.skip ?_
  refine CW.keep 19 [0,1,7,8] rfl ?_;(conv=>whnf);refine ⟨?_⟩
  refine CW.seq ?_
  refine CW.block ?_
  refine CW.k XK 19 1 [0,1,5,7,8] rfl ?_
  (conv=>whnf);refine ⟨rfl,?_⟩
  refine CW.seq ?_
  refine CW.region ?_
  refine RW.k XK 19 3 rfl ?_
  (conv=>whnf);refine ⟨rfl,?_⟩
  refine RW.v rfl (V.indexS rfl rfl rfl rfl rfl rfl cI.len hei) ?_
  refine RW.k XK 19 1 rfl ?_
  (conv=>whnf);refine ⟨rfl,?_⟩
  refine RW.callF (ars := [.one (.r (.v (.int .i64 ei)))]) rfl (f_h ei) rfl rfl (.cons (.one (.r .r)) .nil) ?_
  refine RW.nil ?_
  refine CW.keep 19 [0,1,5,7,8,16] rfl ?_;(conv=>whnf);refine ⟨?_⟩
  refine CW.cond rfl (fun h2 => ?_) (fun h2 => ?_)
  ·skip
   refine CW.k XK 19 1 [4] rfl ?_
   (conv=>whnf);refine ⟨rfl,?_⟩
   refine CW.ret ?_
   exact Post.one (RV.i rfl (by exact idxF_at hr hei h2)) (AOs.r (AOs.r AOs.e))
  ·skip
   refine CW.skip ?_
   refine CW.keep 19 [0,1,7,8] rfl ?_;(conv=>whnf);refine ⟨?_⟩
   refine CW.region ?_
   refine RW.v rfl (V.inc rfl rfl rfl hii hl0) ?_
   refine RW.k XK 19 1 rfl ?_
   (conv=>whnf);refine ⟨rfl,?_⟩
   refine RW.nil ?_
   exact ⟨i + 1, by omega, ⟨by omega, any_snoc hr hei h2⟩, rfl, Le.c rfl <| Le.c rfl <| Le.c rfl <| Le.c rfl <| Le.e⟩
 ·skip
  have hii : a.length ≤ i := by have := h1; simp at this; first | exact this | omega | (simp; done) | (simp; omega)
  have hdi : a.drop i = [] := List.drop_eq_nil_of_le hii
  refine CW.exit ?_
  refine CW.keep 19 [] rfl ?_;(conv=>whnf);refine ⟨?_⟩
  refine CW.k XK 19 1 [4] rfl ?_
  (conv=>whnf);refine ⟨rfl,?_⟩
  refine CW.ret ?_
  exact Post.one (RV.i rfl (by exact idxF_no hr hii)) (AOs.r (AOs.r AOs.e))
set_option maxHeartbeats 4000000 in
theorem slices_DeleteFunc___int_int__fn (a : List Int) (f_id : Nat) (f_ts : List T) (f_p : Int → Bool) (f_h : ∀ x, Eng.Fn E.P f_id [.one (.r (.v (.int .i64 x))), .one (.r (.f none f_ts))] (wB (f_p x)) [.one (.r (.v (.int .i64 x))), .one (.r (.f none f_ts))]) : Eng.Fn E.P 129 [.one (.w (sl 1 cI a)), .one (.r (.f (some f_id) f_ts))] (.one (.one (.w (sl 1 cI (a.filter (fun x => !f_p x)))))) [.gone, .one (.r (.f (some f_id) f_ts))] := by
 refine Eng.Fn.intro (E := E) (rvs := [.tmp 4]) Try.func129 rfl rfl rfl (by simp [outSlots, moved, rvSlot, sl]) ?_
 intro B g bo
 refine CW.bound (x := .tmp 0) (n := a.length) (AsT.al rfl rfl nofun) (fun hl0 => ?_)
 refine CW.keep 42 [0,1] rfl ?_;(conv=>whnf);refine ⟨?_⟩
 refine CW.k XK 42 1 [0,1] rfl ?_
 (conv=>whnf);refine ⟨rfl,?_⟩
 refine CW.seq ?_
 refine CW.region ?_
 refine RW.k XK 42 2 rfl ?_
 (conv=>whnf);refine ⟨rfl,?_⟩
 refine RW.callOwn rfl (slices_IndexFunc___int_int__fn a f_id f_ts f_p f_h) rfl (.cons (.one (.r (.al (k := none) (i := 0) (sz := 1) (V := (g 0 0)) rfl rfl nofun))) (.cons (.one (.r .r)) (.nil))) rfl fun g1 => ?_
 refine RW.k XK 42 1 rfl ?_
 (conv=>whnf);refine ⟨rfl,?_⟩
 refine RW.nil ?_
 refine CW.keep 42 [0,1,5] rfl ?_;(conv=>whnf);refine ⟨?_⟩
 refine CW.seq ?_
 refine CW.k XK 42 1 [0,1,5,12] rfl ?_
 (conv=>whnf);refine ⟨rfl,?_⟩
 refine CW.cond rfl (fun h2 => ?_) (fun h2 => ?_)
 ·skip
  refine CW.seq ?_
  refine CW.region ?_
  refine RW.k XK 42 2 rfl ?_
  (conv=>whnf);refine ⟨rfl,?_⟩
  refine RW.pullS 4 0 (by decide) rfl rfl ?_
  refine RW.nil ?_
  refine CW.keep 42 [4] rfl ?_;(conv=>whnf);refine ⟨?_⟩
  refine CW.ret ?_
  exact Post.one (RV.w rfl (by exact idxF_none h2)) (AOs.gn (AOs.r AOs.e))
 ·skip
  obtain ⟨m, hm1, hm2, hm3⟩ := idxF_some h2
  refine CW.skip ?_
  refine CW.keep 42 [0,1,5] rfl ?_;(conv=>whnf);refine ⟨?_⟩
  refine CW.seq ?_
  refine CW.k XK 42 1 [0,1,5,6] rfl ?_
  (conv=>whnf);refine ⟨rfl,?_⟩
  refine CW.block ?_
  refine CW.loopI 42 (fun (zz : Nat × Nat × List Int) => match zz with | (i, j, b) => [(0, .w (sl 1 cI b) (g 0 0)), (1, .r (.f (some f_id) f_ts)), (5, I (i : Int)), (6, I (j : Int))]) (fun (zz : Nat × Nat × List Int) => match zz with | (i, j, b) => DelP f_p a i j b) (fun (zz : Nat × Nat × List Int) => match zz with | (i, j, b) => a.length - j) (m, m + 1, a) rfl (Le.c rfl <| Le.c rfl <| Le.c (congrArg I hm1) <| Le.c (congrArg I (by rw [hm1]; exact wrap_nat (n := m + 1) (by omega))) <| Le.e) ⟨by omega, by omega, rfl, hm3, rfl⟩ ?_
  rintro ⟨i, j, b⟩ hP
  have hPl := hP.len
  have hPt := hP.lt
  have hPe := hP.le
  refine CW.seq ?_
  refine CW.k XK 42 1 [0,1,5,6,19] rfl ?_
  (conv=>whnf);refine ⟨rfl,?_⟩
  refine CW.cond rfl (fun h3 => ?_) (fun h3 => ?_)
  ·skip
   have hij : j < b.length := by have := h3; simp at this; first | exact this | omega | (simp; done) | (simp; omega)
   obtain ⟨ej, hej⟩ : ∃ e, b[j]? = some e := ⟨_, List.getElem?_eq_getElem hij⟩
   have hdj := drop_get hej
   refine CW.skip ?_
   refine CW.keep 42 [0,1,5,6] rfl ?_;(conv=>whnf);refine ⟨?_⟩
   refine CW.seq ?_
   refine CW.block ?_
   refine CW.seq ?_
   refine CW.region ?_
   refine RW.k XK 42 2 rfl ?_
   (conv=>whnf);refine ⟨rfl,?_⟩
   refine RW.v rfl (V.indexW rfl rfl rfl rfl rfl rfl rfl hij) ?_
   refine RW.v rfl (V.loadF (m := j) (off := 0) rfl rfl (.inl rfl) rfl rfl cI.len hej (by decide) rfl) ?_
   refine RW.k XK 42 1 rfl ?_
   (conv=>whnf);refine ⟨rfl,?_⟩
   refine RW.nil ?_
   refine CW.keep 42 [0,1,5,6,7] rfl ?_;(conv=>whnf);refine ⟨?_⟩
   refine CW.seq ?_
   refine CW.region ?_
   refine RW.k XK 42 2 rfl ?_
   (conv=>whnf);refine ⟨rfl,?_⟩
   refine RW.callF (ars := [.one (.r (.v (.int .i64 ej)))]) rfl (f_h ej) rfl rfl (.cons (.one (.r .r)) .nil) ?_
   refine RW.k XK 42 1 rfl ?_
   (conv=>whnf);refine ⟨rfl,?_⟩
   refine RW.nil ?_
   refine CW.keep 42 [0,1,5,6,7,29] rfl ?_;(conv=>whnf);refine ⟨?_⟩
   refine CW.cond rfl (fun h4 => ?_) (fun h4 => ?_)
   ·skip
    refine CW.seq ?_
    refine CW.region ?_
    refine RW.k XK 42 3 rfl ?_
    (conv=>whnf);refine ⟨rfl,?_⟩
    refine RW.v rfl (V.indexW rfl rfl rfl rfl rfl rfl rfl (by omega)) ?_
    refine RW.storeS1 (v := ej) (c := cI) (u := .v (.int .i64 ej)) rfl rfl rfl rfl rfl rfl rfl (.inl rfl) rfl cI.len (by omega) rfl ?_
    refine RW.nil ?_
    refine CW.keep 42 [0,1,5,6] rfl ?_;(conv=>whnf);refine ⟨?_⟩
    refine CW.region ?_
    refine RW.k XK 42 1 rfl ?_
    (conv=>whnf);refine ⟨rfl,?_⟩
    refine RW.v rfl (V.inc rfl rfl rfl (show i < a.length by omega) hl0) ?_
    refine RW.k XK 42 1 rfl ?_
    (conv=>whnf);refine ⟨rfl,?_⟩
    refine RW.nil ?_
    refine CW.keep 42 [0,1,5,6] rfl ?_;(conv=>whnf);refine ⟨?_⟩
    refine CW.region ?_
    refine RW.k XK 42 1 rfl ?_
    (conv=>whnf);refine ⟨rfl,?_⟩
    refine RW.v rfl (V.inc rfl rfl rfl (show j < a.length by omega) hl0) ?_
    refine RW.k XK 42 1 rfl ?_
    (conv=>whnf);refine ⟨rfl,?_⟩
    refine RW.nil ?_
    exact ⟨(i + 1, j + 1, (b.set i ej)), by simp only []; omega, (by first | exact hP.keep hej h4 | exact hP.skip hej h4), rfl, Le.c rfl <| Le.c rfl <| Le.c rfl <| Le.c rfl <| Le.e⟩
   ·skip
    refine CW.skip ?_
    refine CW.keep 42 [0,1,5,6] rfl ?_;(conv=>whnf);refine ⟨?_⟩
    refine CW.region ?_
    refine RW.k XK 42 1 rfl ?_
    (conv=>whnf);refine ⟨rfl,?_⟩
    refine RW.v rfl (V.inc rfl rfl rfl (show j < a.length by omega) hl0) ?_
    refine RW.k XK 42 1 rfl ?_
    (conv=>whnf);refine ⟨rfl,?_⟩
    refine RW.nil ?_
    exact ⟨(i, j + 1, b), by simp only []; omega, (by first | exact hP.keep hej h4 | exact hP.skip hej h4), rfl, Le.c rfl <| Le.c rfl <| Le.c rfl <| Le.c rfl <| Le.e⟩
  ·skip
   have hij : b.length ≤ j := by have := h3; simp at this; first | exact this | omega | (simp; done) | (simp; omega)
   have hdj : b.drop j = [] := List.drop_eq_nil_of_le hij
   refine CW.exit ?_
   refine CW.keep 42 [0,5] rfl ?_;(conv=>whnf);refine ⟨?_⟩
   refine CW.seq ?_
   refine CW.region ?_
   refine RW.k XK 42 2 rfl ?_
   (conv=>whnf);refine ⟨rfl,?_⟩
   refine RW.v rfl (V.sliceLo (m := i) rfl rfl rfl rfl rfl rfl rfl (by first | omega | (simp; omega))) ?_
   refine RW.clearT (0) rfl rfl rfl rfl rfl rfl rfl rfl rfl rfl rfl (fun _ => ⟨_, rfl⟩) rfl (by first | omega | (simp; omega)) ?_
   refine RW.nil ?_
   refine CW.keep 42 [0,5] rfl ?_;(conv=>whnf);refine ⟨?_⟩
   refine CW.seq ?_
   refine CW.region ?_
   refine RW.k XK 42 2 rfl ?_
   (conv=>whnf);refine ⟨rfl,?_⟩
   refine RW.takeOwn (m := i) rfl rfl rfl rfl rfl rfl rfl rfl rfl cI.len (by first | omega | (simp; omega)) (by decide) (Nat.le_of_ble_eq_true rfl) fun Y5 => ?_
   refine RW.assignMove rfl rfl rfl (by decide) (Nat.le_of_ble_eq_true rfl) (Nat.le_of_ble_eq_true rfl) ?_
   refine RW.nil ?_
   refine CW.keep 42 [4] rfl ?_;(conv=>whnf);refine ⟨?_⟩
   refine CW.ret ?_
   exact Post.one (RV.w rfl (by exact hP.fin hij)) (AOs.gn (AOs.r AOs.e))
set_option maxHeartbeats 4000000 in
theorem impl_without_1_fn (x : Int) (c : Int) : Eng.Fn E.P 130 [.one (.r (.v (.int .i64 x))), .one (.r (.f none [.v (.int .i64 c)]))] (.one (.one (.w (.v (.bool (x == c)))))) [.one (.r (.v (.int .i64 x))), .one (.r (.f none [.v (.int .i64 c)]))] := by
 refine Eng.Fn.intro (E := E) (rvs := [.tmp 3]) Try.func130 rfl rfl rfl (by simp [outSlots, moved, rvSlot, sl]) ?_
 intro B g bo
 refine CW.asRp 1 rfl ?_
 refine CW.keep 7 [0,1] rfl ?_;(conv=>whnf);refine ⟨?_⟩
 refine CW.k XK 7 2 [3] rfl ?_
 (conv=>whnf);refine ⟨rfl,?_⟩
 refine CW.ret ?_
 exact Post.one (RV.b rfl (by rfl)) (AOs.r (AOs.r AOs.e))
set_option maxHeartbeats 4000000 in
theorem impl_without_fn (a : List Int) (n : Int) (hm : a.length ≤ 1048576) : Eng.Fn E.P 98 [.one (.r (sl 1 cI a)), .one (.r (.v (.int .i64 n)))] (.one (.one (.w (sl 1 cI (others a n))))) [.one (.r (sl 1 cI a)), .one (.r (.v (.int .i64 n)))] := by
 refine Eng.Fn.intro (E := E) (rvs := [.tmp 4]) Try.func98 rfl rfl rfl (by simp [outSlots, moved, rvSlot, sl]) ?_
 intro B g bo
 refine CW.bound (x := .tmp 0) (n := a.length) (AsT.r) (fun hl0 => ?_)
 refine CW.keep 9 [0,1] rfl ?_;(conv=>whnf);refine ⟨?_⟩
 refine CW.k XK 9 1 [0,3] rfl ?_
 (conv=>whnf);intro b1;(conv=>whnf);refine ⟨rfl,?_⟩
 refine CW.seq ?_
 refine CW.region ?_
 refine RW.k XK 9 1 rfl ?_
 (conv=>whnf);refine ⟨rfl,?_⟩
 refine RW.call rfl (impl_copyInts_fn a hm) rfl (.cons (.one (.r .r)) (.nil)) fun g2 => ?_
 refine RW.freezeB (ts := [.v (.int .i64 n)]) 3 rfl (DRd.r DRd.e) ?_
 refine RW.v rfl (V.mkFunc rfl rfl) ?_
 refine RW.callW (k := 6) (slices_DeleteFunc___int_int__fn a 130 ([.v (.int .i64 n)]) (fun x => x == n) (fun x => impl_without_1_fn x n)) rfl rfl (Nat.le_of_ble_eq_true rfl) (by decide) (.here (AsW.gone) (.cons (.one (.r .r)) (.nil))) rfl fun g3 q4 => ?_
 refine RW.assignMove rfl rfl rfl (by decide) (Nat.le_of_ble_eq_true rfl) (Nat.le_of_ble_eq_true rfl) ?_
 refine RW.nil ?_
 refine CW.keep 9 [4] rfl ?_;(conv=>whnf);refine ⟨?_⟩
 refine CW.ret ?_
 exact Post.one (RV.w rfl (by rfl)) (AOs.r (AOs.r AOs.e))
set_option maxHeartbeats 4000000 in
theorem slices_Equal___int_int__fn (a : List Int) (b : List Int) : Eng.Fn E.P 121 [.one (.r (sl 1 cI a)), .one (.r (sl 1 cI b))] (.one (.one (.w (.v (.bool (eqS eqI a b)))))) [.one (.r (sl 1 cI a)), .one (.r (sl 1 cI b))] := by
 refine Eng.Fn.intro (E := E) (rvs := [.tmp 4]) Try.func121 rfl rfl rfl (by simp [outSlots, moved, rvSlot, sl]) ?_
 intro B g bo
 refine CW.bound (x := .tmp 0) (n := a.length) (AsT.r) (fun hl0 => ?_)
 refine CW.bound (x := .tmp 1) (n := b.length) (AsT.r) (fun hl1 => ?_)
 refine CW.keep 26 [0,1] rfl ?_;(conv=>whnf);refine ⟨?_⟩
 refine CW.k XK 26 1 [0,1] rfl ?_
 (conv=>whnf);refine ⟨rfl,?_⟩
 refine CW.seq ?_
 refine CW.k XK 26 1 [0,1,10] rfl ?_
 (conv=>whnf);refine ⟨rfl,?_⟩
 refine CW.cond rfl (fun h1 => ?_) (fun h1 => ?_)
 ·skip
  refine CW.k XK 26 1 [4] rfl ?_
  (conv=>whnf);refine ⟨rfl,?_⟩
  refine CW.ret ?_
  exact Post.one (RV.b rfl (by exact (eqS_ne (by have := h1; simp at this; omega)).symm)) (AOs.r (AOs.r AOs.e))
 ·skip
  refine CW.skip ?_
  refine CW.keep 26 [0,1] rfl ?_;(conv=>whnf);refine ⟨?_⟩
  refine CW.seq ?_
  refine CW.k XK 26 1 [0,1,12,13] rfl ?_
  (conv=>whnf);refine ⟨rfl,?_⟩
  refine CW.block ?_
  refine CW.loopI 26 (fun (i : Nat) => [(0, .r (sl 1 cI a)), (1, .r (sl 1 cI b)), (12, I (a.length : Int)), (13, I (i : Int))]) (fun (i : Nat) => i ≤ a.length ∧ eqS eqI (a.drop i) (b.drop i) = eqS eqI a b) (fun (i : Nat) => a.length - i) 0 rfl (Le.c rfl <| Le.c rfl <| Le.c rfl <| Le.c rfl <| Le.e) ⟨by omega, by simp⟩ ?_
  rintro i ⟨hb, hr⟩
  have hlen : a.length = b.length := by simp at h1; omega
  refine CW.k XK 26 1 [0,1,12,13,14] rfl ?_
  (conv=>whnf);refine ⟨rfl,?_⟩
  refine CW.seq ?_
  refine CW.cond rfl (fun h2 => ?_) (fun h2 => ?_)
  ·skip
   have hii : i < a.length := by have := h2; simp at this; first | exact this | omega | (simp; done) | (simp; omega)
   obtain ⟨ei, hei⟩ : ∃ e, a[i]? = some e := ⟨_, List.getElem?_eq_getElem hii⟩
   have hdi := drop_get hei
   have hib : i < b.length := by omega
   obtain ⟨eb, heb⟩ : ∃ e, b[i]? = some e := ⟨_, List.getElem?_eq_getElem hib⟩
   have hdb := drop_get heb
   refine CW.skip ?_
   refine CW.keep 26 [0,1,12,13] rfl ?_;(conv=>whnf);refine ⟨?_⟩
   refine CW.seq ?_
   refine CW.block ?_
   refine CW.k XK 26 1 [0,1,5,12,13] rfl ?_
   (conv=>whnf);refine ⟨rfl,?_⟩
   refine CW.seq ?_
   refine CW.drawn (by kernel_rfl) ?_
   refine RQ.k XK 26 2 rfl ?_
   (conv=>whnf);refine ⟨rfl,?_⟩
   refine RQ.v rfl (V.indexS rfl rfl rfl rfl rfl rfl cI.len hei) ?_
   refine RQ.k XK 26 3 rfl ?_
   (conv=>whnf);refine ⟨rfl,?_⟩
   refine RQ.v rfl (V.indexS rfl rfl rfl rfl rfl rfl cI.len heb) ?_
   refine RQ.k XK 26 2 rfl ?_
   (conv=>whnf);refine ⟨rfl,?_⟩
   refine RQ.nil ?_
   refine CW.keep 26 [0,1,12,13,24] rfl ?_;(conv=>whnf);refine ⟨?_⟩
   refine CW.cond rfl (fun h3 => ?_) (fun h3 => ?_)
   ·skip
    refine CW.k XK 26 1 [4] rfl ?_
    (conv=>whnf);refine ⟨rfl,?_⟩
    refine CW.ret ?_
    exact Post.one (RV.b rfl (by rw [← hr, hdi, hdb]; simp_all [eqS, eqI])) (AOs.r (AOs.r AOs.e))
   ·skip
    refine CW.skip ?_
    refine CW.keep 26 [0,1,12,13] rfl ?_;(conv=>whnf);refine ⟨?_⟩
    refine CW.region ?_
    refine RW.v rfl (V.inc rfl rfl rfl hii hl0) ?_
    refine RW.k XK 26 1 rfl ?_
    (conv=>whnf);refine ⟨rfl,?_⟩
    refine RW.nil ?_
    exact ⟨i + 1, by omega, ⟨by omega, by simp_all [eqS, eqI]⟩, rfl, Le.c rfl <| Le.c rfl <| Le.c rfl <| Le.c rfl <| Le.e⟩
  ·skip
   have hii : a.length ≤ i := by have := h2; simp at this; first | exact this | omega | (simp; done) | (simp; omega)
   have hdi : a.drop i = [] := List.drop_eq_nil_of_le hii
   refine CW.exit ?_
   refine CW.keep 26 [] rfl ?_;(conv=>whnf);refine ⟨?_⟩
   refine CW.k XK 26 1 [4] rfl ?_
   (conv=>whnf);refine ⟨rfl,?_⟩
   refine CW.ret ?_
   exact Post.one (RV.b rfl (by rw [← hr, hdi, List.drop_eq_nil_of_le (show b.length ≤ i by omega)]; rfl)) (AOs.r (AOs.r AOs.e))
set_option maxHeartbeats 4000000 in
theorem impl_lastConf_fn (n : Node) (idx : Int) (hok : okToNode n) : Eng.Fn E.P 113 [.agg ((Node.c n).map .r), .one (.r (.v (.int .i64 idx)))] (.tup [.one (.w (.v (.int .i64 ((lastC n idx).1)))), .one (.w (sl 1 cI ((lastC n idx).2)))]) [.agg ((Node.c n).map .r), .one (.r (.v (.int .i64 idx)))] := by
 refine Eng.Fn.intro (E := E) (rvs := [.tmp 4, .tmp 5]) Try.func113 rfl rfl rfl (by simp [outSlots, moved, rvSlot, sl]) ?_
 intro B g bo
 refine CW.keep 57 [0,1] rfl ?_;(conv=>whnf);refine ⟨?_⟩
 have hl0 : n.log.entries.length ≤ maxLen := by have := hok.2.1.1; simp only [maxLen]; omega
 refine CW.seq ?_
 refine CW.region ?_
 refine RW.k XK 57 1 rfl ?_
 (conv=>whnf);intro b1;(conv=>whnf);refine ⟨rfl,?_⟩
 refine RW.freezeB (ts := (Node.c n)) 2 rfl (DRd.r (DRd.r (DRd.r (DRd.r (DRd.r (DRd.r (DRd.r (DRd.r (DRd.r (DRd.r (DRd.r (DRd.r (DRd.r (DRd.r DRd.e)))))))))))))) ?_
 refine RW.k XK 57 2 rfl ?_
 (conv=>whnf);refine ⟨rfl,?_⟩
 refine RW.nil ?_
 refine CW.keep 57 [1,2] rfl ?_;(conv=>whnf);refine ⟨?_⟩
 refine CW.seq ?_
 refine CW.k XK 57 1 [1,2,6] rfl ?_
 (conv=>whnf);refine ⟨rfl,?_⟩
 refine CW.block ?_
 refine CW.loopI 57 (fun (i : Nat) => [(1, I idx), (2, .rp (Node.c n)), (6, I ((i : Int) - 1))]) (fun (i : Nat) => i ≤ n.log.entries.length ∧ lcGo n.log.start idx n.log.entries i = lcGo n.log.start idx n.log.entries n.log.entries.length) (fun (i : Nat) => i) n.log.entries.length rfl (Le.c rfl <| Le.c rfl <| Le.c (congrArg I (wrap_pred hl0)) <| Le.e) ⟨by omega, rfl⟩ ?_
 rintro i ⟨hb, hr⟩
 refine CW.seq ?_
 refine CW.k XK 57 1 [1,2,6,16] rfl ?_
 (conv=>whnf);refine ⟨rfl,?_⟩
 refine CW.cond rfl (fun h2 => ?_) (fun h2 => ?_)
 ·skip
  have hi1 : 0 < i := by simp at h2; omega
  refine CW.skip ?_
  refine CW.keep 57 [1,2,6] rfl ?_;(conv=>whnf);refine ⟨?_⟩
  refine CW.seq ?_
  refine CW.block ?_
  refine CW.seq ?_
  refine CW.region ?_
  refine RW.k XK 57 4 rfl ?_
  (conv=>whnf);refine ⟨rfl,?_⟩
  refine RW.v rfl (V.indexZ (m := (i - 1)) (v := (n.log.entries.getD (i - 1) Entry.z)) rfl rfl rfl rfl rfl rfl (by omega) Entry.len (getD_some (by omega))) ?_
  refine RW.k XK 57 3 rfl ?_
  (conv=>whnf);intro b3;(conv=>whnf);refine ⟨rfl,?_⟩
  refine RW.freezeB (ts := (Entry.c (n.log.entries.getD (i - 1) Entry.z))) 7 rfl (DRd.r (DRd.r (DRd.r DRd.e))) ?_
  refine RW.nil ?_
  refine CW.keep 57 [1,2,6,7] rfl ?_;(conv=>whnf);refine ⟨?_⟩
  refine CW.seq ?_
  refine CW.region ?_
  refine RW.k XK 57 2 rfl ?_
  (conv=>whnf);refine ⟨rfl,?_⟩
  refine RW.call rfl (impl_ReadConf_fn ((n.log.entries.getD (i - 1) Entry.z).data) (hok.2.1.2 _ (getD_mem (by omega)))) rfl (.cons (.one (.r .r)) (.nil)) fun g4 => ?_
  refine RW.k XK 57 3 rfl ?_
  (conv=>whnf);refine ⟨rfl,?_⟩
  refine RW.assignMove rfl rfl rfl (by decide) (Nat.le_of_ble_eq_true rfl) (Nat.le_of_ble_eq_true rfl) ?_
  refine RW.k XK 57 1 rfl ?_
  (conv=>whnf);refine ⟨rfl,?_⟩
  refine RW.nil ?_
  refine CW.keep 57 [1,2,6,7,8,9] rfl ?_;(conv=>whnf);refine ⟨?_⟩
  refine CW.seqJ 57 (fun (v5 : Bool) => [(1, I idx), (2, .rp (Node.c n)), (6, I ((i : Int) - 1)), (8, .w (sl 1 cI ((readConf ((n.log.entries.getD (i - 1) Entry.z).data)).1)) (g4 0 0)), (46, Bo v5)]) (fun v5 => v5 = ((((readConf ((n.log.entries.getD (i - 1) Entry.z).data)).2) && ((n.log.entries.getD (i - 1) Entry.z).kind == 2)) && decide ((IntKind.i64.wrap ((IntKind.i64.wrap (n.log.start + ((i : Int) - 1))) + 1)) ≤ idx))) ?_ ?_
  ·refine CW.region ?_
   refine RW.k XK 57 2 rfl ?_
   (conv=>whnf);refine ⟨rfl,?_⟩
   refine RW.gv rfl rfl rfl rfl (fun h6 => V.fieldR rfl rfl rfl rfl (by decide) rfl (Nat.le_of_ble_eq_true rfl)) (fun h6 => ?_) (fun h6 => ?_)
   ·skip
    refine RW.k XK 57 4 rfl ?_
    (conv=>whnf);refine ⟨rfl,?_⟩
    refine RW.gv rfl rfl rfl rfl (fun h7 => V.fieldR rfl rfl rfl rfl (by decide) rfl (Nat.le_of_ble_eq_true rfl)) (fun h7 => ?_) (fun h7 => ?_)
    ·skip
     refine RW.k XK 57 8 rfl ?_
     (conv=>whnf);refine ⟨rfl,?_⟩
     refine RW.nil ?_
     exact ⟨_, by first | rfl | (simp_all; done) | (simp_all; omega) | grind, rfl, Le.of rfl⟩
    ·skip
     refine RW.k XK 57 8 rfl ?_
     (conv=>whnf);refine ⟨rfl,?_⟩
     refine RW.nil ?_
     exact ⟨_, by first | rfl | (simp_all; done) | (simp_all; omega) | grind, rfl, Le.of rfl⟩
   ·skip
    refine RW.k XK 57 13 rfl ?_
    (conv=>whnf);refine ⟨rfl,?_⟩
    refine RW.nil ?_
    exact ⟨_, by first | rfl | (simp_all; done) | (simp_all; omega) | grind, rfl, Le.of rfl⟩
  ·intro v5 hv8
   refine CW.cond rfl (fun h9 => ?_) (fun h9 => ?_)
   ·skip
    refine CW.seq ?_
    refine CW.region ?_
    refine RW.k XK 57 9 rfl ?_
    (conv=>whnf);refine ⟨rfl,?_⟩
    refine RW.pullS 5 8 (by decide) rfl rfl ?_
    refine RW.nil ?_
    refine CW.keep 57 [4,5] rfl ?_;(conv=>whnf);refine ⟨?_⟩
    refine CW.ret ?_
    exact Post.tup (by decide) (RVs.c (RV.i rfl (by rw [lastC, ← hr, lc_at hi1, if_pos (by rw [← hv8]; exact h9)]; rfl)) (RVs.c (RV.w rfl (by rw [lastC, ← hr, lc_at hi1, if_pos (by rw [← hv8]; exact h9)]; rfl)) RVs.e)) (AOs.a rfl (AOs.r AOs.e))
   ·skip
    refine CW.skip ?_
    refine CW.keep 57 [1,2,6] rfl ?_;(conv=>whnf);refine ⟨?_⟩
    refine CW.region ?_
    refine RW.k XK 57 3 rfl ?_
    (conv=>whnf);refine ⟨rfl,?_⟩
    refine RW.nil ?_
    exact ⟨i - 1, by omega, ⟨by omega, by rw [← hr, lc_at hi1, if_neg (by rw [← hv8, h9]; simp)]⟩, rfl, Le.c rfl <| Le.c rfl <| Le.c (congrArg I (wrap_pp hi1 hb hl0)) <| Le.e⟩
 ·skip
  have hi0 : i = 0 := by simp at h2; omega
  refine CW.exit ?_
  refine CW.keep 57 [2] rfl ?_;(conv=>whnf);refine ⟨?_⟩
  refine CW.seq ?_
  refine CW.region ?_
  refine RW.k XK 57 2 rfl ?_
  (conv=>whnf);refine ⟨rfl,?_⟩
  refine RW.call rfl (impl_copyInts_fn n.conf (hok.1.1)) rfl (.cons (.one (.r .r)) (.nil)) fun g10 => ?_
  refine RW.k XK 57 1 rfl ?_
  (conv=>whnf);refine ⟨rfl,?_⟩
  refine RW.assignMove rfl rfl rfl (by decide) (Nat.le_of_ble_eq_true rfl) (Nat.le_of_ble_eq_true rfl) ?_
  refine RW.nil ?_
  refine CW.keep 57 [4,5] rfl ?_;(conv=>whnf);refine ⟨?_⟩
  refine CW.ret ?_
  exact Post.tup (by decide) (RVs.c (RV.i rfl (by subst hi0; rw [lastC, ← hr]; rfl)) (RVs.c (RV.w rfl (by subst hi0; rw [lastC, ← hr]; rfl)) RVs.e)) (AOs.a rfl (AOs.r AOs.e))
set_option maxHeartbeats 4000000 in
theorem impl_ConfOf_fn (n : Node) (hok : okToNode n) : Eng.Fn E.P 44 [.agg ((Node.c n).map .r)] (.one (.one (.w (sl 1 cI ((lastC n (logLast n.log).1).2))))) [.agg ((Node.c n).map .r)] := by
 refine Eng.Fn.intro (E := E) (rvs := [.tmp 2]) Try.func44 rfl rfl rfl (by simp [outSlots, moved, rvSlot, sl]) ?_
 intro B g bo
 refine CW.keep 20 [0] rfl ?_;(conv=>whnf);refine ⟨?_⟩
 refine CW.seq ?_
 refine CW.region ?_
 refine RW.k XK 20 1 rfl ?_
 (conv=>whnf);intro b1;(conv=>whnf);refine ⟨rfl,?_⟩
 refine RW.freezeB (ts := (Node.c n)) 1 rfl (DRd.r (DRd.r (DRd.r (DRd.r (DRd.r (DRd.r (DRd.r (DRd.r (DRd.r (DRd.r (DRd.r (DRd.r (DRd.r (DRd.r DRd.e)))))))))))))) ?_
 refine RW.k XK 20 1 rfl ?_
 (conv=>whnf);refine ⟨rfl,?_⟩
 refine RW.nil ?_
 refine CW.keep 20 [1] rfl ?_;(conv=>whnf);refine ⟨?_⟩
 refine CW.seq ?_
 refine CW.region ?_
 refine RW.k XK 20 2 rfl ?_
 (conv=>whnf);refine ⟨rfl,?_⟩
 refine RW.call rfl (impl_LogLast_fn n.log (hok.2.1)) rfl (.cons (.agg (.cons (.r .r) (.cons (.r .r) (.cons (.r .r) (.nil))))) (.nil)) fun g2 => ?_
 refine RW.k XK 20 5 rfl ?_
 (conv=>whnf);refine ⟨rfl,?_⟩
 refine RW.nil ?_
 refine CW.keep 20 [1,3] rfl ?_;(conv=>whnf);refine ⟨?_⟩
 refine CW.seq ?_
 refine CW.region ?_
 refine RW.k XK 20 2 rfl ?_
 (conv=>whnf);refine ⟨rfl,?_⟩
 refine RW.call rfl (impl_lastConf_fn n ((logLast n.log).1) hok) rfl (.cons (.agg (.cons (.r .r) (.cons (.r .r) (.cons (.r .r) (.cons (.r .r) (.cons (.r .r) (.cons (.r .r) (.cons (.r .r) (.cons (.r .r) (.cons (.r .r) (.cons (.r .r) (.cons (.r .r) (.cons (.r .r) (.cons (.r .r) (.cons (.r .r) (.nil)))))))))))))))) (.cons (.one (.r .r)) (.nil))) fun g3 => ?_
 refine RW.k XK 20 4 rfl ?_
 (conv=>whnf);refine ⟨rfl,?_⟩
 refine RW.assignMove rfl rfl rfl (by decide) (Nat.le_of_ble_eq_true rfl) (Nat.le_of_ble_eq_true rfl) ?_
 refine RW.nil ?_
 refine CW.keep 20 [6] rfl ?_;(conv=>whnf);refine ⟨?_⟩
 refine CW.seq ?_
 refine CW.region ?_
 refine RW.k XK 20 2 rfl ?_
 (conv=>whnf);refine ⟨rfl,?_⟩
 refine RW.pullS 2 6 (by decide) rfl rfl ?_
 refine RW.nil ?_
 refine CW.keep 20 [2] rfl ?_;(conv=>whnf);refine ⟨?_⟩
 refine CW.ret ?_
 exact Post.one (RV.w rfl (by rfl)) (AOs.a rfl AOs.e)
set_option maxHeartbeats 4000000 in
theorem impl_peersOk_fn (n : Node) (hok : okToNode n) : Eng.Fn E.P 72 [.agg ((Node.c n).map .r)] (.one (.one (.w (.v (.bool (peersOkB n)))))) [.agg ((Node.c n).map .r)] := by
 refine Eng.Fn.intro (E := E) (rvs := [.tmp 2]) Try.func72 rfl rfl rfl (by simp [outSlots, moved, rvSlot, sl]) ?_
 intro B g bo
 refine CW.keep 56 [0] rfl ?_;(conv=>whnf);refine ⟨?_⟩
 have hl0 : n.peers.length ≤ maxLen := by have := hok.2.2.2.1; simp only [maxLen]; omega
 refine CW.seq ?_
 refine CW.region ?_
 refine RW.k XK 56 1 rfl ?_
 (conv=>whnf);intro b1;(conv=>whnf);refine ⟨rfl,?_⟩
 refine RW.freezeB (ts := (Node.c n)) 1 rfl (DRd.r (DRd.r (DRd.r (DRd.r (DRd.r (DRd.r (DRd.r (DRd.r (DRd.r (DRd.r (DRd.r (DRd.r (DRd.r (DRd.r DRd.e)))))))))))))) ?_
 refine RW.k XK 56 1 rfl ?_
 (conv=>whnf);refine ⟨rfl,?_⟩
 refine RW.nil ?_
 refine CW.keep 56 [1] rfl ?_;(conv=>whnf);refine ⟨?_⟩
 refine CW.seq ?_
 refine CW.region ?_
 refine RW.k XK 56 2 rfl ?_
 (conv=>whnf);refine ⟨rfl,?_⟩
 refine RW.call rfl (impl_LogLast_fn n.log (hok.2.1)) rfl (.cons (.agg (.cons (.r .r) (.cons (.r .r) (.cons (.r .r) (.nil))))) (.nil)) fun g2 => ?_
 refine RW.k XK 56 5 rfl ?_
 (conv=>whnf);refine ⟨rfl,?_⟩
 refine RW.nil ?_
 refine CW.keep 56 [1,3] rfl ?_;(conv=>whnf);refine ⟨?_⟩
 refine CW.seq ?_
 refine CW.region ?_
 refine RW.build0 cI rfl rfl rfl rfl rfl fun X3 => ?_
 refine RW.assignMove rfl rfl rfl (by decide) (Nat.le_of_ble_eq_true rfl) (Nat.le_of_ble_eq_true rfl) ?_
 refine RW.nil ?_
 refine CW.keep 56 [1,3,5] rfl ?_;(conv=>whnf);refine ⟨?_⟩
 refine CW.seq ?_
 refine CW.k XK 56 1 [1,3,5,16,17,18] rfl ?_
 (conv=>whnf);refine ⟨rfl,?_⟩
 refine CW.block ?_
 refine CW.loopI 56 (fun (zz : Nat × Value) => match zz with | (i, X) => [(1, .rp (Node.c n)), (3, I ((logLast n.log).1)), (5, .w (sl 1 cI ((n.peers.map (·.id)).take i)) X), (16, .r (sl 4 Peer.c n.peers)), (17, I (n.peers.length : Int)), (18, I (i : Int))]) (fun (zz : Nat × Value) => match zz with | (i, X) => i ≤ n.peers.length ∧ (n.peers.take i).all (pkOk (logLast n.log).1) = true) (fun (zz : Nat × Value) => match zz with | (i, X) => n.peers.length - i) (0, _) rfl (Le.c rfl <| Le.c rfl <| Le.c rfl <| Le.c rfl <| Le.c rfl <| Le.c rfl <| Le.e) ⟨by omega, by simp⟩ ?_
 rintro ⟨i, X⟩ ⟨hb, hr⟩
 refine CW.k XK 56 1 [1,3,5,16,17,18,19] rfl ?_
 (conv=>whnf);refine ⟨rfl,?_⟩
 refine CW.seq ?_
 refine CW.cond rfl (fun h4 => ?_) (fun h4 => ?_)
 ·skip
  have hii : i < n.peers.length := by have := h4; simp at this; first | exact this | omega | (simp; done) | (simp; omega)
  obtain ⟨ei, hei⟩ : ∃ e, n.peers[i]? = some e := ⟨_, List.getElem?_eq_getElem hii⟩
  have hdi := drop_get hei
  refine CW.skip ?_
  refine CW.keep 56 [1,3,5,16,17,18] rfl ?_;(conv=>whnf);refine ⟨?_⟩
  refine CW.seq ?_
  refine CW.block ?_
  refine CW.seq ?_
  refine CW.region ?_
  refine RW.v rfl (V.indexS rfl rfl rfl rfl rfl rfl Peer.len hei) ?_
  refine RW.k XK 56 3 rfl ?_
  (conv=>whnf);intro b5;(conv=>whnf);refine ⟨rfl,?_⟩
  refine RW.freezeB (ts := (Peer.c ei)) 7 rfl (DRd.r (DRd.r (DRd.r (DRd.r DRd.e)))) ?_
  refine RW.nil ?_
  refine CW.keep 56 [1,3,5,7,16,17,18] rfl ?_;(conv=>whnf);refine ⟨?_⟩
  refine CW.seq ?_
  refine CW.seqJ 56 (fun (v6 : Bool) => [(1, .rp (Node.c n)), (3, I ((logLast n.log).1)), (5, .w (sl 1 cI ((n.peers.map (·.id)).take i)) X), (7, .rp (Peer.c ei)), (16, .r (sl 4 Peer.c n.peers)), (17, I (n.peers.length : Int)), (18, I (i : Int)), (42, Bo v6)]) (fun v6 => v6 = (((!(inR ei.next 1 (IntKind.i64.wrap (((logLast n.log).1) + 1)))) || (!(inR ei.match_ 0 (IntKind.i64.wrap (ei.next - 1))))) || (!(inR ei.sent 0 20000)))) ?_ ?_
  ·refine CW.region ?_
   refine RW.k XK 56 4 rfl ?_
   (conv=>whnf);refine ⟨rfl,?_⟩
   refine RW.call rfl (impl_within_fn ei.next 1 (IntKind.i64.wrap (((logLast n.log).1) + 1))) rfl (.cons (.one (.r .r)) (.cons (.one (.r .r)) (.cons (.one (.r .r)) (.nil)))) fun g7 => ?_
   refine RW.k XK 56 2 rfl ?_
   (conv=>whnf);refine ⟨rfl,?_⟩
   refine RW.gv rfl rfl rfl rfl (fun h8 => V.fieldR rfl rfl rfl rfl (by decide) rfl (Nat.le_of_ble_eq_true rfl)) (fun h8 => ?_) (fun h8 => ?_)
   ·skip
    refine RW.k XK 56 4 rfl ?_
    (conv=>whnf);refine ⟨rfl,?_⟩
    refine RW.gcall rfl rfl rfl rfl (impl_within_fn ei.match_ 0 (IntKind.i64.wrap (ei.next - 1))) rfl (.cons (.one (.r .r)) (.cons (.one (.r .r)) (.cons (.one (.r .r)) (.nil)))) fun g9 => ?_
    refine RW.k XK 56 3 rfl ?_
    (conv=>whnf);refine ⟨rfl,?_⟩
    refine RW.gv rfl rfl rfl rfl (fun h10 => V.fieldR rfl rfl rfl rfl (by decide) rfl (Nat.le_of_ble_eq_true rfl)) (fun h10 => ?_) (fun h10 => ?_)
    ·skip
     refine RW.k XK 56 1 rfl ?_
     (conv=>whnf);refine ⟨rfl,?_⟩
     refine RW.gcall rfl rfl rfl rfl (impl_within_fn ei.sent 0 20000) rfl (.cons (.one (.r .r)) (.cons (.one (.r .r)) (.cons (.one (.r .r)) (.nil)))) fun g11 => ?_
     refine RW.k XK 56 2 rfl ?_
     (conv=>whnf);refine ⟨rfl,?_⟩
     refine RW.nil ?_
     exact ⟨_, by first | rfl | (simp_all; done) | (simp_all; omega) | grind, rfl, Le.of rfl⟩
    ·skip
     refine RW.k XK 56 4 rfl ?_
     (conv=>whnf);refine ⟨rfl,?_⟩
     refine RW.nil ?_
     exact ⟨_, by first | rfl | (simp_all; done) | (simp_all; omega) | grind, rfl, Le.of rfl⟩
   ·skip
    refine RW.k XK 56 13 rfl ?_
    (conv=>whnf);refine ⟨rfl,?_⟩
    refine RW.nil ?_
    exact ⟨_, by first | rfl | (simp_all; done) | (simp_all; omega) | grind, rfl, Le.of rfl⟩
  ·intro v6 hv12
   refine CW.cond rfl (fun h13 => ?_) (fun h13 => ?_)
   ·skip
    refine CW.k XK 56 1 [2] rfl ?_
    (conv=>whnf);refine ⟨rfl,?_⟩
    refine CW.ret ?_
    exact Post.one (RV.b rfl (by have := all_not (p := pkOk (logLast n.log).1) hei (by first | (simp_all [pkOk]; done) | grind [pkOk]); simp [peersOkB, this])) (AOs.a rfl AOs.e)
   ·skip
    refine CW.skip ?_
    refine CW.keep 56 [1,3,5,7,16,17,18] rfl ?_;(conv=>whnf);refine ⟨?_⟩
    refine CW.region ?_
    refine RW.k XK 56 3 rfl ?_
    (conv=>whnf);refine ⟨rfl,?_⟩
    refine RW.build1c (c := cI) (v := ei.id) (u := .v (.int .i64 ei.id)) rfl rfl rfl rfl rfl rfl (.inl rfl) rfl rfl fun X14 => ?_
    refine RW.appendSR (c := cI) (l1 := ((n.peers.map (·.id)).take i)) (l2 := [ei.id]) rfl rfl rfl rfl rfl rfl rfl rfl (.al (k := none) (i := 46) (sz := 1) (V := X14) rfl rfl nofun) (by decide) (Nat.le_of_ble_eq_true rfl) cI.len (fun _ => rfl) rfl (by have h10 : ((n.peers.map (·.id)).take i).length ≤ n.peers.length := (by rw [List.length_take, List.length_map]; omega); have := hok.2.2.2.1; simp only [maxLen, List.length_singleton]; omega) (by have h10 : ((n.peers.map (·.id)).take i).length ≤ n.peers.length := (by rw [List.length_take, List.length_map]; omega); have := hok.2.2.2.1; simp only [maxLen, List.length_singleton]; omega) fun X15 => ?_
    refine RW.assignMove rfl rfl rfl (by decide) (Nat.le_of_ble_eq_true rfl) (Nat.le_of_ble_eq_true rfl) ?_
    refine RW.nil ?_
    refine CW.keep 56 [1,3,5,16,17,18] rfl ?_;(conv=>whnf);refine ⟨?_⟩
    refine CW.region ?_
    refine RW.v rfl (V.inc rfl rfl rfl hii hl0) ?_
    refine RW.k XK 56 1 rfl ?_
    (conv=>whnf);refine ⟨rfl,?_⟩
    refine RW.nil ?_
    exact ⟨(i + 1, _), by simp only []; omega, ⟨by omega, all_snoc hr hei (by first | (simp_all [pkOk]; done) | grind [pkOk])⟩, rfl, Le.c rfl <| Le.c rfl <| Le.c (Dw_congr (take_snoc (by simp [hei])).symm) <| Le.c rfl <| Le.c rfl <| Le.c rfl <| Le.e⟩
 ·skip
  have hii : n.peers.length ≤ i := by have := h4; simp at this; first | exact this | omega | (simp; done) | (simp; omega)
  have hdi : n.peers.drop i = [] := List.drop_eq_nil_of_le hii
  refine CW.exit ?_
  refine CW.keep 56 [1,5] rfl ?_;(conv=>whnf);refine ⟨?_⟩
  refine CW.anyJ2 (fc := []) (L0 := []) 56 (fun (zz : (Nat → Nat → Value) × (Nat → Nat → Value) × (Nat → Nat → Value)) => match zz with | (go16_2_1, go16_5_1, go16_6_1) => [(2, Bo (eqS eqI ((n.peers.map (·.id)).take i) (others ((lastC n (logLast n.log).1).2) n.id)))]) (fun all hall f hf b0 hb K hK => ?_) ?_
  ·skip
   have ro16_3 : ∀ B, ∀ (go16_2_1 : Nat → Nat → Value), ∀ (go16_5_1 : Nat → Nat → Value), ∀ (go16_6_1 : Nat → Nat → Value), RA f E B all 0 (bt 8 255) ⟨56, [(2, Bo (eqS eqI ((n.peers.map (·.id)).take i) (others ((lastC n (logLast n.log).1).2) n.id)))] ++ b0⟩ K := by
    intro B go16_2_1 go16_5_1 go16_6_1
    exact RA.of2 hall hf hb (RA.finH (Tell.of rfl) (by kernel_rfl) (hK (go16_2_1, go16_5_1, go16_6_1) _ rfl (Le.of rfl)))
   have ro16_2 : ∀ B, ∀ (go16_2_1 : Nat → Nat → Value), ∀ (go16_5_1 : Nat → Nat → Value), RA f E B all 2 (bt 8 63) ⟨56, [(5, .w (sl 1 cI ((n.peers.map (·.id)).take i)) X), (49, .al 5 none 1 (((n.peers.map (·.id)).take i).length) X 0), (54, .w (sl 1 cI (others ((lastC n (logLast n.log).1).2) n.id)) (go16_5_1 0 0))] ++ b0⟩ K := by
    intro B go16_2_1 go16_5_1
    refine RA.of2 hall hf hb (RA.stepH (L := [6]) (Tell.of rfl) (by kernel_rfl) (by simp) (RA.each ?_ (RA.each0)))
    ·skip
     refine RO.callOwn rfl rfl (slices_Equal___int_int__fn ((n.peers.map (·.id)).take i) (others ((lastC n (logLast n.log).1).2) n.id)) rfl (.cons (.one (.r (.al (k := none) (i := 5) (sz := 1) (V := X) rfl rfl nofun))) (.cons (.one (.r (.al (k := none) (i := 54) (sz := 1) (V := (go16_5_1 0 0)) rfl rfl nofun))) (.nil))) rfl rfl fun go16_6_1 => ?_
     refine RA.fr XK 56 0 [7] (bt 8 255) rfl rfl (by kernel_rfl) (Tell.of rfl) ?_
     (conv=>whnf);refine ⟨rfl,fun B=>?_⟩
     exact RA.to2 hall hf hb (ro16_3 B go16_2_1 go16_5_1 go16_6_1) rfl rfl (by kernel_rfl)
   have ro16_1 : ∀ B, ∀ (go16_2_1 : Nat → Nat → Value), RA f E B all 3 (bt 8 31) ⟨56, [(5, .w (sl 1 cI ((n.peers.map (·.id)).take i)) X), (49, .al 5 none 1 (((n.peers.map (·.id)).take i).length) X 0), (51, .w (sl 1 cI ((lastC n (logLast n.log).1).2)) (go16_2_1 0 0)), (53, I n.id)] ++ b0⟩ K := by
    intro B go16_2_1
    refine RA.of2 hall hf hb (RA.stepH (L := [5]) (Tell.of rfl) (by kernel_rfl) (by simp) (RA.each ?_ (RA.each0)))
    ·skip
     refine RO.callOwn rfl rfl (impl_without_fn ((lastC n (logLast n.log).1).2) n.id (lastC_len hok _)) rfl (.cons (.one (.r (.al (k := none) (i := 51) (sz := 1) (V := (go16_2_1 0 0)) rfl rfl nofun))) (.cons (.one (.r .r)) (.nil))) rfl rfl fun go16_5_1 => ?_
     exact RA.to2 hall hf hb (ro16_2 B go16_2_1 go16_5_1) rfl rfl (by kernel_rfl)
   have ro16_0 : ∀ B, RA f E B all 4 (bt 8 27) ⟨56, [(5, .w (sl 1 cI ((n.peers.map (·.id)).take i)) X), (49, .al 5 none 1 (((n.peers.map (·.id)).take i).length) X 0), (50, .agg ((Node.c n).map .r)), (53, I n.id)] ++ b0⟩ K := by
    intro B
    refine RA.of2 hall hf hb (RA.stepH (L := [2]) (Tell.of rfl) (by kernel_rfl) (by simp) (RA.each ?_ (RA.each0)))
    ·skip
     refine RO.call rfl rfl (impl_ConfOf_fn n hok) rfl (.cons (.agg (.cons (.r .r) (.cons (.r .r) (.cons (.r .r) (.cons (.r .r) (.cons (.r .r) (.cons (.r .r) (.cons (.r .r) (.cons (.r .r) (.cons (.r .r) (.cons (.r .r) (.cons (.r .r) (.cons (.r .r) (.cons (.r .r) (.cons (.r .r) (.nil)))))))))))))))) (.nil)) rfl fun go16_2_1 => ?_
     exact RA.to2 hall hf hb (ro16_1 B go16_2_1) rfl rfl (by kernel_rfl)
   refine RA.start (by kernel_rfl) (by kernel_rfl) (m := 8) (ls' := (bt 8 0)) ?_
   refine RA.fr XK 56 4 [0,1,3,4] (bt 8 27) rfl rfl (by kernel_rfl) (Tell.of rfl) ?_
   (conv=>whnf);refine ⟨rfl,fun B=>?_⟩
   exact RA.to2 hall hf hb (ro16_0 B) rfl rfl (by kernel_rfl)
  ·rintro ⟨go16_2_1, go16_5_1, go16_6_1⟩
   refine CW.ret ?_
   exact Post.one (RV.b rfl (by have ht : n.peers.all (pkOk (logLast n.log).1) = true := (by rw [← List.take_of_length_le hii]; exact hr); rw [List.take_of_length_le (by simpa using hii)]; simp [peersOkB, ht])) (AOs.a rfl AOs.e)
set_option maxHeartbeats 4000000 in
theorem impl_NodeOk_fn (n : Node) (hok : okToNode n) : Eng.Fn E.P 22 [.agg ((Node.c n).map .r)] (.one (.one (.w (.v (.bool (nodeOk n)))))) [.agg ((Node.c n).map .r)] := by
 refine Eng.Fn.intro (E := E) (rvs := [.tmp 2]) Try.func22 rfl rfl rfl (by simp [outSlots, moved, rvSlot, sl]) ?_
 intro B g bo
 refine CW.keep 106 [0] rfl ?_;(conv=>whnf);refine ⟨?_⟩
 refine CW.seq ?_
 refine CW.region ?_
 refine RW.k XK 106 1 rfl ?_
 (conv=>whnf);intro b1;(conv=>whnf);refine ⟨rfl,?_⟩
 refine RW.freezeB (ts := (Node.c n)) 1 rfl (DRd.r (DRd.r (DRd.r (DRd.r (DRd.r (DRd.r (DRd.r (DRd.r (DRd.r (DRd.r (DRd.r (DRd.r (DRd.r (DRd.r DRd.e)))))))))))))) ?_
 refine RW.k XK 106 1 rfl ?_
 (conv=>whnf);refine ⟨rfl,?_⟩
 refine RW.nil ?_
 refine CW.keep 106 [1] rfl ?_;(conv=>whnf);refine ⟨?_⟩
 refine CW.seq ?_
 refine CW.region ?_
 refine RW.k XK 106 2 rfl ?_
 (conv=>whnf);refine ⟨rfl,?_⟩
 refine RW.call rfl (impl_LogLast_fn n.log (hok.2.1)) rfl (.cons (.agg (.cons (.r .r) (.cons (.r .r) (.cons (.r .r) (.nil))))) (.nil)) fun g2 => ?_
 refine RW.k XK 106 5 rfl ?_
 (conv=>whnf);refine ⟨rfl,?_⟩
 refine RW.nil ?_
 refine CW.keep 106 [1,3,4] rfl ?_;(conv=>whnf);refine ⟨?_⟩
 refine CW.seq ?_
 refine CW.seqJ 106 (fun (v3 : Bool) => [(1, .rp (Node.c n)), (3, I ((logLast n.log).1)), (46, Bo v3)]) (fun v3 => v3 = ((((((!(inR n.id 1 4)) || (!(confOk n.conf))) || (!(logOk n.log))) || (!(inR n.term_ 0 100000 && inR n.vote 0 4))) || decide (n.term_ < ((logLast n.log).2))) || (!(inR n.lead 0 4)))) ?_ ?_
 ·refine CW.region ?_
  refine RW.k XK 106 2 rfl ?_
  (conv=>whnf);refine ⟨rfl,?_⟩
  refine RW.call rfl (impl_isNode_fn n.id) rfl (.cons (.one (.r .r)) (.nil)) fun g4 => ?_
  refine RW.k XK 106 2 rfl ?_
  (conv=>whnf);refine ⟨rfl,?_⟩
  refine RW.gv rfl rfl rfl rfl (fun h5 => V.fieldR rfl rfl rfl rfl (by decide) rfl (Nat.le_of_ble_eq_true rfl)) (fun h5 => ?_) (fun h5 => ?_)
  ·skip
   refine RW.k XK 106 1 rfl ?_
   (conv=>whnf);refine ⟨rfl,?_⟩
   refine RW.gcall rfl rfl rfl rfl (impl_ConfOk_fn n.conf) rfl (.cons (.one (.r .r)) (.nil)) fun g6 => ?_
   refine RW.k XK 106 3 rfl ?_
   (conv=>whnf);refine ⟨rfl,?_⟩
   refine RW.gv rfl rfl rfl rfl (fun h7 => V.fieldR rfl rfl rfl rfl (by decide) rfl (Nat.le_of_ble_eq_true rfl)) (fun h7 => ?_) (fun h7 => ?_)
   ·skip
    refine RW.k XK 106 1 rfl ?_
    (conv=>whnf);refine ⟨rfl,?_⟩
    refine RW.gcall rfl rfl rfl rfl (impl_LogOk_fn n.log (hok.2.1)) rfl (.cons (.agg (.cons (.r .r) (.cons (.r .r) (.cons (.r .r) (.nil))))) (.nil)) fun g8 => ?_
    refine RW.k XK 106 3 rfl ?_
    (conv=>whnf);refine ⟨rfl,?_⟩
    refine RW.gv rfl rfl rfl rfl (fun h9 => V.fieldR rfl rfl rfl rfl (by decide) rfl (Nat.le_of_ble_eq_true rfl)) (fun h9 => ?_) (fun h9 => ?_)
    ·skip
     refine RW.k XK 106 3 rfl ?_
     (conv=>whnf);refine ⟨rfl,?_⟩
     refine RW.gcall rfl rfl rfl rfl (impl_votesOk_fn n.term_ n.vote) rfl (.cons (.one (.r .r)) (.cons (.one (.r .r)) (.nil))) fun g10 => ?_
     refine RW.k XK 106 3 rfl ?_
     (conv=>whnf);refine ⟨rfl,?_⟩
     refine RW.gv rfl rfl rfl rfl (fun h11 => V.fieldR rfl rfl rfl rfl (by decide) rfl (Nat.le_of_ble_eq_true rfl)) (fun h11 => ?_) (fun h11 => ?_)
     ·skip
      refine RW.k XK 106 5 rfl ?_
      (conv=>whnf);refine ⟨rfl,?_⟩
      refine RW.gv rfl rfl rfl rfl (fun h12 => V.fieldR rfl rfl rfl rfl (by decide) rfl (Nat.le_of_ble_eq_true rfl)) (fun h12 => ?_) (fun h12 => ?_)
      ·skip
       refine RW.k XK 106 1 rfl ?_
       (conv=>whnf);refine ⟨rfl,?_⟩
       refine RW.gcall rfl rfl rfl rfl (impl_within_fn n.lead 0 4) rfl (.cons (.one (.r .r)) (.cons (.one (.r .r)) (.cons (.one (.r .r)) (.nil)))) fun g13 => ?_
       refine RW.k XK 106 2 rfl ?_
       (conv=>whnf);refine ⟨rfl,?_⟩
       refine RW.nil ?_
       exact ⟨_, by first | rfl | (simp_all; done) | (simp_all; omega) | grind, rfl, Le.of rfl⟩
      ·skip
       refine RW.k XK 106 4 rfl ?_
       (conv=>whnf);refine ⟨rfl,?_⟩
       refine RW.nil ?_
       exact ⟨_, by first | rfl | (simp_all; done) | (simp_all; omega) | grind, rfl, Le.of rfl⟩
     ·skip
      refine RW.k XK 106 10 rfl ?_
      (conv=>whnf);refine ⟨rfl,?_⟩
      refine RW.nil ?_
      exact ⟨_, by first | rfl | (simp_all; done) | (simp_all; omega) | grind, rfl, Le.of rfl⟩
    ·skip
     refine RW.k XK 106 18 rfl ?_
     (conv=>whnf);refine ⟨rfl,?_⟩
     refine RW.nil ?_
     exact ⟨_, by first | rfl | (simp_all; done) | (simp_all; omega) | grind, rfl, Le.of rfl⟩
   ·skip
    refine RW.k XK 106 24 rfl ?_
    (conv=>whnf);refine ⟨rfl,?_⟩
    refine RW.nil ?_
    exact ⟨_, by first | rfl | (simp_all; done) | (simp_all; omega) | grind, rfl, Le.of rfl⟩
  ·skip
   refine RW.k XK 106 30 rfl ?_
   (conv=>whnf);refine ⟨rfl,?_⟩
   refine RW.nil ?_
   exact ⟨_, by first | rfl | (simp_all; done) | (simp_all; omega) | grind, rfl, Le.of rfl⟩
 ·intro v3 hv14
  refine CW.cond rfl (fun h15 => ?_) (fun h15 => ?_)
  ·skip
   refine CW.k XK 106 1 [2] rfl ?_
   (conv=>whnf);refine ⟨rfl,?_⟩
   refine CW.ret ?_
   exact Post.one (RV.b rfl (by first | (simp_all [nodeOk]; done) | grind [nodeOk])) (AOs.a rfl AOs.e)
  ·skip
   refine CW.skip ?_
   refine CW.keep 106 [1,3] rfl ?_;(conv=>whnf);refine ⟨?_⟩
   refine CW.seq ?_
   refine CW.seqJ 106 (fun (v16 : Bool) => [(1, .rp (Node.c n)), (72, Bo v16)]) (fun v16 => v16 = ((((!(inR n.commit n.log.start ((logLast n.log).1))) || (!(inR n.clock 0 20))) || (!(inR n.limit 1 20))) || (!(riseOk 1 4 none n.votes)))) ?_ ?_
   ·refine CW.region ?_
    refine RW.k XK 106 6 rfl ?_
    (conv=>whnf);refine ⟨rfl,?_⟩
    refine RW.call rfl (impl_within_fn n.commit n.log.start ((logLast n.log).1)) rfl (.cons (.one (.r .r)) (.cons (.one (.r .r)) (.cons (.one (.r .r)) (.nil)))) fun g17 => ?_
    refine RW.k XK 106 2 rfl ?_
    (conv=>whnf);refine ⟨rfl,?_⟩
    refine RW.gv rfl rfl rfl rfl (fun h18 => V.fieldR rfl rfl rfl rfl (by decide) rfl (Nat.le_of_ble_eq_true rfl)) (fun h18 => ?_) (fun h18 => ?_)
    ·skip
     refine RW.k XK 106 1 rfl ?_
     (conv=>whnf);refine ⟨rfl,?_⟩
     refine RW.gcall rfl rfl rfl rfl (impl_within_fn n.clock 0 20) rfl (.cons (.one (.r .r)) (.cons (.one (.r .r)) (.cons (.one (.r .r)) (.nil)))) fun g19 => ?_
     refine RW.k XK 106 3 rfl ?_
     (conv=>whnf);refine ⟨rfl,?_⟩
     refine RW.gv rfl rfl rfl rfl (fun h20 => V.fieldR rfl rfl rfl rfl (by decide) rfl (Nat.le_of_ble_eq_true rfl)) (fun h20 => ?_) (fun h20 => ?_)
     ·skip
      refine RW.k XK 106 1 rfl ?_
      (conv=>whnf);refine ⟨rfl,?_⟩
      refine RW.gcall rfl rfl rfl rfl (impl_within_fn n.limit 1 20) rfl (.cons (.one (.r .r)) (.cons (.one (.r .r)) (.cons (.one (.r .r)) (.nil)))) fun g21 => ?_
      refine RW.k XK 106 3 rfl ?_
      (conv=>whnf);refine ⟨rfl,?_⟩
      refine RW.gv rfl rfl rfl rfl (fun h22 => V.fieldR rfl rfl rfl rfl (by decide) rfl (Nat.le_of_ble_eq_true rfl)) (fun h22 => ?_) (fun h22 => ?_)
      ·skip
       refine RW.k XK 106 1 rfl ?_
       (conv=>whnf);refine ⟨rfl,?_⟩
       refine RW.gcall rfl rfl rfl rfl (impl_nodesOk_fn n.votes) rfl (.cons (.one (.r .r)) (.nil)) fun g23 => ?_
       refine RW.k XK 106 2 rfl ?_
       (conv=>whnf);refine ⟨rfl,?_⟩
       refine RW.nil ?_
       exact ⟨_, by first | rfl | (simp_all; done) | (simp_all; omega) | grind, rfl, Le.of rfl⟩
      ·skip
       refine RW.k XK 106 4 rfl ?_
       (conv=>whnf);refine ⟨rfl,?_⟩
       refine RW.nil ?_
       exact ⟨_, by first | rfl | (simp_all; done) | (simp_all; omega) | grind, rfl, Le.of rfl⟩
     ·skip
      refine RW.k XK 106 10 rfl ?_
      (conv=>whnf);refine ⟨rfl,?_⟩
      refine RW.nil ?_
      exact ⟨_, by first | rfl | (simp_all; done) | (simp_all; omega) | grind, rfl, Le.of rfl⟩
    ·skip
     refine RW.k XK 106 16 rfl ?_
     (conv=>whnf);refine ⟨rfl,?_⟩
     refine RW.nil ?_
     exact ⟨_, by first | rfl | (simp_all; done) | (simp_all; omega) | grind, rfl, Le.of rfl⟩
   ·intro v16 hv24
    refine CW.cond rfl (fun h25 => ?_) (fun h25 => ?_)
    ·skip
     refine CW.k XK 106 1 [2] rfl ?_
     (conv=>whnf);refine ⟨rfl,?_⟩
     refine CW.ret ?_
     exact Post.one (RV.b rfl (by first | (simp_all [nodeOk]; done) | grind [nodeOk])) (AOs.a rfl AOs.e)
    ·skip
     refine CW.skip ?_
     refine CW.keep 106 [1] rfl ?_;(conv=>whnf);refine ⟨?_⟩
     refine CW.seq ?_
     refine CW.k XK 106 1 [1,74] rfl ?_
     (conv=>whnf);refine ⟨rfl,?_⟩
     refine CW.block ?_
     refine CW.k XK 106 1 [1,74,75] rfl ?_
     (conv=>whnf);refine ⟨rfl,?_⟩
     refine CW.cond rfl (fun h26 => ?_) (fun h26 => ?_)
     ·skip
      refine CW.seqJ 106 (fun (v27 : Bool) => [(2, Bo v27)]) (fun v27 => v27 = (((n.votes.length : Int) == 0) && ((n.peers.length : Int) == 0))) ?_ ?_
      ·refine CW.region ?_
       refine RW.k XK 106 5 rfl ?_
       (conv=>whnf);refine ⟨rfl,?_⟩
       refine RW.gv rfl rfl rfl rfl (fun h28 => V.fieldR rfl rfl rfl rfl (by decide) rfl (Nat.le_of_ble_eq_true rfl)) (fun h28 => ?_) (fun h28 => ?_)
       ·skip
        refine RW.k XK 106 5 rfl ?_
        (conv=>whnf);refine ⟨rfl,?_⟩
        refine RW.nil ?_
        exact ⟨_, by first | rfl | (simp_all; done) | (simp_all; omega) | grind, rfl, Le.of rfl⟩
       ·skip
        refine RW.k XK 106 5 rfl ?_
        (conv=>whnf);refine ⟨rfl,?_⟩
        refine RW.nil ?_
        exact ⟨_, by first | rfl | (simp_all; done) | (simp_all; omega) | grind, rfl, Le.of rfl⟩
      ·intro v27 hv29
       refine CW.ret ?_
       exact Post.one (RV.b rfl (by first | (simp_all [nodeOk]; done) | grind [nodeOk])) (AOs.a rfl AOs.e)
     ·skip
      refine CW.k XK 106 1 [1,87] rfl ?_
      (conv=>whnf);refine ⟨rfl,?_⟩
      refine CW.cond rfl (fun h30 => ?_) (fun h30 => ?_)
      ·skip
       refine CW.k XK 106 1 [2] rfl ?_
       (conv=>whnf);refine ⟨rfl,?_⟩
       refine CW.ret ?_
       exact Post.one (RV.b rfl (by first | (simp_all [nodeOk]; done) | grind [nodeOk])) (AOs.a rfl AOs.e)
      ·skip
       refine CW.skip ?_
       refine CW.keep 106 [1] rfl ?_;(conv=>whnf);refine ⟨?_⟩
       refine CW.seqJ 106 (fun (v31 : Bool) => [(2, Bo v31)]) (fun v31 => v31 = (((n.role == 2) && ((n.votes.length : Int) == 0)) && (peersOkB n))) ?_ ?_
       ·refine CW.region ?_
        refine RW.k XK 106 4 rfl ?_
        (conv=>whnf);refine ⟨rfl,?_⟩
        refine RW.gv rfl rfl rfl rfl (fun h32 => V.fieldR rfl rfl rfl rfl (by decide) rfl (Nat.le_of_ble_eq_true rfl)) (fun h32 => ?_) (fun h32 => ?_)
        ·skip
         refine RW.k XK 106 5 rfl ?_
         (conv=>whnf);refine ⟨rfl,?_⟩
         refine RW.gv rfl rfl rfl rfl (fun h33 => V.loadAggR rfl rfl rfl rfl (Nat.le_of_ble_eq_true rfl)) (fun h33 => ?_) (fun h33 => ?_)
         ·skip
          refine RW.gcall rfl rfl rfl rfl (impl_peersOk_fn n hok) rfl (.cons (.agg (.cons (.r .r) (.cons (.r .r) (.cons (.r .r) (.cons (.r .r) (.cons (.r .r) (.cons (.r .r) (.cons (.r .r) (.cons (.r .r) (.cons (.r .r) (.cons (.r .r) (.cons (.r .r) (.cons (.r .r) (.cons (.r .r) (.cons (.r .r) (.nil)))))))))))))))) (.nil)) fun g34 => ?_
          refine RW.k XK 106 2 rfl ?_
          (conv=>whnf);refine ⟨rfl,?_⟩
          refine RW.nil ?_
          exact ⟨_, by first | rfl | (simp_all; done) | (simp_all; omega) | grind, rfl, Le.of rfl⟩
         ·skip
          refine RW.k XK 106 3 rfl ?_
          (conv=>whnf);refine ⟨rfl,?_⟩
          refine RW.nil ?_
          exact ⟨_, by first | rfl | (simp_all; done) | (simp_all; omega) | grind, rfl, Le.of rfl⟩
        ·skip
         refine RW.k XK 106 9 rfl ?_
         (conv=>whnf);refine ⟨rfl,?_⟩
         refine RW.nil ?_
         exact ⟨_, by first | rfl | (simp_all; done) | (simp_all; omega) | grind, rfl, Le.of rfl⟩
       ·intro v31 hv35
        refine CW.ret ?_
        exact Post.one (RV.b rfl (by first | (simp_all [nodeOk]; done) | grind [nodeOk])) (AOs.a rfl AOs.e)
set_option maxHeartbeats 4000000 in
theorem impl_LogTerm_fn (l : Log) (i : Int) (hs : 0 ≤ l.start ∧ l.start ≤ 1000000 ∧ l.entries.length ≤ 60) (hi : i ≤ 9223372036854775807) : Eng.Fn E.P 87 [.agg ((Log.c l).map .r), .one (.r (.v (.int .i64 i)))] (.one (.one (.w (.v (.int .i64 (logTerm l i)))))) [.agg ((Log.c l).map .r), .one (.r (.v (.int .i64 i)))] := by
 refine Eng.Fn.intro (E := E) (rvs := [.tmp 4]) Try.func87 rfl rfl rfl (by simp [outSlots, moved, rvSlot, sl]) ?_
 intro B g bo
 refine CW.keep 37 [0,1] rfl ?_;(conv=>whnf);refine ⟨?_⟩
 refine CW.seq ?_
 refine CW.region ?_
 refine RW.k XK 37 1 rfl ?_
 (conv=>whnf);intro b1;(conv=>whnf);refine ⟨rfl,?_⟩
 refine RW.freezeB (ts := (Log.c l)) 2 rfl (DRd.r (DRd.r (DRd.r DRd.e))) ?_
 refine RW.k XK 37 1 rfl ?_
 (conv=>whnf);refine ⟨rfl,?_⟩
 refine RW.nil ?_
 refine CW.keep 37 [1,2] rfl ?_;(conv=>whnf);refine ⟨?_⟩
 refine CW.seq ?_
 refine CW.block ?_
 refine CW.k XK 37 1 [1,2,5] rfl ?_
 (conv=>whnf);refine ⟨rfl,?_⟩
 refine CW.cond rfl (fun h2 => ?_) (fun h2 => ?_)
 ·skip
  refine CW.k XK 37 1 [4] rfl ?_
  (conv=>whnf);refine ⟨rfl,?_⟩
  refine CW.ret ?_
  exact Post.one (RV.i rfl (by exact lt_at h2)) (AOs.a rfl (AOs.r AOs.e))
 ·skip
  refine CW.seqJ 37 (fun (v3 : Bool) => [(1, I i), (2, .rp (Log.c l)), (12, Bo v3)]) (fun v3 => v3 = (decide (i > l.start) && decide ((IntKind.i64.wrap (i - l.start)) ≤ (l.entries.length : Int)))) ?_ ?_
  ·refine CW.region ?_
   refine RW.k XK 37 5 rfl ?_
   (conv=>whnf);refine ⟨rfl,?_⟩
   refine RW.gv rfl rfl rfl rfl (fun h4 => V.mv (d := I i) rfl rfl) (fun h4 => ?_) (fun h4 => ?_)
   ·skip
    refine RW.k XK 37 9 rfl ?_
    (conv=>whnf);refine ⟨rfl,?_⟩
    refine RW.nil ?_
    exact ⟨_, by first | rfl | (simp_all; done) | (simp_all; omega) | grind, rfl, Le.of rfl⟩
   ·skip
    refine RW.k XK 37 9 rfl ?_
    (conv=>whnf);refine ⟨rfl,?_⟩
    refine RW.nil ?_
    exact ⟨_, by first | rfl | (simp_all; done) | (simp_all; omega) | grind, rfl, Le.of rfl⟩
  ·intro v3 hv5
   refine CW.cond rfl (fun h6 => ?_) (fun h6 => ?_)
   ·skip
    have hA : l.start < i ∧ i ≤ l.start + (l.entries.length : Int) := by rw [hv5, IntKind.wrap_i64] at h6; simp at h6; omega
    refine CW.seq ?_
    refine CW.region ?_
    refine RW.k XK 37 7 rfl ?_
    (conv=>whnf);refine ⟨rfl,?_⟩
    refine RW.v rfl (V.indexZ (m := (i - l.start - 1).toNat) (v := (l.entries.getD (i - l.start - 1).toNat Entry.z)) rfl rfl rfl rfl rfl rfl (by rw [IntKind.wrap_i64, IntKind.wrap_i64]; omega) Entry.len (getD_some (by omega))) ?_
    refine RW.k XK 37 3 rfl ?_
    (conv=>whnf);refine ⟨rfl,?_⟩
    refine RW.nil ?_
    refine CW.keep 37 [4] rfl ?_;(conv=>whnf);refine ⟨?_⟩
    refine CW.ret ?_
    exact Post.one (RV.i rfl (by exact lt_in (by simpa using h2) hA)) (AOs.a rfl (AOs.r AOs.e))
   ·skip
    have hne : i ≠ l.start := by simpa using h2
    have ho : i < l.start ∨ i > l.start + (l.entries.length : Int) := by rw [hv5, IntKind.wrap_i64] at h6; simp at h6; omega
    refine CW.skip ?_
    refine CW.keep 37 [] rfl ?_;(conv=>whnf);refine ⟨?_⟩
    refine CW.k XK 37 1 [4] rfl ?_
    (conv=>whnf);refine ⟨rfl,?_⟩
    refine CW.ret ?_
    exact Post.one (RV.i rfl (by exact lt_out (by simpa using h2) ho)) (AOs.a rfl (AOs.r AOs.e))
set_option maxHeartbeats 4000000 in
theorem impl_copyLog_fn (l : Log) (hok : okToLog l) : Eng.Fn E.P 123 [.agg ((Log.c l).map .r)] (.one (.agg ((Log.c l).map .w))) [.agg ((Log.c l).map .r)] := by
 refine Eng.Fn.intro (E := E) (rvs := [.cell 2 44]) Try.func123 rfl rfl rfl (by simp [outSlots, moved, rvSlot, sl]) ?_
 intro B g bo
 refine CW.keep 12 [0] rfl ?_;(conv=>whnf);refine ⟨?_⟩
 refine CW.seq ?_
 refine CW.region ?_
 refine RW.k XK 12 1 rfl ?_
 (conv=>whnf);intro b1;(conv=>whnf);refine ⟨rfl,?_⟩
 refine RW.freezeB (ts := (Log.c l)) 1 rfl (DRd.r (DRd.r (DRd.r DRd.e))) ?_
 refine RW.k XK 12 1 rfl ?_
 (conv=>whnf);intro b2;(conv=>whnf);refine ⟨rfl,?_⟩
 refine RW.nil ?_
 refine CW.keep 12 [1,2] rfl ?_;(conv=>whnf);refine ⟨?_⟩
 refine CW.anyJ2 (fc := []) (L0 := []) 12 (fun (zz : Value × Value) => match zz with | (Xo3_4_1, Xo3_7_1) => [(2, .obj b2 [I l.start, I l.startTerm, .w (sl 3 Entry.c (([] : List Entry) ++ l.entries)) Xo3_7_1])]) (fun all hall f hf b0 hb K hK => ?_) ?_
 ·skip
  have ro3_3 : ∀ B, ∀ (Xo3_4_1 : Value), ∀ (Xo3_7_1 : Value), RA f E B all 0 (bt 10 1023) ⟨12, [(2, .obj b2 [I l.start, I l.startTerm, .w (sl 3 Entry.c (([] : List Entry) ++ l.entries)) Xo3_7_1])] ++ b0⟩ K := by
   intro B Xo3_4_1 Xo3_7_1
   exact RA.of2 hall hf hb (RA.finH (Tell.of rfl) (by kernel_rfl) (hK (Xo3_4_1, Xo3_7_1) _ rfl (Le.of rfl)))
  have ro3_2 : ∀ B, ∀ (Xo3_4_1 : Value), ∀ (Xo3_7_1 : Value), RA f E B all 1 (bt 10 511) ⟨12, [(2, .obj b2 [I 0, I 0, .r (.v (.slice none 0 0))]), (10, .w (sl 3 Entry.c (([] : List Entry) ++ l.entries)) Xo3_7_1), (11, .agg [I l.start, I l.startTerm, .al 10 none 3 ((([] : List Entry) ++ l.entries).length) Xo3_7_1 0])] ++ b0⟩ K := by
   intro B Xo3_4_1 Xo3_7_1
   refine RA.of2 hall hf hb (RA.stepH (L := [9]) (Tell.of rfl) (by kernel_rfl) (by simp) (RA.each ?_ (RA.each0)))
   ·skip
    refine RO.storeAgg (es := [I l.start, I l.startTerm, .al 10 none 3 ((([] : List Entry) ++ l.entries).length) Xo3_7_1 0]) rfl rfl rfl rfl rfl rfl rfl rfl rfl rfl (Nat.le_of_ble_eq_true rfl) rfl ?_
    refine RA.keep 12 [2,10] rfl ?_;(conv=>whnf);refine ⟨?_⟩
    refine RA.pullT (k := 2) (l := 10) (j := 2) 2 10 2 rfl rfl rfl (by decide) rfl rfl rfl ?_
    refine RA.keep 12 [2] rfl ?_;(conv=>whnf);refine ⟨?_⟩
    exact RA.to2 hall hf hb (ro3_3 B Xo3_4_1 Xo3_7_1) rfl rfl (by kernel_rfl)
  have ro3_1 : ∀ B, ∀ (Xo3_4_1 : Value), RA f E B all 3 (bt 10 127) ⟨12, [(2, .obj b2 [I 0, I 0, .r (.v (.slice none 0 0))]), (4, I l.start), (6, I l.startTerm), (7, .w (sl 3 Entry.c ([] : List Entry)) Xo3_4_1), (9, .r (sl 3 Entry.c l.entries))] ++ b0⟩ K := by
   intro B Xo3_4_1
   refine RA.of2 hall hf hb (RA.stepH (L := [7]) (Tell.of rfl) (by kernel_rfl) (by simp) (RA.each ?_ (RA.each0)))
   ·skip
    refine RO.appendSR (c := Entry.c) (l1 := ([] : List Entry)) (l2 := l.entries) rfl rfl rfl rfl rfl rfl rfl rfl rfl rfl .r (by decide) (Nat.le_of_ble_eq_true rfl) Entry.len (fun _ => rfl) rfl (by have h1 := hok.1; simp only [maxLen, List.length_nil]; omega) (by have h1 := hok.1; simp only [maxLen, List.length_nil]; omega) fun Xo3_7_1 => ?_
    refine RA.fr XK 12 1 [8] (bt 10 511) rfl rfl (by kernel_rfl) (Tell.of rfl) ?_
    (conv=>whnf);refine ⟨rfl,fun B=>?_⟩
    exact RA.to2 hall hf hb (ro3_2 B Xo3_4_1 Xo3_7_1) rfl rfl (by kernel_rfl)
  have ro3_0 : ∀ B, RA f E B all 4 (bt 10 111) ⟨12, [(2, .obj b2 [I 0, I 0, .r (.v (.slice none 0 0))]), (4, I l.start), (6, I l.startTerm), (9, .r (sl 3 Entry.c l.entries))] ++ b0⟩ K := by
   intro B
   refine RA.of2 hall hf hb (RA.stepH (L := [4]) (Tell.of rfl) (by kernel_rfl) (by simp) (RA.each ?_ (RA.each0)))
   ·skip
    refine RO.build0 Entry.c rfl rfl rfl rfl rfl rfl rfl fun Xo3_4_1 => ?_
    exact RA.to2 hall hf hb (ro3_1 B Xo3_4_1) rfl rfl (by kernel_rfl)
  refine RA.start (by kernel_rfl) (by kernel_rfl) (m := 10) (ls' := (bt 10 0)) ?_
  refine RA.fr XK 12 4 [0,1,2,3,5,6] (bt 10 111) rfl rfl (by kernel_rfl) (Tell.of rfl) ?_
  (conv=>whnf);refine ⟨rfl,fun B=>?_⟩
  exact RA.to2 hall hf hb (ro3_0 B) rfl rfl (by kernel_rfl)
 ·rintro ⟨Xo3_4_1, Xo3_7_1⟩
  refine CW.ret ?_
  exact Post.one (RV.c (f := fun e => (Log.c e).map .w) (e' := (⟨l.start, l.startTerm, (([] : List Entry) ++ l.entries)⟩ : Log)) rfl rfl rfl rfl (DT.v (DT.v (DT.w DT.e))) (by rfl)) (AOs.a rfl AOs.e)
set_option maxHeartbeats 4000000 in
theorem impl_copyNode_fn (n : Node) (hok : okToNode n) : Eng.Fn E.P 85 [.agg ((Node.c n).map .r)] (.one (.agg ((Node.c n).map .w))) [.agg ((Node.c n).map .r)] := by
 refine Eng.Fn.intro (E := E) (rvs := [.cell 2 47]) Try.func85 rfl rfl rfl (by simp [outSlots, moved, rvSlot, sl]) ?_
 intro B g bo
 refine CW.keep 21 [0] rfl ?_;(conv=>whnf);refine ⟨?_⟩
 refine CW.k XK 21 1 [1,2] rfl ?_
 (conv=>whnf);intro b1;(conv=>whnf);intro b2;(conv=>whnf);refine ⟨rfl,?_⟩
 refine CW.anyJ2 (fc := [(2, b2, [.int .i64 0, .int .i64 0, .int .i64 0, .int .i64 0, .int .i64 0, .slice none 0 0, .int .i64 0, .int .i64 0, .slice none 0 0, .int .i64 0, .int .i64 0, .int .i64 0, .slice none 0 0, .slice none 0 0])]) (L0 := [(2, .obj b2 [I 0, I 0, I 0, I 0, I 0, .r (.v (.slice none 0 0)), I 0, I 0, .r (.v (.slice none 0 0)), I 0, I 0, I 0, .r (.v (.slice none 0 0)), .r (.v (.slice none 0 0))])]) 21 (fun (zz : (Nat → Nat → Value) × (Nat → Nat → Value) × (Nat → Nat → Value)) => match zz with | (go3_2_1, go3_5_1, go3_8_1) => [(1, .obj b1 [I n.id, I n.term_, I n.vote, I n.role, I n.lead, .w (sl 1 cI n.conf) (go3_2_1 0 0), I n.log.start, I n.log.startTerm, .w (sl 3 Entry.c n.log.entries) (go3_5_1 0 2), I n.commit, I n.clock, I n.limit, .w (sl 1 cI n.votes) (go3_8_1 0 0), .r (sl 4 Peer.c n.peers)])]) (fun all hall f hf b0 hb K hK => ?_) ?_
 ·skip
  have ro3_17 : ∀ B, ∀ (go3_2_1 : Nat → Nat → Value), ∀ (go3_5_1 : Nat → Nat → Value), ∀ (go3_8_1 : Nat → Nat → Value), RA f E B all 0 (bt 15 32767) ⟨21, [(1, .obj b1 [I n.id, I n.term_, I n.vote, I n.role, I n.lead, .w (sl 1 cI n.conf) (go3_2_1 0 0), I n.log.start, I n.log.startTerm, .w (sl 3 Entry.c n.log.entries) (go3_5_1 0 2), I n.commit, I n.clock, I n.limit, .w (sl 1 cI n.votes) (go3_8_1 0 0), .r (sl 4 Peer.c n.peers)])] ++ b0⟩ K := by
   intro B go3_2_1 go3_5_1 go3_8_1
   exact RA.of2 hall hf hb (RA.finH (Tell.of rfl) (by kernel_rfl) (hK (go3_2_1, go3_5_1, go3_8_1) _ rfl (Le.of rfl)))
  have ro3_16 : ∀ B, ∀ (go3_2_1 : Nat → Nat → Value), ∀ (go3_5_1 : Nat → Nat → Value), ∀ (go3_8_1 : Nat → Nat → Value), RA f E B all 1 (bt 15 16383) ⟨21, [(1, .obj b1 [I n.id, I n.term_, I n.vote, I n.role, I n.lead, .w (sl 1 cI n.conf) (go3_2_1 0 0), I n.log.start, I n.log.startTerm, .w (sl 3 Entry.c n.log.entries) (go3_5_1 0 2), I n.commit, I n.clock, I n.limit, .r (sl 1 cI n.votes), .r (sl 4 Peer.c n.peers)]), (11, .w (sl 1 cI n.votes) (go3_8_1 0 0)), (14, .pt 1 b1 12)] ++ b0⟩ K := by
   intro B go3_2_1 go3_5_1 go3_8_1
   refine RA.of2 hall hf hb (RA.stepH (L := [14]) (Tell.of rfl) (by kernel_rfl) (by simp) (RA.each ?_ (RA.each0)))
   ·skip
    refine RO.store (d := .al 11 none 1 n.votes.length (go3_8_1 0 0) 0) rfl rfl rfl rfl rfl rfl rfl rfl rfl (Nat.le_of_ble_eq_true rfl) rfl rfl ?_
    refine RA.keep 21 [1,2,11] rfl ?_;(conv=>whnf);refine ⟨?_⟩
    refine RA.pullT (k := 1) (l := 11) (j := 12) 1 11 12 rfl rfl rfl (by decide) rfl rfl rfl ?_
    refine RA.keep 21 [1,2] rfl ?_;(conv=>whnf);refine ⟨?_⟩
    exact RA.to2 hall hf hb (ro3_17 B go3_2_1 go3_5_1 go3_8_1) rfl rfl (by kernel_rfl)
  have ro3_15 : ∀ B, ∀ (go3_2_1 : Nat → Nat → Value), ∀ (go3_5_1 : Nat → Nat → Value), ∀ (go3_8_1 : Nat → Nat → Value), RA f E B all 3 (bt 15 4095) ⟨21, [(1, .obj b1 [I n.id, I n.term_, I n.vote, I n.role, I n.lead, .w (sl 1 cI n.conf) (go3_2_1 0 0), I n.log.start, I n.log.startTerm, .r (sl 3 Entry.c n.log.entries), I n.commit, I n.clock, I n.limit, .r (sl 1 cI n.votes), .r (sl 4 Peer.c n.peers)]), (8, .agg [I n.log.start, I n.log.startTerm, .w (sl 3 Entry.c n.log.entries) (go3_5_1 0 2)]), (11, .w (sl 1 cI n.votes) (go3_8_1 0 0)), (13, .pt 1 b1 6)] ++ b0⟩ K := by
   intro B go3_2_1 go3_5_1 go3_8_1
   refine RA.of2 hall hf hb (RA.stepH (L := [12]) (Tell.of rfl) (by kernel_rfl) (by simp) (RA.each ?_ (RA.each0)))
   ·skip
    refine RO.storeAgg (es := [I n.log.start, I n.log.startTerm, .al 8 (some 2) 3 n.log.entries.length (go3_5_1 0 2) 0]) rfl rfl rfl rfl rfl rfl rfl rfl rfl rfl (Nat.le_of_ble_eq_true rfl) rfl ?_
    refine RA.keep 21 [1,2,8,11] rfl ?_;(conv=>whnf);refine ⟨?_⟩
    refine RA.pullA (k := 1) (l := 8) (j := 8) 1 8 8 rfl rfl rfl (by decide) rfl rfl rfl rfl ?_
    refine RA.keep 21 [1,2,11] rfl ?_;(conv=>whnf);refine ⟨?_⟩
    refine RA.fr XK 21 1 [13] (bt 15 16383) rfl rfl (by kernel_rfl) (Tell.of rfl) ?_
    (conv=>whnf);refine ⟨rfl,fun B=>?_⟩
    exact RA.to2 hall hf hb (ro3_16 B go3_2_1 go3_5_1 go3_8_1) rfl rfl (by kernel_rfl)
  have ro3_14 : ∀ B, ∀ (go3_2_1 : Nat → Nat → Value), ∀ (go3_5_1 : Nat → Nat → Value), ∀ (go3_8_1 : Nat → Nat → Value), RA f E B all 5 (bt 15 1023) ⟨21, [(1, .obj b1 ((Node.c n).map .r)), (5, .w (sl 1 cI n.conf) (go3_2_1 0 0)), (8, .agg [I n.log.start, I n.log.startTerm, .w (sl 3 Entry.c n.log.entries) (go3_5_1 0 2)]), (11, .w (sl 1 cI n.votes) (go3_8_1 0 0)), (12, .pt 1 b1 5)] ++ b0⟩ K := by
   intro B go3_2_1 go3_5_1 go3_8_1
   refine RA.of2 hall hf hb (RA.stepH (L := [10]) (Tell.of rfl) (by kernel_rfl) (by simp) (RA.each ?_ (RA.each0)))
   ·skip
    refine RO.store (d := .al 5 none 1 n.conf.length (go3_2_1 0 0) 0) rfl rfl rfl rfl rfl rfl rfl rfl rfl (Nat.le_of_ble_eq_true rfl) rfl rfl ?_
    refine RA.keep 21 [1,2,5,8,11] rfl ?_;(conv=>whnf);refine ⟨?_⟩
    refine RA.pullT (k := 1) (l := 5) (j := 5) 1 5 5 rfl rfl rfl (by decide) rfl rfl rfl ?_
    refine RA.keep 21 [1,2,8,11] rfl ?_;(conv=>whnf);refine ⟨?_⟩
    refine RA.fr XK 21 3 [11] (bt 15 4095) rfl rfl (by kernel_rfl) (Tell.of rfl) ?_
    (conv=>whnf);refine ⟨rfl,fun B=>?_⟩
    exact RA.to2 hall hf hb (ro3_15 B go3_2_1 go3_5_1 go3_8_1) rfl rfl (by kernel_rfl)
  have ro3_13 : ∀ B, ∀ (go3_2_1 : Nat → Nat → Value), ∀ (go3_5_1 : Nat → Nat → Value), RA f E B all 6 (bt 15 767) ⟨21, [(1, .obj b1 ((Node.c n).map .r)), (5, .w (sl 1 cI n.conf) (go3_2_1 0 0)), (8, .agg [I n.log.start, I n.log.startTerm, .w (sl 3 Entry.c n.log.entries) (go3_5_1 0 2)]), (10, .r (sl 1 cI n.votes)), (12, .pt 1 b1 5)] ++ b0⟩ K := by
   intro B go3_2_1 go3_5_1
   refine RA.of2 hall hf hb (RA.stepH (L := [8]) (Tell.of rfl) (by kernel_rfl) (by simp) (RA.each ?_ (RA.each0)))
   ·skip
    refine RO.call rfl rfl (impl_copyInts_fn n.votes (by first | exact hok.1.1 | exact hok.2.2.1.1)) rfl (.cons (.one (.r .r)) (.nil)) rfl fun go3_8_1 => ?_
    exact RA.to2 hall hf hb (ro3_14 B go3_2_1 go3_5_1 go3_8_1) rfl rfl (by kernel_rfl)
  have ro3_12 : ∀ B, ∀ (go3_2_1 : Nat → Nat → Value), RA f E B all 7 (bt 15 735) ⟨21, [(1, .obj b1 ((Node.c n).map .r)), (5, .w (sl 1 cI n.conf) (go3_2_1 0 0)), (7, .agg ((Log.c n.log).map .r)), (10, .r (sl 1 cI n.votes)), (12, .pt 1 b1 5)] ++ b0⟩ K := by
   intro B go3_2_1
   refine RA.of2 hall hf hb (RA.stepH (L := [5]) (Tell.of rfl) (by kernel_rfl) (by simp) (RA.each ?_ (RA.each0)))
   ·skip
    refine RO.call rfl rfl (impl_copyLog_fn n.log (hok.2.1)) rfl (.cons (.agg (.cons (.r .r) (.cons (.r .r) (.cons (.r .r) (.nil))))) (.nil)) rfl fun go3_5_1 => ?_
    exact RA.to2 hall hf hb (ro3_13 B go3_2_1 go3_5_1) rfl rfl (by kernel_rfl)
  have ro3_11 : ∀ B, ∀ (go3_2_1 : Nat → Nat → Value), ∀ (go3_5_1 : Nat → Nat → Value), RA f E B all 8 (bt 15 127) ⟨21, [(1, .obj b1 ((Node.c n).map .r)), (5, .w (sl 1 cI n.conf) (go3_2_1 0 0)), (8, .agg [I n.log.start, I n.log.startTerm, .w (sl 3 Entry.c n.log.entries) (go3_5_1 0 2)]), (9, .pt 1 b1 12)] ++ b0⟩ K := by
   intro B go3_2_1 go3_5_1
   refine RA.of2 hall hf hb (RA.stepH (L := [7]) (Tell.of rfl) (by kernel_rfl) (by simp) (RA.each ?_ (RA.each0)))
   ·skip
    refine RO.v rfl rfl (V.loadPrim (d := .r (sl 1 cI n.votes)) rfl rfl (.inr ⟨_, rfl⟩) rfl rfl rfl) rfl ?_
    refine RA.fr XK 21 6 [9] (bt 15 767) rfl rfl (by kernel_rfl) (Tell.of rfl) ?_
    (conv=>whnf);refine ⟨rfl,fun B=>?_⟩
    exact RA.to2 hall hf hb (ro3_13 B go3_2_1 go3_5_1) rfl rfl (by kernel_rfl)
  have ro3_10 : ∀ B, RA f E B all 9 (bt 15 219) ⟨21, [(1, .obj b1 ((Node.c n).map .r)), (4, .r (sl 1 cI n.conf)), (7, .agg ((Log.c n.log).map .r)), (10, .r (sl 1 cI n.votes))] ++ b0⟩ K := by
   intro B
   refine RA.of2 hall hf hb (RA.stepH (L := [2]) (Tell.of rfl) (by kernel_rfl) (by simp) (RA.each ?_ (RA.each0)))
   ·skip
    refine RO.call rfl rfl (impl_copyInts_fn n.conf (by first | exact hok.1.1 | exact hok.2.2.1.1)) rfl (.cons (.one (.r .r)) (.nil)) rfl fun go3_2_1 => ?_
    refine RA.fr XK 21 7 [9] (bt 15 735) rfl rfl (by kernel_rfl) (Tell.of rfl) ?_
    (conv=>whnf);refine ⟨rfl,fun B=>?_⟩
    exact RA.to2 hall hf hb (ro3_12 B go3_2_1) rfl rfl (by kernel_rfl)
  have ro3_9 : ∀ B, ∀ (go3_2_1 : Nat → Nat → Value), RA f E B all 9 (bt 15 207) ⟨21, [(1, .obj b1 ((Node.c n).map .r)), (5, .w (sl 1 cI n.conf) (go3_2_1 0 0)), (6, .pt 1 b1 6), (10, .r (sl 1 cI n.votes))] ++ b0⟩ K := by
   intro B go3_2_1
   refine RA.of2 hall hf hb (RA.stepH (L := [4]) (Tell.of rfl) (by kernel_rfl) (by simp) (RA.each ?_ (RA.each0)))
   ·skip
    refine RO.v rfl rfl (V.loadAgg rfl rfl rfl rfl rfl (Nat.le_of_ble_eq_true rfl)) rfl ?_
    refine RA.fr XK 21 7 [9] (bt 15 735) rfl rfl (by kernel_rfl) (Tell.of rfl) ?_
    (conv=>whnf);refine ⟨rfl,fun B=>?_⟩
    exact RA.to2 hall hf hb (ro3_12 B go3_2_1) rfl rfl (by kernel_rfl)
  have ro3_8 : ∀ B, ∀ (go3_2_1 : Nat → Nat → Value), RA f E B all 9 (bt 15 95) ⟨21, [(1, .obj b1 ((Node.c n).map .r)), (5, .w (sl 1 cI n.conf) (go3_2_1 0 0)), (7, .agg ((Log.c n.log).map .r)), (9, .pt 1 b1 12)] ++ b0⟩ K := by
   intro B go3_2_1
   refine RA.of2 hall hf hb (RA.stepH (L := [5, 7]) (Tell.of rfl) (by kernel_rfl) (by simp) (RA.each ?_ (RA.each ?_ (RA.each0))))
   ·skip
    refine RO.call rfl rfl (impl_copyLog_fn n.log (hok.2.1)) rfl (.cons (.agg (.cons (.r .r) (.cons (.r .r) (.cons (.r .r) (.nil))))) (.nil)) rfl fun go3_5_1 => ?_
    exact RA.to2 hall hf hb (ro3_11 B go3_2_1 go3_5_1) rfl rfl (by kernel_rfl)
   ·skip
    refine RO.v rfl rfl (V.loadPrim (d := .r (sl 1 cI n.votes)) rfl rfl (.inr ⟨_, rfl⟩) rfl rfl rfl) rfl ?_
    refine RA.fr XK 21 7 [9] (bt 15 735) rfl rfl (by kernel_rfl) (Tell.of rfl) ?_
    (conv=>whnf);refine ⟨rfl,fun B=>?_⟩
    exact RA.to2 hall hf hb (ro3_12 B go3_2_1) rfl rfl (by kernel_rfl)
  have ro3_7 : ∀ B, RA f E B all 10 (bt 15 217) ⟨21, [(1, .obj b1 ((Node.c n).map .r)), (3, .pt 1 b1 5), (7, .agg ((Log.c n.log).map .r)), (10, .r (sl 1 cI n.votes))] ++ b0⟩ K := by
   intro B
   refine RA.of2 hall hf hb (RA.stepH (L := [1]) (Tell.of rfl) (by kernel_rfl) (by simp) (RA.each ?_ (RA.each0)))
   ·skip
    refine RO.v rfl rfl (V.loadPrim (d := .r (sl 1 cI n.conf)) rfl rfl (.inr ⟨_, rfl⟩) rfl rfl rfl) rfl ?_
    exact RA.to2 hall hf hb (ro3_10 B) rfl rfl (by kernel_rfl)
  have ro3_6 : ∀ B, RA f E B all 10 (bt 15 203) ⟨21, [(1, .obj b1 ((Node.c n).map .r)), (4, .r (sl 1 cI n.conf)), (6, .pt 1 b1 6), (10, .r (sl 1 cI n.votes))] ++ b0⟩ K := by
   intro B
   refine RA.of2 hall hf hb (RA.stepH (L := [2, 4]) (Tell.of rfl) (by kernel_rfl) (by simp) (RA.each ?_ (RA.each ?_ (RA.each0))))
   ·skip
    refine RO.call rfl rfl (impl_copyInts_fn n.conf (by first | exact hok.1.1 | exact hok.2.2.1.1)) rfl (.cons (.one (.r .r)) (.nil)) rfl fun go3_2_1 => ?_
    exact RA.to2 hall hf hb (ro3_9 B go3_2_1) rfl rfl (by kernel_rfl)
   ·skip
    refine RO.v rfl rfl (V.loadAgg rfl rfl rfl rfl rfl (Nat.le_of_ble_eq_true rfl)) rfl ?_
    exact RA.to2 hall hf hb (ro3_10 B) rfl rfl (by kernel_rfl)
  have ro3_5 : ∀ B, RA f E B all 10 (bt 15 91) ⟨21, [(1, .obj b1 ((Node.c n).map .r)), (4, .r (sl 1 cI n.conf)), (7, .agg ((Log.c n.log).map .r)), (9, .pt 1 b1 12)] ++ b0⟩ K := by
   intro B
   refine RA.of2 hall hf hb (RA.stepH (L := [2, 7]) (Tell.of rfl) (by kernel_rfl) (by simp) (RA.each ?_ (RA.each ?_ (RA.each0))))
   ·skip
    refine RO.call rfl rfl (impl_copyInts_fn n.conf (by first | exact hok.1.1 | exact hok.2.2.1.1)) rfl (.cons (.one (.r .r)) (.nil)) rfl fun go3_2_1 => ?_
    exact RA.to2 hall hf hb (ro3_8 B go3_2_1) rfl rfl (by kernel_rfl)
   ·skip
    refine RO.v rfl rfl (V.loadPrim (d := .r (sl 1 cI n.votes)) rfl rfl (.inr ⟨_, rfl⟩) rfl rfl rfl) rfl ?_
    exact RA.to2 hall hf hb (ro3_10 B) rfl rfl (by kernel_rfl)
  have ro3_4 : ∀ B, ∀ (go3_2_1 : Nat → Nat → Value), RA f E B all 10 (bt 15 79) ⟨21, [(1, .obj b1 ((Node.c n).map .r)), (5, .w (sl 1 cI n.conf) (go3_2_1 0 0)), (6, .pt 1 b1 6), (9, .pt 1 b1 12)] ++ b0⟩ K := by
   intro B go3_2_1
   refine RA.of2 hall hf hb (RA.stepH (L := [4, 7]) (Tell.of rfl) (by kernel_rfl) (by simp) (RA.each ?_ (RA.each ?_ (RA.each0))))
   ·skip
    refine RO.v rfl rfl (V.loadAgg rfl rfl rfl rfl rfl (Nat.le_of_ble_eq_true rfl)) rfl ?_
    exact RA.to2 hall hf hb (ro3_8 B go3_2_1) rfl rfl (by kernel_rfl)
   ·skip
    refine RO.v rfl rfl (V.loadPrim (d := .r (sl 1 cI n.votes)) rfl rfl (.inr ⟨_, rfl⟩) rfl rfl rfl) rfl ?_
    exact RA.to2 hall hf hb (ro3_9 B go3_2_1) rfl rfl (by kernel_rfl)
  have ro3_3 : ∀ B, RA f E B all 11 (bt 15 201) ⟨21, [(1, .obj b1 ((Node.c n).map .r)), (3, .pt 1 b1 5), (6, .pt 1 b1 6), (10, .r (sl 1 cI n.votes))] ++ b0⟩ K := by
   intro B
   refine RA.of2 hall hf hb (RA.stepH (L := [1, 4]) (Tell.of rfl) (by kernel_rfl) (by simp) (RA.each ?_ (RA.each ?_ (RA.each0))))
   ·skip
    refine RO.v rfl rfl (V.loadPrim (d := .r (sl 1 cI n.conf)) rfl rfl (.inr ⟨_, rfl⟩) rfl rfl rfl) rfl ?_
    exact RA.to2 hall hf hb (ro3_6 B) rfl rfl (by kernel_rfl)
   ·skip
    refine RO.v rfl rfl (V.loadAgg rfl rfl rfl rfl rfl (Nat.le_of_ble_eq_true rfl)) rfl ?_
    exact RA.to2 hall hf hb (ro3_7 B) rfl rfl (by kernel_rfl)
  have ro3_2 : ∀ B, RA f E B all 11 (bt 15 89) ⟨21, [(1, .obj b1 ((Node.c n).map .r)), (3, .pt 1 b1 5), (7, .agg ((Log.c n.log).map .r)), (9, .pt 1 b1 12)] ++ b0⟩ K := by
   intro B
   refine RA.of2 hall hf hb (RA.stepH (L := [1, 7]) (Tell.of rfl) (by kernel_rfl) (by simp) (RA.each ?_ (RA.each ?_ (RA.each0))))
   ·skip
    refine RO.v rfl rfl (V.loadPrim (d := .r (sl 1 cI n.conf)) rfl rfl (.inr ⟨_, rfl⟩) rfl rfl rfl) rfl ?_
    exact RA.to2 hall hf hb (ro3_5 B) rfl rfl (by kernel_rfl)
   ·skip
    refine RO.v rfl rfl (V.loadPrim (d := .r (sl 1 cI n.votes)) rfl rfl (.inr ⟨_, rfl⟩) rfl rfl rfl) rfl ?_
    exact RA.to2 hall hf hb (ro3_7 B) rfl rfl (by kernel_rfl)
  have ro3_1 : ∀ B, RA f E B all 11 (bt 15 75) ⟨21, [(1, .obj b1 ((Node.c n).map .r)), (4, .r (sl 1 cI n.conf)), (6, .pt 1 b1 6), (9, .pt 1 b1 12)] ++ b0⟩ K := by
   intro B
   refine RA.of2 hall hf hb (RA.stepH (L := [2, 4, 7]) (Tell.of rfl) (by kernel_rfl) (by simp) (RA.each ?_ (RA.each ?_ (RA.each ?_ (RA.each0)))))
   ·skip
    refine RO.call rfl rfl (impl_copyInts_fn n.conf (by first | exact hok.1.1 | exact hok.2.2.1.1)) rfl (.cons (.one (.r .r)) (.nil)) rfl fun go3_2_1 => ?_
    exact RA.to2 hall hf hb (ro3_4 B go3_2_1) rfl rfl (by kernel_rfl)
   ·skip
    refine RO.v rfl rfl (V.loadAgg rfl rfl rfl rfl rfl (Nat.le_of_ble_eq_true rfl)) rfl ?_
    exact RA.to2 hall hf hb (ro3_5 B) rfl rfl (by kernel_rfl)
   ·skip
    refine RO.v rfl rfl (V.loadPrim (d := .r (sl 1 cI n.votes)) rfl rfl (.inr ⟨_, rfl⟩) rfl rfl rfl) rfl ?_
    exact RA.to2 hall hf hb (ro3_6 B) rfl rfl (by kernel_rfl)
  have ro3_0 : ∀ B, RA f E B all 12 (bt 15 73) ⟨21, [(1, .obj b1 ((Node.c n).map .r)), (3, .pt 1 b1 5), (6, .pt 1 b1 6), (9, .pt 1 b1 12)] ++ b0⟩ K := by
   intro B
   refine RA.of2 hall hf hb (RA.stepH (L := [1, 4, 7]) (Tell.of rfl) (by kernel_rfl) (by simp) (RA.each ?_ (RA.each ?_ (RA.each ?_ (RA.each0)))))
   ·skip
    refine RO.v rfl rfl (V.loadPrim (d := .r (sl 1 cI n.conf)) rfl rfl (.inr ⟨_, rfl⟩) rfl rfl rfl) rfl ?_
    exact RA.to2 hall hf hb (ro3_1 B) rfl rfl (by kernel_rfl)
   ·skip
    refine RO.v rfl rfl (V.loadAgg rfl rfl rfl rfl rfl (Nat.le_of_ble_eq_true rfl)) rfl ?_
    exact RA.to2 hall hf hb (ro3_2 B) rfl rfl (by kernel_rfl)
   ·skip
    refine RO.v rfl rfl (V.loadPrim (d := .r (sl 1 cI n.votes)) rfl rfl (.inr ⟨_, rfl⟩) rfl rfl rfl) rfl ?_
    exact RA.to2 hall hf hb (ro3_3 B) rfl rfl (by kernel_rfl)
  refine RA.start (by kernel_rfl) (by kernel_rfl) (m := 15) (ls' := (bt 15 0)) ?_
  refine RA.fr XK 21 12 [0,3,6] (bt 15 73) rfl rfl (by kernel_rfl) (Tell.of rfl) ?_
  (conv=>whnf);refine ⟨rfl,fun B=>?_⟩
  exact RA.to2 hall hf hb (ro3_0 B) rfl rfl (by kernel_rfl)
 ·rintro ⟨go3_2_1, go3_5_1, go3_8_1⟩
  refine CW.seq ?_
  refine CW.region ?_
  refine RW.build0 Peer.c rfl rfl rfl rfl rfl fun X4 => ?_
  refine RW.k XK 21 2 rfl ?_
  (conv=>whnf);refine ⟨rfl,?_⟩
  refine RW.appendSR (c := Peer.c) (l1 := ([] : List Peer)) (l2 := n.peers) rfl rfl rfl rfl rfl rfl rfl rfl .r (by decide) (Nat.le_of_ble_eq_true rfl) Peer.len (fun _ => rfl) rfl (by have h1 := hok.1.1; have h2 := hok.2.1.1; have h3 := hok.2.2.1.1; have h4 := hok.2.2.2.1; simp only [maxLen, List.length_nil]; omega) (by have h1 := hok.1.1; have h2 := hok.2.1.1; have h3 := hok.2.2.1.1; have h4 := hok.2.2.2.1; simp only [maxLen, List.length_nil]; omega) fun X5 => ?_
  refine RW.k XK 21 2 rfl ?_
  (conv=>whnf);refine ⟨rfl,?_⟩
  refine RW.keep 21 [1,2,18] rfl ?_;(conv=>whnf);refine ⟨?_⟩
  refine RW.pullT (k := 1) (l := 18) (j := 13) 1 18 13 rfl rfl rfl (by decide) rfl rfl rfl ?_
  refine RW.keep 21 [1,2] rfl ?_;(conv=>whnf);refine ⟨?_⟩
  refine RW.nil ?_
  refine CW.keep 21 [1,2] rfl ?_;(conv=>whnf);refine ⟨?_⟩
  refine CW.seq ?_
  refine CW.region ?_
  refine RW.k XK 21 2 rfl ?_
  (conv=>whnf);refine ⟨rfl,?_⟩
  refine RW.keep 21 [1,2] rfl ?_;(conv=>whnf);refine ⟨?_⟩
  refine RW.pullO (k := 2) (l := 1) (j := 5) 2 1 5 rfl rfl rfl (by decide) rfl rfl rfl rfl ?_
  refine RW.keep 21 [1,2] rfl ?_;(conv=>whnf);refine ⟨?_⟩
  refine RW.pullO (k := 2) (l := 1) (j := 8) 2 1 8 rfl rfl rfl (by decide) rfl rfl rfl rfl ?_
  refine RW.keep 21 [1,2] rfl ?_;(conv=>whnf);refine ⟨?_⟩
  refine RW.pullO (k := 2) (l := 1) (j := 12) 2 1 12 rfl rfl rfl (by decide) rfl rfl rfl rfl ?_
  refine RW.keep 21 [1,2] rfl ?_;(conv=>whnf);refine ⟨?_⟩
  refine RW.pullO (k := 2) (l := 1) (j := 13) 2 1 13 rfl rfl rfl (by decide) rfl rfl rfl rfl ?_
  refine RW.keep 21 [2] rfl ?_;(conv=>whnf);refine ⟨?_⟩
  refine RW.nil ?_
  refine CW.keep 21 [2] rfl ?_;(conv=>whnf);refine ⟨?_⟩
  refine CW.ret ?_
  exact Post.one (RV.c (f := fun e => (Node.c e).map .w) (e' := (⟨n.id, n.term_, n.vote, n.role, n.lead, n.conf, n.log, n.commit, n.clock, n.limit, n.votes, (([] : List Peer) ++ n.peers)⟩ : Node)) rfl rfl rfl rfl (DT.v (DT.v (DT.v (DT.v (DT.v (DT.w (DT.v (DT.v (DT.w (DT.v (DT.v (DT.v (DT.w (DT.w DT.e)))))))))))))) (by rfl)) (AOs.a rfl AOs.e)
end Go.Proofs.Ytbiocicogminlaa.Y
