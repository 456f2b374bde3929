import Derived.Test.YtmhnehgpmndiiaaPu
import Derived.Test.YtmhnehgpmndiiaaProg
namespace Go.Proofs.Ytmhnehgpmndiiaa.Y
open Go Go.RowKit Go.Eng Go.Proofs
set_option maxRecDepth 10000
def tl : List (Nat × TyI) := [
(3, ⟨1, 8, [.int .i64 0], .prim⟩),
(4, ⟨1, 1, [.bool false], .prim⟩),
(5, ⟨1, 1, [.int .u8 0], .prim⟩),
(9, ⟨1, 16, [.string ⟨#[]⟩], .prim⟩),
(22, ⟨1, 24, [.slice none 0 0], .slice 44⟩),
(23, ⟨1, 24, [.slice none 0 0], .slice 3⟩),
(25, ⟨12, 136, [.int .i64 0, .int .i64 0, .int .i64 0, .int .i64 0, .int .i64 0, .int .i64 0, .int .i64 0, .bool false, .slice none 0 0, .slice none 0 0, .string ⟨#[]⟩, .bool false], .agg [(0, 3, 1), (1, 3, 1), (2, 3, 1), (3, 3, 1), (4, 3, 1), (5, 3, 1), (6, 3, 1), (7, 4, 1), (8, 22, 1), (9, 23, 1), (10, 9, 1), (11, 4, 1)]⟩),
(31, ⟨1, 24, [.slice none 0 0], .slice 5⟩),
(40, ⟨3, 32, [.string ⟨#[]⟩, .int .i64 0, .bool false], .agg [(0, 9, 1), (1, 3, 1), (2, 4, 1)]⟩),
(44, ⟨3, 32, [.int .i64 0, .int .i64 0, .string ⟨#[]⟩], .agg [(0, 3, 1), (1, 3, 1), (2, 9, 1)]⟩),
(52, ⟨3, 32, [.string ⟨#[]⟩, .int .i64 0, .bool false], .agg [(0, 9, 1), (1, 3, 1), (2, 4, 1)]⟩),
(88, ⟨3, 40, [.slice none 0 0, .int .i64 0, .int .i64 0], .agg [(0, 31, 1), (1, 3, 1), (2, 3, 1)]⟩),
(90, ⟨1, 24, [.slice none 0 0], .slice 9⟩),
(99, ⟨6, 64, [.int .i64 0, .int .i64 0, .int .i64 0, .string ⟨#[]⟩, .string ⟨#[]⟩, .int .i64 0], .agg [(0, 3, 1), (1, 3, 1), (2, 3, 1), (3, 9, 1), (4, 9, 1), (5, 3, 1)]⟩),
(103, ⟨1, 24, [.slice none 0 0], .slice 109⟩),
(104, ⟨1, 24, [.slice none 0 0], .slice 112⟩),
(106, ⟨2, 48, [.slice none 0 0, .slice none 0 0], .agg [(0, 103, 1), (1, 104, 1)]⟩),
(109, ⟨3, 32, [.int .i64 0, .int .i64 0, .string ⟨#[]⟩], .agg [(0, 3, 1), (1, 3, 1), (2, 9, 1)]⟩),
(112, ⟨3, 40, [.string ⟨#[]⟩, .string ⟨#[]⟩, .int .i64 0], .agg [(0, 9, 1), (1, 9, 1), (2, 3, 1)]⟩)]
theorem tl_ok : ∀ p ∈ tl, tyI Try.prog p.1 = some p.2 := by
  refine List.forall_mem_cons.2 ⟨by kernel_rfl, ?_⟩
  refine List.forall_mem_cons.2 ⟨by kernel_rfl, ?_⟩
  refine List.forall_mem_cons.2 ⟨by kernel_rfl, ?_⟩
  refine List.forall_mem_cons.2 ⟨by kernel_rfl, ?_⟩
  refine List.forall_mem_cons.2 ⟨by kernel_rfl, ?_⟩
  refine List.forall_mem_cons.2 ⟨by kernel_rfl, ?_⟩
  refine List.forall_mem_cons.2 ⟨by kernel_rfl, ?_⟩
  refine List.forall_mem_cons.2 ⟨by kernel_rfl, ?_⟩
  refine List.forall_mem_cons.2 ⟨by kernel_rfl, ?_⟩
  refine List.forall_mem_cons.2 ⟨by kernel_rfl, ?_⟩
  refine List.forall_mem_cons.2 ⟨by kernel_rfl, ?_⟩
  refine List.forall_mem_cons.2 ⟨by kernel_rfl, ?_⟩
  refine List.forall_mem_cons.2 ⟨by kernel_rfl, ?_⟩
  refine List.forall_mem_cons.2 ⟨by kernel_rfl, ?_⟩
  refine List.forall_mem_cons.2 ⟨by kernel_rfl, ?_⟩
  refine List.forall_mem_cons.2 ⟨by kernel_rfl, ?_⟩
  refine List.forall_mem_cons.2 ⟨by kernel_rfl, ?_⟩
  refine List.forall_mem_cons.2 ⟨by kernel_rfl, ?_⟩
  refine List.forall_mem_cons.2 ⟨by kernel_rfl, ?_⟩
  exact fun _ h => by cases h
noncomputable def E : Env := ⟨Try.prog, lk tl, fun t i h => tl_ok (t, i) (lk_mem _ _ _ h), by kernel_rfl⟩
def kl : List (Nat × TypeDesc) := [(3, .int .i64), (4, .bool), (5, .int .u8), (9, .string)]
theorem kl_ok : ∀ p ∈ kl, Try.prog.underlying p.1 = some p.2 := by
  refine List.forall_mem_cons.2 ⟨by kernel_rfl, ?_⟩
  refine List.forall_mem_cons.2 ⟨by kernel_rfl, ?_⟩
  refine List.forall_mem_cons.2 ⟨by kernel_rfl, ?_⟩
  refine List.forall_mem_cons.2 ⟨by kernel_rfl, ?_⟩
  exact fun _ h => by cases h
noncomputable def XK : Kd E.P := ⟨lk kl, fun t d h => kl_ok (t, d) (lk_mem _ _ _ h)⟩
theorem eq44_in (x y : Entry) (n : Nat) (w : World) : (Op.equalIn (n + 2) 44 (.agg x.vs.toArray) (.agg y.vs.toArray)).run Try.prog w = .ok (eqEntry x y) w := by
  refine eqA_of Try.underlying44 (by kernel_rfl) ?_
  refine eqF_cons (by rfl) (by go_simp; rfl) (by go_simp; rfl) (by go_simp) ?_
  refine eqF_cons (by rfl) (by go_simp; rfl) (by go_simp; rfl) (by go_simp) ?_
  exact eqF_last (by rfl) (by go_simp; rfl) (by go_simp; rfl) (by go_simp)
theorem eq44 (x y : Entry) (w : World) : (Op.equal 44 (.agg x.vs.toArray) (.agg y.vs.toArray)).run E.P w = .ok (eqEntry x y) w := eq44_in x y 9998 w
set_option maxHeartbeats 4000000 in
theorem spec_l01In_fn (n : Int) (x : Int) (y : Int) : Eng.Fn E.P 43 [.one (.r (.v (.int .i64 n))), .one (.r (.v (.int .i64 x))), .one (.r (.v (.int .i64 y)))] (.one (.one (.w (.v (.bool (inR n x y)))))) [.one (.r (.v (.int .i64 n))), .one (.r (.v (.int .i64 x))), .one (.r (.v (.int .i64 y)))] := by
 refine Eng.Fn.intro (E := E) (rvs := [.tmp 6]) Try.func43 rfl rfl rfl (by simp [outSlots, moved, rvSlot, sl]) ?_
 intro B g bo
 refine CW.keep 15 [0,1,2] rfl ?_;(conv=>whnf);refine ⟨?_⟩
 refine CW.k XK 15 1 [0,1,2] rfl ?_
 (conv=>whnf);refine ⟨rfl,?_⟩
 refine CW.seqJ 15 (fun (v1 : Bool) => [(6, Bo v1)]) (fun v1 => v1 = (decide (n ≥ x) && decide (n ≤ y))) ?_ ?_
 ·refine CW.region ?_
  refine RW.k XK 15 4 rfl ?_
  (conv=>whnf);refine ⟨rfl,?_⟩
  refine RW.gv rfl rfl rfl rfl (fun h2 => V.mv (d := I n) rfl rfl) (fun h2 => ?_) (fun h2 => ?_)
  ·skip
   refine RW.k XK 15 4 rfl ?_
   (conv=>whnf);refine ⟨rfl,?_⟩
   refine RW.nil ?_
   exact ⟨_, by first | rfl | (simp_all; done) | (simp_all; omega) | grind, rfl, Le.of rfl⟩
  ·skip
   refine RW.k XK 15 4 rfl ?_
   (conv=>whnf);refine ⟨rfl,?_⟩
   refine RW.nil ?_
   exact ⟨_, by first | rfl | (simp_all; done) | (simp_all; omega) | grind, rfl, Le.of rfl⟩
 ·intro v1 hv3
  refine CW.ret ?_
  exact Post.one (RV.b rfl (by simp_all [inR])) (AOs.r (AOs.r (AOs.r AOs.e)))
set_option maxHeartbeats 4000000 in
theorem impl_within_fn (n : Int) (x : Int) (y : Int) : Eng.Fn E.P 46 [.one (.r (.v (.int .i64 n))), .one (.r (.v (.int .i64 x))), .one (.r (.v (.int .i64 y)))] (.one (.one (.w (.v (.bool (inR n x y)))))) [.one (.r (.v (.int .i64 n))), .one (.r (.v (.int .i64 x))), .one (.r (.v (.int .i64 y)))] := by
 refine Eng.Fn.intro (E := E) (rvs := [.tmp 6]) Try.func46 rfl rfl rfl (by simp [outSlots, moved, rvSlot, sl]) ?_
 intro B g bo
 refine CW.keep 15 [0,1,2] rfl ?_;(conv=>whnf);refine ⟨?_⟩
 refine CW.k XK 15 1 [0,1,2] rfl ?_
 (conv=>whnf);refine ⟨rfl,?_⟩
 refine CW.seqJ 15 (fun (v1 : Bool) => [(6, Bo v1)]) (fun v1 => v1 = (decide (n ≥ x) && decide (n ≤ y))) ?_ ?_
 ·refine CW.region ?_
  refine RW.k XK 15 4 rfl ?_
  (conv=>whnf);refine ⟨rfl,?_⟩
  refine RW.gv rfl rfl rfl rfl (fun h2 => V.mv (d := I n) rfl rfl) (fun h2 => ?_) (fun h2 => ?_)
  ·skip
   refine RW.k XK 15 4 rfl ?_
   (conv=>whnf);refine ⟨rfl,?_⟩
   refine RW.nil ?_
   exact ⟨_, by first | rfl | (simp_all; done) | (simp_all; omega) | grind, rfl, Le.of rfl⟩
  ·skip
   refine RW.k XK 15 4 rfl ?_
   (conv=>whnf);refine ⟨rfl,?_⟩
   refine RW.nil ?_
   exact ⟨_, by first | rfl | (simp_all; done) | (simp_all; omega) | grind, rfl, Le.of rfl⟩
 ·intro v1 hv3
  refine CW.ret ?_
  exact Post.one (RV.b rfl (by simp_all [inR])) (AOs.r (AOs.r (AOs.r AOs.e)))
set_option maxHeartbeats 4000000 in
theorem impl_isNode_fn (n : Int) : Eng.Fn E.P 47 [.one (.r (.v (.int .i64 n)))] (.one (.one (.w (.v (.bool (inR n 1 4)))))) [.one (.r (.v (.int .i64 n)))] := by
 refine Eng.Fn.intro (E := E) (rvs := [.tmp 2]) Try.func47 rfl rfl rfl (by simp [outSlots, moved, rvSlot, sl]) ?_
 intro B g bo
 refine CW.keep 5 [0] rfl ?_;(conv=>whnf);refine ⟨?_⟩
 refine CW.k XK 5 1 [0] rfl ?_
 (conv=>whnf);refine ⟨rfl,?_⟩
 refine CW.seq ?_
 refine CW.region ?_
 refine RW.k XK 5 1 rfl ?_
 (conv=>whnf);refine ⟨rfl,?_⟩
 refine RW.call rfl (impl_within_fn n 1 4) rfl (.cons (.one (.r .r)) (.cons (.one (.r .r)) (.cons (.one (.r .r)) (.nil)))) fun g1 => ?_
 refine RW.k XK 5 1 rfl ?_
 (conv=>whnf);refine ⟨rfl,?_⟩
 refine RW.nil ?_
 refine CW.keep 5 [2] rfl ?_;(conv=>whnf);refine ⟨?_⟩
 refine CW.ret ?_
 exact Post.one (RV.b rfl (by rfl)) (AOs.r AOs.e)
set_option maxHeartbeats 4000000 in
theorem impl_isIndex_fn (n : Int) : Eng.Fn E.P 51 [.one (.r (.v (.int .i64 n)))] (.one (.one (.w (.v (.bool (inR n 0 1000000)))))) [.one (.r (.v (.int .i64 n)))] := by
 refine Eng.Fn.intro (E := E) (rvs := [.tmp 2]) Try.func51 rfl rfl rfl (by simp [outSlots, moved, rvSlot, sl]) ?_
 intro B g bo
 refine CW.keep 5 [0] rfl ?_;(conv=>whnf);refine ⟨?_⟩
 refine CW.k XK 5 1 [0] rfl ?_
 (conv=>whnf);refine ⟨rfl,?_⟩
 refine CW.seq ?_
 refine CW.region ?_
 refine RW.k XK 5 1 rfl ?_
 (conv=>whnf);refine ⟨rfl,?_⟩
 refine RW.call rfl (impl_within_fn n 0 1000000) rfl (.cons (.one (.r .r)) (.cons (.one (.r .r)) (.cons (.one (.r .r)) (.nil)))) fun g1 => ?_
 refine RW.k XK 5 1 rfl ?_
 (conv=>whnf);refine ⟨rfl,?_⟩
 refine RW.nil ?_
 refine CW.keep 5 [2] rfl ?_;(conv=>whnf);refine ⟨?_⟩
 refine CW.ret ?_
 exact Post.one (RV.b rfl (by rfl)) (AOs.r AOs.e)
set_option maxHeartbeats 4000000 in
theorem impl_isTerm_fn (n : Int) : Eng.Fn E.P 48 [.one (.r (.v (.int .i64 n)))] (.one (.one (.w (.v (.bool (inR n 0 100000)))))) [.one (.r (.v (.int .i64 n)))] := by
 refine Eng.Fn.intro (E := E) (rvs := [.tmp 2]) Try.func48 rfl rfl rfl (by simp [outSlots, moved, rvSlot, sl]) ?_
 intro B g bo
 refine CW.keep 5 [0] rfl ?_;(conv=>whnf);refine ⟨?_⟩
 refine CW.k XK 5 1 [0] rfl ?_
 (conv=>whnf);refine ⟨rfl,?_⟩
 refine CW.seq ?_
 refine CW.region ?_
 refine RW.k XK 5 1 rfl ?_
 (conv=>whnf);refine ⟨rfl,?_⟩
 refine RW.call rfl (impl_within_fn n 0 100000) rfl (.cons (.one (.r .r)) (.cons (.one (.r .r)) (.cons (.one (.r .r)) (.nil)))) fun g1 => ?_
 refine RW.k XK 5 1 rfl ?_
 (conv=>whnf);refine ⟨rfl,?_⟩
 refine RW.nil ?_
 refine CW.keep 5 [2] rfl ?_;(conv=>whnf);refine ⟨?_⟩
 refine CW.ret ?_
 exact Post.one (RV.b rfl (by rfl)) (AOs.r AOs.e)
set_option maxHeartbeats 4000000 in
theorem spec_l05Rise_fn (a : List Int) (lo : Int) (hi : Int) : Eng.Fn E.P 73 [.one (.r (sl 1 cI a)), .one (.r (.v (.int .i64 lo))), .one (.r (.v (.int .i64 hi)))] (.one (.one (.w (.v (.bool (riseOk lo hi none a)))))) [.one (.r (sl 1 cI a)), .one (.r (.v (.int .i64 lo))), .one (.r (.v (.int .i64 hi)))] := by
 refine Eng.Fn.intro (E := E) (rvs := [.tmp 6]) Try.func73 rfl rfl rfl (by simp [outSlots, moved, rvSlot, sl]) ?_
 intro B g bo
 refine CW.bound (x := .tmp 0) (n := a.length) (AsT.r) (fun hl0 => ?_)
 refine CW.keep 38 [0,1,2] rfl ?_;(conv=>whnf);refine ⟨?_⟩
 refine CW.k XK 38 1 [0,1,2] rfl ?_
 (conv=>whnf);refine ⟨rfl,?_⟩
 refine CW.seq ?_
 refine CW.k XK 38 1 [0,1,2,7] rfl ?_
 (conv=>whnf);refine ⟨rfl,?_⟩
 refine CW.block ?_
 refine CW.loopI 38 (fun (i : Nat) => [(0, .r (sl 1 cI a)), (1, I lo), (2, I hi), (7, I (i : Int))]) (fun (i : Nat) => i ≤ a.length ∧ riseOk lo hi (prevI a i) (a.drop i) = riseOk lo hi none a) (fun (i : Nat) => a.length - i) 0 rfl (Le.c rfl <| Le.c rfl <| Le.c rfl <| Le.c rfl <| Le.e) ⟨by omega, by simp [prevI]⟩ ?_
 rintro i ⟨hb, hr⟩
 refine CW.seq ?_
 refine CW.k XK 38 1 [0,1,2,7,11] rfl ?_
 (conv=>whnf);refine ⟨rfl,?_⟩
 refine CW.cond rfl (fun h1 => ?_) (fun h1 => ?_)
 ·skip
  have hii : i < a.length := by have := h1; simp at this; first | exact this | omega | (simp; done) | (simp; omega)
  obtain ⟨ei, hei⟩ : ∃ e, a[i]? = some e := ⟨_, List.getElem?_eq_getElem hii⟩
  have hdi := drop_get hei
  refine CW.skip ?_
  refine CW.keep 38 [0,1,2,7] rfl ?_;(conv=>whnf);refine ⟨?_⟩
  refine CW.seq ?_
  refine CW.block ?_
  refine CW.seqJ 38 (fun (v2 : Bool) => [(0, .r (sl 1 cI a)), (1, I lo), (2, I hi), (7, I (i : Int)), (37, Bo v2)]) (fun v2 => v2 = ((!(inR ei lo hi)) || (decide ((i : Int) > 0) && decide ((a.getD (i - 1) 0) ≥ ei)))) ?_ ?_
  ·refine CW.drawn (by kernel_rfl) ?_
   refine RQ.k XK 38 2 rfl ?_
   (conv=>whnf);refine ⟨rfl,?_⟩
   refine RQ.v rfl (V.indexS rfl rfl rfl rfl rfl rfl cI.len hei) ?_
   refine RQ.k XK 38 3 rfl ?_
   (conv=>whnf);refine ⟨rfl,?_⟩
   refine RQ.cons rfl (QOK.call (spec_l01In_fn ei lo hi) rfl (.cons (.one (.r .r)) (.cons (.one (.r .r)) (.cons (.one (.r .r)) (.nil)))) ?_)
   refine RQ.k XK 38 2 rfl ?_
   (conv=>whnf);refine ⟨rfl,?_⟩
   refine RQ.gv rfl rfl rfl rfl (fun h3 => V.mv (d := I (i : Int)) rfl rfl) (fun h3 => ?_) (fun h3 => ?_)
   ·skip
    refine RQ.k XK 38 2 rfl ?_
    (conv=>whnf);refine ⟨rfl,?_⟩
    refine RQ.gv rfl rfl rfl rfl (fun h4 => V.mv (d := .r (sl 1 cI a)) rfl rfl) (fun h4 => ?_) (fun h4 => ?_)
    ·skip
     refine RQ.k XK 38 1 rfl ?_
     (conv=>whnf);refine ⟨rfl,?_⟩
     refine RQ.gt rfl rfl rfl rfl (V.dec (m := i) rfl rfl rfl (by have := h4; simp at this; omega) (by omega)) ?_
     refine RQ.gt rfl rfl rfl rfl (V.indexS rfl rfl rfl rfl rfl rfl cI.len (getD_some (l := a) (j := i - 1) (z := 0) (by omega))) ?_
     refine RQ.k XK 38 3 rfl ?_
     (conv=>whnf);refine ⟨rfl,?_⟩
     refine RQ.gt rfl rfl rfl rfl (V.indexS rfl rfl rfl rfl rfl rfl cI.len hei) ?_
     refine RQ.k XK 38 4 rfl ?_
     (conv=>whnf);refine ⟨rfl,?_⟩
     refine RQ.nil ?_
     exact ⟨_, by first | rfl | (simp_all; done) | (simp_all; omega) | grind, rfl, Le.of rfl⟩
    ·skip
     refine RQ.k XK 38 11 rfl ?_
     (conv=>whnf);refine ⟨rfl,?_⟩
     refine RQ.nil ?_
     exact ⟨_, by first | rfl | (simp_all; done) | (simp_all; omega) | grind, rfl, Le.of rfl⟩
   ·skip
    refine RQ.k XK 38 14 rfl ?_
    (conv=>whnf);refine ⟨rfl,?_⟩
    refine RQ.nil ?_
    exact ⟨_, by first | rfl | (simp_all; done) | (simp_all; omega) | grind, rfl, Le.of rfl⟩
  ·intro v2 hv5
   refine CW.cond rfl (fun h6 => ?_) (fun h6 => ?_)
   ·skip
    refine CW.k XK 38 1 [6] rfl ?_
    (conv=>whnf);refine ⟨rfl,?_⟩
    refine CW.ret ?_
    exact Post.one (RV.b rfl (by rw [← hr, hdi, riseOk_cons]; grind [prevI])) (AOs.r (AOs.r (AOs.r AOs.e)))
   ·skip
    refine CW.skip ?_
    refine CW.keep 38 [0,1,2,7] rfl ?_;(conv=>whnf);refine ⟨?_⟩
    refine CW.region ?_
    refine RW.k XK 38 1 rfl ?_
    (conv=>whnf);refine ⟨rfl,?_⟩
    refine RW.v rfl (V.inc rfl rfl rfl hii hl0) ?_
    refine RW.k XK 38 1 rfl ?_
    (conv=>whnf);refine ⟨rfl,?_⟩
    refine RW.nil ?_
    exact ⟨i + 1, by omega, ⟨by omega, by rw [← hr, hdi, riseOk_cons, prevI_succ hei]; grind [prevI]⟩, rfl, Le.c rfl <| Le.c rfl <| Le.c rfl <| Le.c rfl <| Le.e⟩
 ·skip
  have hii : a.length ≤ i := by have := h1; simp at this; first | exact this | omega | (simp; done) | (simp; omega)
  have hdi : a.drop i = [] := List.drop_eq_nil_of_le hii
  refine CW.exit ?_
  refine CW.keep 38 [] rfl ?_;(conv=>whnf);refine ⟨?_⟩
  refine CW.k XK 38 1 [6] rfl ?_
  (conv=>whnf);refine ⟨rfl,?_⟩
  refine CW.ret ?_
  exact Post.one (RV.b rfl (by rw [← hr, hdi, riseOk_nil])) (AOs.r (AOs.r (AOs.r AOs.e)))
set_option maxHeartbeats 4000000 in
theorem impl_nodesOk_fn (a : List Int) : Eng.Fn E.P 75 [.one (.r (sl 1 cI a))] (.one (.one (.w (.v (.bool (riseOk 1 4 none a)))))) [.one (.r (sl 1 cI a))] := by
 refine Eng.Fn.intro (E := E) (rvs := [.tmp 2]) Try.func75 rfl rfl rfl (by simp [outSlots, moved, rvSlot, sl]) ?_
 intro B g bo
 refine CW.bound (x := .tmp 0) (n := a.length) (AsT.r) (fun hl0 => ?_)
 refine CW.keep 29 [0] rfl ?_;(conv=>whnf);refine ⟨?_⟩
 refine CW.k XK 29 1 [0] rfl ?_
 (conv=>whnf);refine ⟨rfl,?_⟩
 refine CW.seq ?_
 refine CW.k XK 29 1 [0,5,6,7] rfl ?_
 (conv=>whnf);refine ⟨rfl,?_⟩
 refine CW.block ?_
 refine CW.loopI 29 (fun (i : Nat) => [(0, .r (sl 1 cI a)), (5, .r (sl 1 cI a)), (6, I (a.length : Int)), (7, I (i : Int))]) (fun (i : Nat) => i ≤ a.length ∧ riseOk 1 4 (prevI a i) (a.drop i) = riseOk 1 4 none a) (fun (i : Nat) => a.length - i) 0 rfl (Le.c rfl <| Le.c rfl <| Le.c rfl <| Le.c rfl <| Le.e) ⟨by omega, by simp [prevI]⟩ ?_
 rintro i ⟨hb, hr⟩
 refine CW.k XK 29 1 [0,5,6,7,8] rfl ?_
 (conv=>whnf);refine ⟨rfl,?_⟩
 refine CW.seq ?_
 refine CW.cond rfl (fun h1 => ?_) (fun h1 => ?_)
 ·skip
  have hii : i < a.length := by have := h1; simp at this; first | exact this | omega | (simp; done) | (simp; omega)
  obtain ⟨ei, hei⟩ : ∃ e, a[i]? = some e := ⟨_, List.getElem?_eq_getElem hii⟩
  have hdi := drop_get hei
  refine CW.skip ?_
  refine CW.keep 29 [0,5,6,7] rfl ?_;(conv=>whnf);refine ⟨?_⟩
  refine CW.seq ?_
  refine CW.block ?_
  refine CW.seq ?_
  refine CW.region ?_
  refine RW.k XK 29 1 rfl ?_
  (conv=>whnf);refine ⟨rfl,?_⟩
  refine RW.v rfl (V.indexS rfl rfl rfl rfl rfl rfl cI.len hei) ?_
  refine RW.k XK 29 3 rfl ?_
  (conv=>whnf);refine ⟨rfl,?_⟩
  refine RW.nil ?_
  refine CW.keep 29 [0,3,4,5,6,7] rfl ?_;(conv=>whnf);refine ⟨?_⟩
  refine CW.seqJ 29 (fun (v2 : Bool) => [(0, .r (sl 1 cI a)), (5, .r (sl 1 cI a)), (6, I (a.length : Int)), (7, I (i : Int)), (27, Bo v2)]) (fun v2 => v2 = ((!(inR ei 1 4)) || (decide ((i : Int) > 0) && decide ((a.getD (i - 1) 0) ≥ ei)))) ?_ ?_
  ·refine CW.region ?_
   refine RW.k XK 29 1 rfl ?_
   (conv=>whnf);refine ⟨rfl,?_⟩
   refine RW.call rfl (impl_isNode_fn ei) rfl (.cons (.one (.r .r)) (.nil)) fun g3 => ?_
   refine RW.k XK 29 2 rfl ?_
   (conv=>whnf);refine ⟨rfl,?_⟩
   refine RW.gv rfl rfl rfl rfl (fun h4 => V.mv (d := I (i : Int)) rfl rfl) (fun h4 => ?_) (fun h4 => ?_)
   ·skip
    refine RW.k XK 29 2 rfl ?_
    (conv=>whnf);refine ⟨rfl,?_⟩
    refine RW.gv rfl rfl rfl rfl (fun h5 => V.mv (d := .r (sl 1 cI a)) rfl rfl) (fun h5 => ?_) (fun h5 => ?_)
    ·skip
     refine RW.k XK 29 1 rfl ?_
     (conv=>whnf);refine ⟨rfl,?_⟩
     refine RW.gt rfl rfl rfl rfl (V.dec (m := i) rfl rfl rfl (by have := h5; simp at this; omega) (by omega)) ?_
     refine RW.gt rfl rfl rfl rfl (V.indexS rfl rfl rfl rfl rfl rfl cI.len (getD_some (l := a) (j := i - 1) (z := 0) (by omega))) ?_
     refine RW.k XK 29 5 rfl ?_
     (conv=>whnf);refine ⟨rfl,?_⟩
     refine RW.nil ?_
     exact ⟨_, by first | rfl | (simp_all; done) | (simp_all; omega) | grind, rfl, Le.of rfl⟩
    ·skip
     refine RW.k XK 29 8 rfl ?_
     (conv=>whnf);refine ⟨rfl,?_⟩
     refine RW.nil ?_
     exact ⟨_, by first | rfl | (simp_all; done) | (simp_all; omega) | grind, rfl, Le.of rfl⟩
   ·skip
    refine RW.k XK 29 11 rfl ?_
    (conv=>whnf);refine ⟨rfl,?_⟩
    refine RW.nil ?_
    exact ⟨_, by first | rfl | (simp_all; done) | (simp_all; omega) | grind, rfl, Le.of rfl⟩
  ·intro v2 hv6
   refine CW.cond rfl (fun h7 => ?_) (fun h7 => ?_)
   ·skip
    refine CW.k XK 29 1 [2] rfl ?_
    (conv=>whnf);refine ⟨rfl,?_⟩
    refine CW.ret ?_
    exact Post.one (RV.b rfl (by rw [← hr, hdi, riseOk_cons]; grind [prevI])) (AOs.r AOs.e)
   ·skip
    refine CW.skip ?_
    refine CW.keep 29 [0,5,6,7] rfl ?_;(conv=>whnf);refine ⟨?_⟩
    refine CW.region ?_
    refine RW.v rfl (V.inc rfl rfl rfl hii hl0) ?_
    refine RW.k XK 29 1 rfl ?_
    (conv=>whnf);refine ⟨rfl,?_⟩
    refine RW.nil ?_
    exact ⟨i + 1, by omega, ⟨by omega, by rw [← hr, hdi, riseOk_cons, prevI_succ hei]; grind [prevI]⟩, rfl, Le.c rfl <| Le.c rfl <| Le.c rfl <| Le.c rfl <| Le.e⟩
 ·skip
  have hii : a.length ≤ i := by have := h1; simp at this; first | exact this | omega | (simp; done) | (simp; omega)
  have hdi : a.drop i = [] := List.drop_eq_nil_of_le hii
  refine CW.exit ?_
  refine CW.keep 29 [] rfl ?_;(conv=>whnf);refine ⟨?_⟩
  refine CW.k XK 29 1 [2] rfl ?_
  (conv=>whnf);refine ⟨rfl,?_⟩
  refine CW.ret ?_
  exact Post.one (RV.b rfl (by rw [← hr, hdi, riseOk_nil])) (AOs.r AOs.e)
set_option maxHeartbeats 4000000 in
theorem spec_ConfOk_fn (a : List Int) : Eng.Fn E.P 45 [.one (.r (sl 1 cI a))] (.one (.one (.w (.v (.bool (confOk a)))))) [.one (.r (sl 1 cI a))] := by
 refine Eng.Fn.intro (E := E) (rvs := [.tmp 2]) Try.func45 rfl rfl rfl (by simp [outSlots, moved, rvSlot, sl]) ?_
 intro B g bo
 refine CW.bound (x := .tmp 0) (n := a.length) (AsT.r) (fun hl0 => ?_)
 refine CW.keep 10 [0] rfl ?_;(conv=>whnf);refine ⟨?_⟩
 refine CW.k XK 10 1 [0] rfl ?_
 (conv=>whnf);refine ⟨rfl,?_⟩
 refine CW.seqJ 10 (fun (v1 : Bool) => [(2, Bo v1)]) (fun v1 => v1 = ((inR (a.length : Int) 1 4) && (riseOk 1 4 none a))) ?_ ?_
 ·refine CW.region ?_
  refine RW.k XK 10 2 rfl ?_
  (conv=>whnf);refine ⟨rfl,?_⟩
  refine RW.call rfl (spec_l01In_fn (a.length : Int) 1 4) rfl (.cons (.one (.r .r)) (.cons (.one (.r .r)) (.cons (.one (.r .r)) (.nil)))) fun g2 => ?_
  refine RW.k XK 10 1 rfl ?_
  (conv=>whnf);refine ⟨rfl,?_⟩
  refine RW.gv rfl rfl rfl rfl (fun h3 => V.mv (d := .r (sl 1 cI a)) rfl rfl) (fun h3 => ?_) (fun h3 => ?_)
  ·skip
   refine RW.gcall rfl rfl rfl rfl (spec_l05Rise_fn a 1 4) rfl (.cons (.one (.r .r)) (.cons (.one (.r .r)) (.cons (.one (.r .r)) (.nil)))) fun g4 => ?_
   refine RW.k XK 10 2 rfl ?_
   (conv=>whnf);refine ⟨rfl,?_⟩
   refine RW.nil ?_
   exact ⟨_, by first | rfl | (simp_all; done) | (simp_all; omega) | grind, rfl, Le.of rfl⟩
  ·skip
   refine RW.k XK 10 3 rfl ?_
   (conv=>whnf);refine ⟨rfl,?_⟩
   refine RW.nil ?_
   exact ⟨_, by first | rfl | (simp_all; done) | (simp_all; omega) | grind, rfl, Le.of rfl⟩
 ·intro v1 hv5
  refine CW.ret ?_
  exact Post.one (RV.b rfl (by simp_all [confOk])) (AOs.r AOs.e)
set_option maxHeartbeats 4000000 in
theorem impl_ConfOk_fn (a : List Int) : Eng.Fn E.P 50 [.one (.r (sl 1 cI a))] (.one (.one (.w (.v (.bool (confOk a)))))) [.one (.r (sl 1 cI a))] := by
 refine Eng.Fn.intro (E := E) (rvs := [.tmp 2]) Try.func50 rfl rfl rfl (by simp [outSlots, moved, rvSlot, sl]) ?_
 intro B g bo
 refine CW.bound (x := .tmp 0) (n := a.length) (AsT.r) (fun hl0 => ?_)
 refine CW.keep 10 [0] rfl ?_;(conv=>whnf);refine ⟨?_⟩
 refine CW.k XK 10 1 [0] rfl ?_
 (conv=>whnf);refine ⟨rfl,?_⟩
 refine CW.seqJ 10 (fun (v1 : Bool) => [(2, Bo v1)]) (fun v1 => v1 = (decide ((a.length : Int) > 0) && (riseOk 1 4 none a))) ?_ ?_
 ·refine CW.region ?_
  refine RW.k XK 10 4 rfl ?_
  (conv=>whnf);refine ⟨rfl,?_⟩
  refine RW.gv rfl rfl rfl rfl (fun h2 => V.mv (d := .r (sl 1 cI a)) rfl rfl) (fun h2 => ?_) (fun h2 => ?_)
  ·skip
   refine RW.gcall rfl rfl rfl rfl (impl_nodesOk_fn a) rfl (.cons (.one (.r .r)) (.nil)) fun g3 => ?_
   refine RW.k XK 10 2 rfl ?_
   (conv=>whnf);refine ⟨rfl,?_⟩
   refine RW.nil ?_
   exact ⟨_, by first | rfl | (simp_all; done) | (simp_all; omega) | grind, rfl, Le.of rfl⟩
  ·skip
   refine RW.k XK 10 3 rfl ?_
   (conv=>whnf);refine ⟨rfl,?_⟩
   refine RW.nil ?_
   exact ⟨_, by first | rfl | (simp_all; done) | (simp_all; omega) | grind, rfl, Le.of rfl⟩
 ·intro v1 hv4
  refine CW.ret ?_
  exact Post.one (RV.b rfl (by (subst_vars; exact confOk_impl a))) (AOs.r AOs.e)
set_option maxHeartbeats 4000000 in
theorem impl_ReadConf_fn (s : ByteArray) (hm : s.size ≤ 1048576) : Eng.Fn E.P 74 [.one (.r (.v (.string s)))] (.tup [.one (.w (sl 1 cI ((readConf s).1))), .one (.w (.v (.bool ((readConf s).2))))]) [.one (.r (.v (.string s)))] := by
 refine Eng.Fn.intro (E := E) (rvs := [.tmp 2, .tmp 3]) Try.func74 rfl rfl rfl (by simp [outSlots, moved, rvSlot, sl]) ?_
 intro B g bo
 refine CW.keep 24 [0] rfl ?_;(conv=>whnf);refine ⟨?_⟩
 refine CW.k XK 24 1 [0] rfl ?_
 (conv=>whnf);refine ⟨rfl,?_⟩
 refine CW.seq ?_
 refine CW.region ?_
 refine RW.build0 cI rfl rfl rfl rfl rfl fun X1 => ?_
 refine RW.assignMove rfl rfl rfl (by decide) (Nat.le_of_ble_eq_true rfl) (Nat.le_of_ble_eq_true rfl) ?_
 refine RW.nil ?_
 refine CW.keep 24 [0,4] rfl ?_;(conv=>whnf);refine ⟨?_⟩
 refine CW.seq ?_
 refine CW.k XK 24 1 [0,4,5] rfl ?_
 (conv=>whnf);refine ⟨rfl,?_⟩
 refine CW.block ?_
 refine CW.loopI 24 (fun (zz : Nat × Value) => match zz with | (i, X) => [(0, S s), (4, .w (sl 1 cI (bys s i)) X), (5, I (i : Int))]) (fun (zz : Nat × Value) => match zz with | (i, X) => i ≤ s.size) (fun (zz : Nat × Value) => match zz with | (i, X) => s.size - i) (0, _) rfl (Le.c rfl <| Le.c rfl <| Le.c rfl <| Le.e) (by omega) ?_
 rintro ⟨i, X⟩ hb
 refine CW.seq ?_
 refine CW.k XK 24 1 [0,4,5,10] rfl ?_
 (conv=>whnf);refine ⟨rfl,?_⟩
 refine CW.cond rfl (fun h2 => ?_) (fun h2 => ?_)
 ·skip
  have hlt : i < s.size := by simpa using h2
  refine CW.skip ?_
  refine CW.keep 24 [0,4,5] rfl ?_;(conv=>whnf);refine ⟨?_⟩
  refine CW.seq ?_
  refine CW.block ?_
  refine CW.region ?_
  refine RW.k XK 24 3 rfl ?_
  (conv=>whnf);refine ⟨rfl,?_⟩
  refine RW.v rfl (V.idxStr (m := i) rfl (by kernel_rfl) rfl rfl hlt) ?_
  refine RW.k XK 24 1 rfl ?_
  (conv=>whnf);refine ⟨rfl,?_⟩
  refine RW.build1c (c := cI) (v := (IntKind.i64.wrap (bat s i))) (u := .v (.int .i64 (IntKind.i64.wrap (bat s i)))) rfl rfl rfl rfl rfl rfl (.inl rfl) rfl rfl fun X3 => ?_
  refine RW.appendSR (c := cI) (l1 := (bys s i)) (l2 := [(IntKind.i64.wrap (bat s i))]) rfl rfl rfl rfl rfl rfl rfl rfl (.al (k := none) (i := 18) (sz := 1) (V := X3) rfl rfl nofun) (by decide) (Nat.le_of_ble_eq_true rfl) cI.len (fun _ => rfl) rfl (by simp only [maxLen, bys_len, List.length_singleton]; omega) (by simp only [maxLen, bys_len, List.length_singleton]; omega) fun X4 => ?_
  refine RW.assignMove rfl rfl rfl (by decide) (Nat.le_of_ble_eq_true rfl) (Nat.le_of_ble_eq_true rfl) ?_
  refine RW.nil ?_
  refine CW.keep 24 [0,4,5] rfl ?_;(conv=>whnf);refine ⟨?_⟩
  refine CW.region ?_
  refine RW.k XK 24 1 rfl ?_
  (conv=>whnf);refine ⟨rfl,?_⟩
  refine RW.v rfl (V.inc rfl rfl rfl hlt (by simp only [maxLen]; omega)) ?_
  refine RW.k XK 24 1 rfl ?_
  (conv=>whnf);refine ⟨rfl,?_⟩
  refine RW.nil ?_
  exact ⟨(i + 1, _), by simp only []; omega, (by omega), rfl, Le.c rfl <| Le.c (Dw_congr (bys_succ s i).symm) <| Le.c rfl <| Le.e⟩
 ·skip
  have hi : i = s.size := by simp at h2; omega
  refine CW.exit ?_
  refine CW.keep 24 [4] rfl ?_;(conv=>whnf);refine ⟨?_⟩
  refine CW.seq ?_
  refine CW.seq ?_
  refine CW.region ?_
  refine RW.k XK 24 1 rfl ?_
  (conv=>whnf);refine ⟨rfl,?_⟩
  refine RW.callOwn rfl (impl_ConfOk_fn (bys s i)) rfl (.cons (.one (.r (.al (k := none) (i := 4) (sz := 1) (V := X) rfl rfl nofun))) (.nil)) rfl fun g5 => ?_
  refine RW.k XK 24 1 rfl ?_
  (conv=>whnf);refine ⟨rfl,?_⟩
  refine RW.nil ?_
  refine CW.keep 24 [4,22] rfl ?_;(conv=>whnf);refine ⟨?_⟩
  refine CW.cond rfl (fun h6 => ?_) (fun h6 => ?_)
  ·skip
   refine CW.k XK 24 1 [2,3] rfl ?_
   (conv=>whnf);refine ⟨rfl,?_⟩
   refine CW.ret ?_
   exact Post.tup (by decide) (RVs.c (RV.n rfl (by rw [rc_no (i := i) (.inl hi) (by simp_all)])) (RVs.c (RV.b rfl (by rw [rc_no (i := i) (.inl hi) (by simp_all)])) RVs.e)) (AOs.r AOs.e)
  ·skip
   refine CW.skip ?_
   refine CW.keep 24 [4] rfl ?_;(conv=>whnf);refine ⟨?_⟩
   refine CW.seq ?_
   refine CW.region ?_
   refine RW.k XK 24 2 rfl ?_
   (conv=>whnf);refine ⟨rfl,?_⟩
   refine RW.pullS 2 4 (by decide) rfl rfl ?_
   refine RW.k XK 24 1 rfl ?_
   (conv=>whnf);refine ⟨rfl,?_⟩
   refine RW.nil ?_
   refine CW.keep 24 [2,3] rfl ?_;(conv=>whnf);refine ⟨?_⟩
   refine CW.ret ?_
   exact Post.tup (by decide) (RVs.c (RV.w rfl (by rw [rc_yes (i := i) (by simp_all [bys_len])])) (RVs.c (RV.b rfl (by rw [rc_yes (i := i) (by simp_all [bys_len])])) RVs.e)) (AOs.r AOs.e)
set_option maxHeartbeats 4000000 in
theorem spec_ReadConf_fn (s : ByteArray) (hm : s.size ≤ 1048576) : Eng.Fn E.P 21 [.one (.r (.v (.string s)))] (.tup [.one (.w (sl 1 cI ((readConf s).1))), .one (.w (.v (.bool ((readConf s).2))))]) [.one (.r (.v (.string s)))] := by
 refine Eng.Fn.intro (E := E) (rvs := [.tmp 2, .tmp 3]) Try.func21 rfl rfl rfl (by simp [outSlots, moved, rvSlot, sl]) ?_
 intro B g bo
 refine CW.keep 36 [0] rfl ?_;(conv=>whnf);refine ⟨?_⟩
 refine CW.k XK 36 1 [0] rfl ?_
 (conv=>whnf);refine ⟨rfl,?_⟩
 refine CW.seq ?_
 refine CW.region ?_
 refine RW.build0 cI rfl rfl rfl rfl rfl fun X1 => ?_
 refine RW.assignMove rfl rfl rfl (by decide) (Nat.le_of_ble_eq_true rfl) (Nat.le_of_ble_eq_true rfl) ?_
 refine RW.nil ?_
 refine CW.keep 36 [0,4] rfl ?_;(conv=>whnf);refine ⟨?_⟩
 refine CW.seq ?_
 refine CW.k XK 36 1 [0,4,5] rfl ?_
 (conv=>whnf);refine ⟨rfl,?_⟩
 refine CW.block ?_
 refine CW.loopI 36 (fun (zz : Nat × Value) => match zz with | (i, X) => [(0, S s), (4, .w (sl 1 cI (bys s i)) X), (5, I (i : Int))]) (fun (zz : Nat × Value) => match zz with | (i, X) => i ≤ s.size ∧ i ≤ 5) (fun (zz : Nat × Value) => match zz with | (i, X) => s.size - i) (0, _) rfl (Le.c rfl <| Le.c rfl <| Le.c rfl <| Le.e) ⟨by omega, by omega⟩ ?_
 rintro ⟨i, X⟩ ⟨hb, hq⟩
 refine CW.seq ?_
 refine CW.seqJ 36 (fun (v2 : Bool) => [(0, S s), (4, .w (sl 1 cI (bys s i)) X), (5, I (i : Int)), (14, Bo v2)]) (fun v2 => v2 = (decide ((i : Int) < (s.size : Int)) && decide ((i : Int) ≤ 4))) ?_ ?_
 ·refine CW.region ?_
  refine RW.k XK 36 5 rfl ?_
  (conv=>whnf);refine ⟨rfl,?_⟩
  refine RW.gv rfl rfl rfl rfl (fun h3 => V.mv (d := I (i : Int)) rfl rfl) (fun h3 => ?_) (fun h3 => ?_)
  ·skip
   refine RW.k XK 36 2 rfl ?_
   (conv=>whnf);refine ⟨rfl,?_⟩
   refine RW.nil ?_
   exact ⟨_, by first | rfl | (simp_all; done) | (simp_all; omega) | grind, rfl, Le.of rfl⟩
  ·skip
   refine RW.k XK 36 2 rfl ?_
   (conv=>whnf);refine ⟨rfl,?_⟩
   refine RW.nil ?_
   exact ⟨_, by first | rfl | (simp_all; done) | (simp_all; omega) | grind, rfl, Le.of rfl⟩
 ·intro v2 hv4
  refine CW.cond rfl (fun h5 => ?_) (fun h5 => ?_)
  ·skip
   have hlt : i < s.size := by rw [hv4] at h5; simp at h5; omega
   have hl4 : i ≤ 4 := by rw [hv4] at h5; simp at h5; omega
   refine CW.skip ?_
   refine CW.keep 36 [0,4,5] rfl ?_;(conv=>whnf);refine ⟨?_⟩
   refine CW.seq ?_
   refine CW.block ?_
   refine CW.region ?_
   refine RW.k XK 36 3 rfl ?_
   (conv=>whnf);refine ⟨rfl,?_⟩
   refine RW.v rfl (V.idxStr (m := i) rfl (by kernel_rfl) rfl rfl hlt) ?_
   refine RW.k XK 36 1 rfl ?_
   (conv=>whnf);refine ⟨rfl,?_⟩
   refine RW.build1c (c := cI) (v := (IntKind.i64.wrap (bat s i))) (u := .v (.int .i64 (IntKind.i64.wrap (bat s i)))) rfl rfl rfl rfl rfl rfl (.inl rfl) rfl rfl fun X6 => ?_
   refine RW.appendSR (c := cI) (l1 := (bys s i)) (l2 := [(IntKind.i64.wrap (bat s i))]) rfl rfl rfl rfl rfl rfl rfl rfl (.al (k := none) (i := 22) (sz := 1) (V := X6) rfl rfl nofun) (by decide) (Nat.le_of_ble_eq_true rfl) cI.len (fun _ => rfl) rfl (by simp only [maxLen, bys_len, List.length_singleton]; omega) (by simp only [maxLen, bys_len, List.length_singleton]; omega) fun X7 => ?_
   refine RW.assignMove rfl rfl rfl (by decide) (Nat.le_of_ble_eq_true rfl) (Nat.le_of_ble_eq_true rfl) ?_
   refine RW.nil ?_
   refine CW.keep 36 [0,4,5] rfl ?_;(conv=>whnf);refine ⟨?_⟩
   refine CW.region ?_
   refine RW.k XK 36 1 rfl ?_
   (conv=>whnf);refine ⟨rfl,?_⟩
   refine RW.v rfl (V.inc rfl rfl rfl hlt (by simp only [maxLen]; omega)) ?_
   refine RW.k XK 36 1 rfl ?_
   (conv=>whnf);refine ⟨rfl,?_⟩
   refine RW.nil ?_
   exact ⟨(i + 1, _), by simp only []; omega, ⟨by omega, by omega⟩, rfl, Le.c rfl <| Le.c (Dw_congr (bys_succ s i).symm) <| Le.c rfl <| Le.e⟩
  ·skip
   refine CW.exit ?_
   refine CW.keep 36 [0,4] rfl ?_;(conv=>whnf);refine ⟨?_⟩
   refine CW.seq ?_
   refine CW.seqJ 36 (fun (v8 : Bool) => [(4, .w (sl 1 cI (bys s i)) X), (33, Bo v8)]) (fun v8 => v8 = ((((bys s i).length : Int) != (s.size : Int)) || (!(confOk (bys s i))))) ?_ ?_
   ·refine CW.region ?_
    refine RW.k XK 36 6 rfl ?_
    (conv=>whnf);refine ⟨rfl,?_⟩
    refine RW.gv rfl rfl rfl rfl (fun h9 => V.mv (d := .al 4 none 1 ((bys s i).length) X 0) rfl rfl) (fun h9 => ?_) (fun h9 => ?_)
    ·skip
     refine RW.gcallOwn rfl rfl rfl rfl (spec_ConfOk_fn (bys s i)) rfl (.cons (.one (.r (.al (k := none) (i := 4) (sz := 1) (V := X) rfl rfl nofun))) (.nil)) rfl fun g10 => ?_
     refine RW.k XK 36 2 rfl ?_
     (conv=>whnf);refine ⟨rfl,?_⟩
     refine RW.nil ?_
     exact ⟨_, by first | rfl | (simp_all; done) | (simp_all; omega) | grind, rfl, Le.of rfl⟩
    ·skip
     refine RW.k XK 36 3 rfl ?_
     (conv=>whnf);refine ⟨rfl,?_⟩
     refine RW.nil ?_
     exact ⟨_, by first | rfl | (simp_all; done) | (simp_all; omega) | grind, rfl, Le.of rfl⟩
   ·intro v8 hv11
    refine CW.cond rfl (fun h12 => ?_) (fun h12 => ?_)
    ·skip
     refine CW.seq ?_
     refine CW.region ?_
     refine RW.build0 cI rfl rfl rfl rfl rfl fun X13 => ?_
     refine RW.assignMove rfl rfl rfl (by decide) (Nat.le_of_ble_eq_true rfl) (Nat.le_of_ble_eq_true rfl) ?_
     refine RW.k XK 36 1 rfl ?_
     (conv=>whnf);refine ⟨rfl,?_⟩
     refine RW.nil ?_
     refine CW.keep 36 [2,3] rfl ?_;(conv=>whnf);refine ⟨?_⟩
     refine CW.ret ?_
     exact Post.tup (by decide) (RVs.c (RV.w rfl (by rw [rc_no (rc_exit hq hb hv4 h5) (by simp_all)])) (RVs.c (RV.b rfl (by rw [rc_no (rc_exit hq hb hv4 h5) (by simp_all)])) RVs.e)) (AOs.r AOs.e)
    ·skip
     refine CW.skip ?_
     refine CW.keep 36 [4] rfl ?_;(conv=>whnf);refine ⟨?_⟩
     refine CW.seq ?_
     refine CW.region ?_
     refine RW.k XK 36 2 rfl ?_
     (conv=>whnf);refine ⟨rfl,?_⟩
     refine RW.pullS 2 4 (by decide) rfl rfl ?_
     refine RW.k XK 36 1 rfl ?_
     (conv=>whnf);refine ⟨rfl,?_⟩
     refine RW.nil ?_
     refine CW.keep 36 [2,3] rfl ?_;(conv=>whnf);refine ⟨?_⟩
     refine CW.ret ?_
     exact Post.tup (by decide) (RVs.c (RV.w rfl (by rw [rc_yes (i := i) (by simp_all)])) (RVs.c (RV.b rfl (by rw [rc_yes (i := i) (by simp_all)])) RVs.e)) (AOs.r AOs.e)
set_option maxHeartbeats 4000000 in
theorem spec_EntryOk_fn (e : Entry) (hok : okToEntry e) : Eng.Fn E.P 44 [.agg ((Entry.c e).map .r)] (.one (.one (.w (.v (.bool (entOk e)))))) [.agg ((Entry.c e).map .r)] := by
 refine Eng.Fn.intro (E := E) (rvs := [.tmp 2]) Try.func44 rfl rfl rfl (by simp [outSlots, moved, rvSlot, sl]) ?_
 intro B g bo
 refine CW.keep 31 [0] rfl ?_;(conv=>whnf);refine ⟨?_⟩
 refine CW.seq ?_
 refine CW.region ?_
 refine RW.k XK 31 1 rfl ?_
 (conv=>whnf);intro b1;(conv=>whnf);refine ⟨rfl,?_⟩
 refine RW.freezeB (ts := (Entry.c e)) 1 rfl (DRd.r (DRd.r (DRd.r DRd.e))) ?_
 refine RW.k XK 31 1 rfl ?_
 (conv=>whnf);refine ⟨rfl,?_⟩
 refine RW.nil ?_
 refine CW.keep 31 [1] rfl ?_;(conv=>whnf);refine ⟨?_⟩
 refine CW.seq ?_
 refine CW.seq ?_
 refine CW.region ?_
 refine RW.k XK 31 2 rfl ?_
 (conv=>whnf);refine ⟨rfl,?_⟩
 refine RW.call rfl (spec_l01In_fn e.term_ 0 100000) rfl (.cons (.one (.r .r)) (.cons (.one (.r .r)) (.cons (.one (.r .r)) (.nil)))) fun g2 => ?_
 refine RW.k XK 31 1 rfl ?_
 (conv=>whnf);refine ⟨rfl,?_⟩
 refine RW.nil ?_
 refine CW.keep 31 [1,8] rfl ?_;(conv=>whnf);refine ⟨?_⟩
 refine CW.cond rfl (fun h3 => ?_) (fun h3 => ?_)
 ·skip
  refine CW.k XK 31 1 [2] rfl ?_
  (conv=>whnf);refine ⟨rfl,?_⟩
  refine CW.ret ?_
  exact Post.one (RV.b rfl (by first | (simp_all [entOk]; done) | grind [entOk])) (AOs.a rfl AOs.e)
 ·skip
  refine CW.skip ?_
  refine CW.keep 31 [1] rfl ?_;(conv=>whnf);refine ⟨?_⟩
  refine CW.seq ?_
  refine CW.k XK 31 1 [1,10] rfl ?_
  (conv=>whnf);refine ⟨rfl,?_⟩
  refine CW.block ?_
  refine CW.k XK 31 1 [1,10,11] rfl ?_
  (conv=>whnf);refine ⟨rfl,?_⟩
  refine CW.cond rfl (fun h4 => ?_) (fun h4 => ?_)
  ·skip
   refine CW.k XK 31 1 [2] rfl ?_
   (conv=>whnf);refine ⟨rfl,?_⟩
   refine CW.ret ?_
   exact Post.one (RV.b rfl (by first | (simp_all [entOk]; done) | grind [entOk])) (AOs.a rfl AOs.e)
  ·skip
   refine CW.k XK 31 1 [1,10,16] rfl ?_
   (conv=>whnf);refine ⟨rfl,?_⟩
   refine CW.cond rfl (fun h5 => ?_) (fun h5 => ?_)
   ·skip
    refine CW.seq ?_
    refine CW.region ?_
    refine RW.k XK 31 2 rfl ?_
    (conv=>whnf);refine ⟨rfl,?_⟩
    refine RW.call rfl (spec_ReadConf_fn e.data hok) rfl (.cons (.one (.r .r)) (.nil)) fun g6 => ?_
    refine RW.k XK 31 3 rfl ?_
    (conv=>whnf);refine ⟨rfl,?_⟩
    refine RW.assignMove rfl rfl rfl (by decide) (Nat.le_of_ble_eq_true rfl) (Nat.le_of_ble_eq_true rfl) ?_
    refine RW.k XK 31 1 rfl ?_
    (conv=>whnf);refine ⟨rfl,?_⟩
    refine RW.nil ?_
    refine CW.keep 31 [4] rfl ?_;(conv=>whnf);refine ⟨?_⟩
    refine CW.k XK 31 1 [2] rfl ?_
    (conv=>whnf);refine ⟨rfl,?_⟩
    refine CW.ret ?_
    exact Post.one (RV.b rfl (by first | (simp_all [entOk]; done) | grind [entOk])) (AOs.a rfl AOs.e)
   ·skip
    refine CW.k XK 31 1 [1,25] rfl ?_
    (conv=>whnf);refine ⟨rfl,?_⟩
    refine CW.cond rfl (fun h7 => ?_) (fun h7 => ?_)
    ·skip
     refine CW.k XK 31 1 [2] rfl ?_
     (conv=>whnf);refine ⟨rfl,?_⟩
     refine CW.ret ?_
     exact Post.one (RV.b rfl (by first | (simp_all [entOk]; done) | grind [entOk])) (AOs.a rfl AOs.e)
    ·skip
     refine CW.skip ?_
     refine CW.keep 31 [] rfl ?_;(conv=>whnf);refine ⟨?_⟩
     refine CW.k XK 31 1 [2] rfl ?_
     (conv=>whnf);refine ⟨rfl,?_⟩
     refine CW.ret ?_
     exact Post.one (RV.b rfl (by first | (simp_all [entOk]; done) | grind [entOk])) (AOs.a rfl AOs.e)
set_option maxHeartbeats 4000000 in
theorem impl_EntryOk_fn (e : Entry) (hok : okToEntry e) : Eng.Fn E.P 49 [.agg ((Entry.c e).map .r)] (.one (.one (.w (.v (.bool (entOk e)))))) [.agg ((Entry.c e).map .r)] := by
 refine Eng.Fn.intro (E := E) (rvs := [.tmp 2]) Try.func49 rfl rfl rfl (by simp [outSlots, moved, rvSlot, sl]) ?_
 intro B g bo
 refine CW.keep 45 [0] rfl ?_;(conv=>whnf);refine ⟨?_⟩
 refine CW.seq ?_
 refine CW.region ?_
 refine RW.k XK 45 1 rfl ?_
 (conv=>whnf);intro b1;(conv=>whnf);refine ⟨rfl,?_⟩
 refine RW.freezeB (ts := (Entry.c e)) 1 rfl (DRd.r (DRd.r (DRd.r DRd.e))) ?_
 refine RW.k XK 45 1 rfl ?_
 (conv=>whnf);refine ⟨rfl,?_⟩
 refine RW.nil ?_
 refine CW.keep 45 [1] rfl ?_;(conv=>whnf);refine ⟨?_⟩
 refine CW.seq ?_
 refine CW.k XK 45 1 [1,6] rfl ?_
 (conv=>whnf);refine ⟨rfl,?_⟩
 refine CW.block ?_
 refine CW.k XK 45 1 [1,6,7] rfl ?_
 (conv=>whnf);refine ⟨rfl,?_⟩
 refine CW.cond rfl (fun h2 => ?_) (fun h2 => ?_)
 ·skip
  refine CW.seqJ 45 (fun (v3 : Bool) => [(2, Bo v3)]) (fun v3 => v3 = ((inR e.term_ 0 100000) && (e.data.toList == (⟨#[]⟩ : ByteArray).toList))) ?_ ?_
  ·refine CW.region ?_
   refine RW.k XK 45 2 rfl ?_
   (conv=>whnf);refine ⟨rfl,?_⟩
   refine RW.call rfl (impl_isTerm_fn e.term_) rfl (.cons (.one (.r .r)) (.nil)) fun g4 => ?_
   refine RW.k XK 45 1 rfl ?_
   (conv=>whnf);refine ⟨rfl,?_⟩
   refine RW.gv rfl rfl rfl rfl (fun h5 => V.fieldR rfl rfl rfl rfl (by decide) rfl (Nat.le_of_ble_eq_true rfl)) (fun h5 => ?_) (fun h5 => ?_)
   ·skip
    refine RW.k XK 45 4 rfl ?_
    (conv=>whnf);refine ⟨rfl,?_⟩
    refine RW.nil ?_
    exact ⟨_, by first | rfl | (simp_all; done) | (simp_all; omega) | grind, rfl, Le.of rfl⟩
   ·skip
    refine RW.k XK 45 4 rfl ?_
    (conv=>whnf);refine ⟨rfl,?_⟩
    refine RW.nil ?_
    exact ⟨_, by first | rfl | (simp_all; done) | (simp_all; omega) | grind, rfl, Le.of rfl⟩
  ·intro v3 hv6
   refine CW.ret ?_
   exact Post.one (RV.b rfl (by first | (simp_all [entOk]; done) | grind [entOk])) (AOs.a rfl AOs.e)
 ·skip
  refine CW.k XK 45 1 [1,17] rfl ?_
  (conv=>whnf);refine ⟨rfl,?_⟩
  refine CW.cond rfl (fun h7 => ?_) (fun h7 => ?_)
  ·skip
   refine CW.seq ?_
   refine CW.region ?_
   refine RW.k XK 45 2 rfl ?_
   (conv=>whnf);refine ⟨rfl,?_⟩
   refine RW.call rfl (impl_ReadConf_fn e.data hok) rfl (.cons (.one (.r .r)) (.nil)) fun g8 => ?_
   refine RW.k XK 45 3 rfl ?_
   (conv=>whnf);refine ⟨rfl,?_⟩
   refine RW.assignMove rfl rfl rfl (by decide) (Nat.le_of_ble_eq_true rfl) (Nat.le_of_ble_eq_true rfl) ?_
   refine RW.k XK 45 1 rfl ?_
   (conv=>whnf);refine ⟨rfl,?_⟩
   refine RW.nil ?_
   refine CW.keep 45 [1,4] rfl ?_;(conv=>whnf);refine ⟨?_⟩
   refine CW.seqJ 45 (fun (v9 : Bool) => [(2, Bo v9)]) (fun v9 => v9 = ((inR e.term_ 0 100000) && ((readConf e.data).2))) ?_ ?_
   ·refine CW.region ?_
    refine RW.k XK 45 2 rfl ?_
    (conv=>whnf);refine ⟨rfl,?_⟩
    refine RW.call rfl (impl_isTerm_fn e.term_) rfl (.cons (.one (.r .r)) (.nil)) fun g10 => ?_
    refine RW.k XK 45 1 rfl ?_
    (conv=>whnf);refine ⟨rfl,?_⟩
    refine RW.gv rfl rfl rfl rfl (fun h11 => V.mv (d := Bo ((readConf e.data).2)) rfl rfl) (fun h11 => ?_) (fun h11 => ?_)
    ·skip
     refine RW.k XK 45 2 rfl ?_
     (conv=>whnf);refine ⟨rfl,?_⟩
     refine RW.nil ?_
     exact ⟨_, by first | rfl | (simp_all; done) | (simp_all; omega) | grind, rfl, Le.of rfl⟩
    ·skip
     refine RW.k XK 45 2 rfl ?_
     (conv=>whnf);refine ⟨rfl,?_⟩
     refine RW.nil ?_
     exact ⟨_, by first | rfl | (simp_all; done) | (simp_all; omega) | grind, rfl, Le.of rfl⟩
   ·intro v9 hv12
    refine CW.ret ?_
    exact Post.one (RV.b rfl (by first | (simp_all [entOk]; done) | grind [entOk])) (AOs.a rfl AOs.e)
  ·skip
   refine CW.skip ?_
   refine CW.keep 45 [1] rfl ?_;(conv=>whnf);refine ⟨?_⟩
   refine CW.seqJ 45 (fun (v13 : Bool) => [(2, Bo v13)]) (fun v13 => v13 = (((e.kind == 3) && (inR e.term_ 0 100000)) && decide ((e.data.size : Int) ≤ 120))) ?_ ?_
   ·refine CW.region ?_
    refine RW.k XK 45 4 rfl ?_
    (conv=>whnf);refine ⟨rfl,?_⟩
    refine RW.gv rfl rfl rfl rfl (fun h14 => V.fieldR rfl rfl rfl rfl (by decide) rfl (Nat.le_of_ble_eq_true rfl)) (fun h14 => ?_) (fun h14 => ?_)
    ·skip
     refine RW.k XK 45 1 rfl ?_
     (conv=>whnf);refine ⟨rfl,?_⟩
     refine RW.gcall rfl rfl rfl rfl (impl_isTerm_fn e.term_) rfl (.cons (.one (.r .r)) (.nil)) fun g15 => ?_
     refine RW.k XK 45 2 rfl ?_
     (conv=>whnf);refine ⟨rfl,?_⟩
     refine RW.gv rfl rfl rfl rfl (fun h16 => V.fieldR rfl rfl rfl rfl (by decide) rfl (Nat.le_of_ble_eq_true rfl)) (fun h16 => ?_) (fun h16 => ?_)
     ·skip
      refine RW.k XK 45 5 rfl ?_
      (conv=>whnf);refine ⟨rfl,?_⟩
      refine RW.nil ?_
      exact ⟨_, by first | rfl | (simp_all; done) | (simp_all; omega) | grind, rfl, Le.of rfl⟩
     ·skip
      refine RW.k XK 45 5 rfl ?_
      (conv=>whnf);refine ⟨rfl,?_⟩
      refine RW.nil ?_
      exact ⟨_, by first | rfl | (simp_all; done) | (simp_all; omega) | grind, rfl, Le.of rfl⟩
    ·skip
     refine RW.k XK 45 10 rfl ?_
     (conv=>whnf);refine ⟨rfl,?_⟩
     refine RW.nil ?_
     exact ⟨_, by first | rfl | (simp_all; done) | (simp_all; omega) | grind, rfl, Le.of rfl⟩
   ·intro v13 hv17
    refine CW.ret ?_
    exact Post.one (RV.b rfl (by first | (simp_all [entOk]; done) | grind [entOk])) (AOs.a rfl AOs.e)
set_option maxHeartbeats 4000000 in
theorem spec_ConfText_fn (a : List Int) (hm : a.length ≤ 1048576) : Eng.Fn E.P 59 [.one (.r (sl 1 cI a))] (.tup [.one (.w (.v (.string ((confText a).1)))), .one (.w (.v (.bool ((confText a).2))))]) [.one (.r (sl 1 cI a))] := by
 refine Eng.Fn.intro (E := E) (rvs := [.tmp 2, .tmp 3]) Try.func59 rfl rfl rfl (by simp [outSlots, moved, rvSlot, sl]) ?_
 intro B g bo
 refine CW.bound (x := .tmp 0) (n := a.length) (AsT.r) (fun hl0 => ?_)
 refine CW.keep 26 [0] rfl ?_;(conv=>whnf);refine ⟨?_⟩
 refine CW.k XK 26 1 [0] rfl ?_
 (conv=>whnf);refine ⟨rfl,?_⟩
 refine CW.seq ?_
 refine CW.seq ?_
 refine CW.region ?_
 refine RW.k XK 26 1 rfl ?_
 (conv=>whnf);refine ⟨rfl,?_⟩
 refine RW.call rfl (spec_ConfOk_fn a) rfl (.cons (.one (.r .r)) (.nil)) fun g1 => ?_
 refine RW.k XK 26 1 rfl ?_
 (conv=>whnf);refine ⟨rfl,?_⟩
 refine RW.nil ?_
 refine CW.keep 26 [0,8] rfl ?_;(conv=>whnf);refine ⟨?_⟩
 refine CW.cond rfl (fun h2 => ?_) (fun h2 => ?_)
 ·skip
  refine CW.k XK 26 1 [2,3] rfl ?_
  (conv=>whnf);refine ⟨rfl,?_⟩
  refine CW.ret ?_
  exact Post.tup (by decide) (RVs.c (RV.s rfl (by rw [confText, if_neg (by simp_all)])) (RVs.c (RV.b rfl (by rw [confText, if_neg (by simp_all)])) RVs.e)) (AOs.r AOs.e)
 ·skip
  refine CW.skip ?_
  refine CW.keep 26 [0] rfl ?_;(conv=>whnf);refine ⟨?_⟩
  refine CW.seq ?_
  refine CW.region ?_
  refine RW.build0 cU rfl rfl rfl rfl rfl fun X3 => ?_
  refine RW.assignMove rfl rfl rfl (by decide) (Nat.le_of_ble_eq_true rfl) (Nat.le_of_ble_eq_true rfl) ?_
  refine RW.nil ?_
  refine CW.keep 26 [0,4] rfl ?_;(conv=>whnf);refine ⟨?_⟩
  refine CW.seq ?_
  refine CW.k XK 26 1 [0,4,5] rfl ?_
  (conv=>whnf);refine ⟨rfl,?_⟩
  refine CW.block ?_
  refine CW.loopI 26 (fun (zz : Nat × Value) => match zz with | (i, X) => [(0, .r (sl 1 cI a)), (4, .w (sl 1 cU ((a.take i).map fun x => IntKind.u8.wrap x)) X), (5, I (i : Int))]) (fun (zz : Nat × Value) => match zz with | (i, X) => i ≤ a.length) (fun (zz : Nat × Value) => match zz with | (i, X) => a.length - i) (0, _) rfl (Le.c rfl <| Le.c rfl <| Le.c rfl <| Le.e) (by omega) ?_
  rintro ⟨i, X⟩ hb
  refine CW.seq ?_
  refine CW.k XK 26 1 [0,4,5,13] rfl ?_
  (conv=>whnf);refine ⟨rfl,?_⟩
  refine CW.cond rfl (fun h4 => ?_) (fun h4 => ?_)
  ·skip
   have hii : i < a.length := by have := h4; simp at this; first | exact this | omega | (simp; done) | (simp; omega)
   obtain ⟨ei, hei⟩ : ∃ e, a[i]? = some e := ⟨_, List.getElem?_eq_getElem hii⟩
   have hdi := drop_get hei
   refine CW.skip ?_
   refine CW.keep 26 [0,4,5] rfl ?_;(conv=>whnf);refine ⟨?_⟩
   refine CW.seq ?_
   refine CW.block ?_
   refine CW.region ?_
   refine RW.k XK 26 3 rfl ?_
   (conv=>whnf);refine ⟨rfl,?_⟩
   refine RW.v rfl (V.indexS rfl rfl rfl rfl rfl rfl cI.len hei) ?_
   refine RW.k XK 26 2 rfl ?_
   (conv=>whnf);refine ⟨rfl,?_⟩
   refine RW.build1c (c := cU) (v := (IntKind.u8.wrap ei)) (u := .v (.int .u8 (IntKind.u8.wrap ei))) rfl rfl rfl rfl rfl rfl (.inl rfl) rfl rfl fun X5 => ?_
   refine RW.appendSR (c := cU) (l1 := ((a.take i).map fun x => IntKind.u8.wrap x)) (l2 := [(IntKind.u8.wrap ei)]) rfl rfl rfl rfl rfl rfl rfl rfl (.al (k := none) (i := 22) (sz := 1) (V := X5) rfl rfl nofun) (by decide) (Nat.le_of_ble_eq_true rfl) cU.len (fun _ => rfl) rfl (by simp only [maxLen, List.length_map, List.length_take, List.length_singleton]; omega) (by simp only [maxLen, List.length_map, List.length_take, List.length_singleton]; omega) fun X6 => ?_
   refine RW.assignMove rfl rfl rfl (by decide) (Nat.le_of_ble_eq_true rfl) (Nat.le_of_ble_eq_true rfl) ?_
   refine RW.nil ?_
   refine CW.keep 26 [0,4,5] rfl ?_;(conv=>whnf);refine ⟨?_⟩
   refine CW.region ?_
   refine RW.k XK 26 1 rfl ?_
   (conv=>whnf);refine ⟨rfl,?_⟩
   refine RW.v rfl (V.inc rfl rfl rfl hii hl0) ?_
   refine RW.k XK 26 1 rfl ?_
   (conv=>whnf);refine ⟨rfl,?_⟩
   refine RW.nil ?_
   exact ⟨(i + 1, _), by simp only []; omega, (by omega), rfl, Le.c rfl <| Le.c (Dw_congr (by rw [take_snoc hei, List.map_append]; rfl)) <| Le.c rfl <| Le.e⟩
  ·skip
   have hii : a.length ≤ i := by have := h4; simp at this; first | exact this | omega | (simp; done) | (simp; omega)
   have hdi : a.drop i = [] := List.drop_eq_nil_of_le hii
   refine CW.exit ?_
   refine CW.keep 26 [4] rfl ?_;(conv=>whnf);refine ⟨?_⟩
   refine CW.seq ?_
   refine CW.region ?_
   refine RW.k XK 26 1 rfl ?_
   (conv=>whnf);refine ⟨rfl,?_⟩
   refine RW.v rfl (V.bytesStr (l := ((a.take i).map fun x => IntKind.u8.wrap x)) rfl rfl rfl (by kernel_rfl) (by kernel_rfl) (.al (k := none) (i := 4) (sz := 1) (V := X) rfl rfl nofun)) ?_
   refine RW.k XK 26 2 rfl ?_
   (conv=>whnf);refine ⟨rfl,?_⟩
   refine RW.nil ?_
   refine CW.keep 26 [2,3] rfl ?_;(conv=>whnf);refine ⟨?_⟩
   refine CW.ret ?_
   exact Post.tup (by decide) (RVs.c (RV.s rfl (by rw [confText, if_pos (by simp_all), List.take_of_length_le hii])) (RVs.c (RV.b rfl (by rw [confText, if_pos (by simp_all)])) RVs.e)) (AOs.r AOs.e)
set_option maxHeartbeats 4000000 in
theorem spec_l01Var_fn (n : Int) (hn : 0 ≤ n ∧ n ≤ 9223372036854775807) : Eng.Fn E.P 56 [.one (.r (.v (.int .i64 n)))] (.one (.one (.w (.v (.string (varB n.toNat)))))) [.one (.r (.v (.int .i64 n)))] := by
 refine Eng.Fn.intro (E := E) (rvs := [.tmp 2]) Try.func56 rfl rfl rfl (by simp [outSlots, moved, rvSlot, sl]) ?_
 intro B g bo
 refine CW.keep 22 [0] rfl ?_;(conv=>whnf);refine ⟨?_⟩
 refine CW.k XK 22 1 [0] rfl ?_
 (conv=>whnf);refine ⟨rfl,?_⟩
 refine CW.seq ?_
 refine CW.region ?_
 refine RW.build0 cU rfl rfl rfl rfl rfl fun X1 => ?_
 refine RW.assignMove rfl rfl rfl (by decide) (Nat.le_of_ble_eq_true rfl) (Nat.le_of_ble_eq_true rfl) ?_
 refine RW.nil ?_
 refine CW.keep 22 [0,3] rfl ?_;(conv=>whnf);refine ⟨?_⟩
 refine CW.seq ?_
 refine CW.block ?_
 refine CW.loopI 22 (fun (zz : Int × List Int × Value) => match zz with | (m, l, X) => [(0, I m), (3, .w (sl 1 cU l) X)]) (fun (zz : Int × List Int × Value) => match zz with | (m, l, X) => VbP n m l) (fun (zz : Int × List Int × Value) => match zz with | (m, l, X) => m.toNat) (_, [], _) rfl (Le.c rfl <| Le.c rfl <| Le.e) (VbP.init hn) ?_
 rintro ⟨m, l, X⟩ hP
 refine CW.seq ?_
 refine CW.k XK 22 1 [0,3,6] rfl ?_
 (conv=>whnf);refine ⟨rfl,?_⟩
 refine CW.cond rfl (fun h2 => ?_) (fun h2 => ?_)
 ·skip
  have hgt := h2
  refine CW.skip ?_
  refine CW.keep 22 [0,3] rfl ?_;(conv=>whnf);refine ⟨?_⟩
  refine CW.block ?_
  refine CW.seq ?_
  refine CW.region ?_
  refine RW.k XK 22 5 rfl ?_
  (conv=>whnf);refine ⟨rfl,?_⟩
  refine RW.build1c (c := cU) (v := (IntKind.u8.wrap (IntKind.i64.wrap ((Int.tmod m 128) + 128)))) (u := .v (.int .u8 (IntKind.u8.wrap (IntKind.i64.wrap ((Int.tmod m 128) + 128))))) rfl rfl rfl rfl rfl rfl (.inl rfl) rfl rfl fun X3 => ?_
  refine RW.appendSR (c := cU) (l1 := l) (l2 := [(IntKind.u8.wrap (IntKind.i64.wrap ((Int.tmod m 128) + 128)))]) rfl rfl rfl rfl rfl rfl rfl rfl (.al (k := none) (i := 12) (sz := 1) (V := X3) rfl rfl nofun) (by decide) (Nat.le_of_ble_eq_true rfl) cU.len (fun _ => rfl) rfl (by have h9 := hP.len; simp only [maxLen, List.length_singleton]; omega) (by have h9 := hP.len; simp only [maxLen, List.length_singleton]; omega) fun X4 => ?_
  refine RW.assignMove rfl rfl rfl (by decide) (Nat.le_of_ble_eq_true rfl) (Nat.le_of_ble_eq_true rfl) ?_
  refine RW.nil ?_
  refine CW.keep 22 [0,3] rfl ?_;(conv=>whnf);refine ⟨?_⟩
  refine CW.region ?_
  refine RW.k XK 22 3 rfl ?_
  (conv=>whnf);refine ⟨rfl,?_⟩
  refine RW.nil ?_
  exact ⟨(_, _, _), (hP.step hgt).2, (hP.step hgt).1, rfl, Le.c rfl <| Le.c rfl <| Le.e⟩
 ·skip
  have hgt := h2
  refine CW.exit ?_
  refine CW.keep 22 [0,3] rfl ?_;(conv=>whnf);refine ⟨?_⟩
  refine CW.seq ?_
  refine CW.region ?_
  refine RW.k XK 22 3 rfl ?_
  (conv=>whnf);refine ⟨rfl,?_⟩
  refine RW.build1c (c := cU) (v := (IntKind.u8.wrap m)) (u := .v (.int .u8 (IntKind.u8.wrap m))) rfl rfl rfl rfl rfl rfl (.inl rfl) rfl rfl fun X5 => ?_
  refine RW.appendSR (c := cU) (l1 := l) (l2 := [(IntKind.u8.wrap m)]) rfl rfl rfl rfl rfl rfl rfl rfl (.al (k := none) (i := 19) (sz := 1) (V := X5) rfl rfl nofun) (by decide) (Nat.le_of_ble_eq_true rfl) cU.len (fun _ => rfl) rfl (by have h9 := hP.len; simp only [maxLen, List.length_singleton]; omega) (by have h9 := hP.len; simp only [maxLen, List.length_singleton]; omega) fun X6 => ?_
  refine RW.v rfl (V.bytesStr (l := (l ++ ([(IntKind.u8.wrap m)]))) rfl rfl rfl (by kernel_rfl) (by kernel_rfl) (.al (k := none) (i := 20) (sz := 1) (V := X6) rfl rfl nofun)) ?_
  refine RW.k XK 22 1 rfl ?_
  (conv=>whnf);refine ⟨rfl,?_⟩
  refine RW.nil ?_
  refine CW.keep 22 [2] rfl ?_;(conv=>whnf);refine ⟨?_⟩
  refine CW.ret ?_
  exact Post.one (RV.s rfl (by exact hP.fin hgt)) (AOs.r AOs.e)
set_option maxHeartbeats 4000000 in
theorem impl_ReadVar_fn (t : ByteArray) (a : Int) (ht : t.size ≤ 1048576) : Eng.Fn E.P 60 [.one (.r (.v (.string t))), .one (.r (.v (.int .i64 a)))] (.tup [.one (.w (.v (.int .i64 ((rdVar t a).1)))), .one (.w (.v (.int .i64 ((rdVar t a).2.1)))), .one (.w (.v (.bool ((rdVar t a).2.2))))]) [.one (.r (.v (.string t))), .one (.r (.v (.int .i64 a)))] := by
 refine Eng.Fn.intro (E := E) (rvs := [.tmp 4, .tmp 5, .tmp 6]) Try.func60 rfl rfl rfl (by simp [outSlots, moved, rvSlot, sl]) ?_
 intro B g bo
 refine CW.keep 57 [0,1] rfl ?_;(conv=>whnf);refine ⟨?_⟩
 have hsz : t.size ≤ 4611686018427387904 := by omega
 refine CW.k XK 57 1 [0,1] rfl ?_
 (conv=>whnf);refine ⟨rfl,?_⟩
 refine CW.seq ?_
 refine CW.seq ?_
 refine CW.region ?_
 refine RW.k XK 57 3 rfl ?_
 (conv=>whnf);refine ⟨rfl,?_⟩
 refine RW.call rfl (impl_within_fn a 0 (t.size : Int)) rfl (.cons (.one (.r .r)) (.cons (.one (.r .r)) (.cons (.one (.r .r)) (.nil)))) fun g1 => ?_
 refine RW.k XK 57 1 rfl ?_
 (conv=>whnf);refine ⟨rfl,?_⟩
 refine RW.nil ?_
 refine CW.keep 57 [0,1,14] rfl ?_;(conv=>whnf);refine ⟨?_⟩
 refine CW.cond rfl (fun h2 => ?_) (fun h2 => ?_)
 ·skip
  refine CW.k XK 57 1 [4,5,6] rfl ?_
  (conv=>whnf);refine ⟨rfl,?_⟩
  refine CW.ret ?_
  exact Post.tup (by decide) (RVs.c (RV.i rfl (by rw [rdVar_out (nT (by assumption))])) (RVs.c (RV.i rfl (by rw [rdVar_out (nT (by assumption))])) (RVs.c (RV.b rfl (by rw [rdVar_out (nT (by assumption))])) RVs.e))) (AOs.r (AOs.r AOs.e))
 ·skip
  have hin := nF h2
  refine CW.skip ?_
  refine CW.keep 57 [0,1] rfl ?_;(conv=>whnf);refine ⟨?_⟩
  refine CW.k XK 57 1 [0,1,7] rfl ?_
  (conv=>whnf);refine ⟨rfl,?_⟩
  refine CW.seq ?_
  refine CW.k XK 57 1 [0,1,7,8] rfl ?_
  (conv=>whnf);refine ⟨rfl,?_⟩
  refine CW.block ?_
  refine CW.loopI 57 (fun (zz : Nat × Int) => match zz with | (i, n) => [(0, S t), (1, I a), (7, I n), (8, I (i : Int))]) (fun (zz : Nat × Int) => match zz with | (i, n) => RvP t a i n) (fun (zz : Nat × Int) => match zz with | (i, n) => 5 - i) (0, 0) rfl (Le.c rfl <| Le.c rfl <| Le.c rfl <| Le.c rfl <| Le.e) (RvP.init hin hsz) ?_
  rintro ⟨i, n⟩ hP
  refine CW.seq ?_
  refine CW.seqJ 57 (fun (v3 : Bool) => [(0, S t), (1, I a), (7, I n), (8, I (i : Int)), (24, Bo v3)]) (fun v3 => v3 = (decide ((i : Int) < 5) && decide ((IntKind.i64.wrap (a + (i : Int))) < (t.size : Int)))) ?_ ?_
  ·refine CW.region ?_
   refine RW.k XK 57 3 rfl ?_
   (conv=>whnf);refine ⟨rfl,?_⟩
   refine RW.gv rfl rfl rfl rfl (fun h4 => V.mv (d := I a) rfl rfl) (fun h4 => ?_) (fun h4 => ?_)
   ·skip
    refine RW.k XK 57 6 rfl ?_
    (conv=>whnf);refine ⟨rfl,?_⟩
    refine RW.nil ?_
    exact ⟨_, by first | rfl | (simp_all; done) | (simp_all; omega) | grind, rfl, Le.of rfl⟩
   ·skip
    refine RW.k XK 57 6 rfl ?_
    (conv=>whnf);refine ⟨rfl,?_⟩
    refine RW.nil ?_
    exact ⟨_, by first | rfl | (simp_all; done) | (simp_all; omega) | grind, rfl, Le.of rfl⟩
  ·intro v3 hv5
   refine CW.cond rfl (fun h6 => ?_) (fun h6 => ?_)
   ·skip
    have hvv := hv5.symm.trans h6
    simp only [Bool.and_eq_true, decide_eq_true_eq] at hvv
    have h5 : i < 5 := by omega
    have hlt : a.toNat + i < t.size := hP.lt hvv.2
    obtain ⟨c, hb⟩ := hP.byte hlt
    refine CW.skip ?_
    refine CW.keep 57 [0,1,7,8] rfl ?_;(conv=>whnf);refine ⟨?_⟩
    refine CW.seq ?_
    refine CW.block ?_
    refine CW.seq ?_
    refine CW.region ?_
    refine RW.k XK 57 4 rfl ?_
    (conv=>whnf);refine ⟨rfl,?_⟩
    refine RW.v rfl (V.idxStrZ (m := (a.toNat + i)) rfl (by kernel_rfl) rfl rfl hP.ix hlt) ?_
    refine RW.k XK 57 2 rfl ?_
    (conv=>whnf);refine ⟨rfl,?_⟩
    refine RW.nil ?_
    refine CW.keep 57 [0,1,7,8,9] rfl ?_;(conv=>whnf);refine ⟨?_⟩
    refine CW.seq ?_
    refine CW.region ?_
    refine RW.k XK 57 5 rfl ?_
    (conv=>whnf);refine ⟨rfl,?_⟩
    refine RW.v rfl (V.shl rfl rfl rfl (by rw [wrap_small (by omega) (by omega)]; omega)) ?_
    refine RW.k XK 57 2 rfl ?_
    (conv=>whnf);refine ⟨rfl,?_⟩
    refine RW.nil ?_
    refine CW.keep 57 [0,1,7,8,9] rfl ?_;(conv=>whnf);refine ⟨?_⟩
    refine CW.seq ?_
    refine CW.k XK 57 1 [0,1,7,8,9,41] rfl ?_
    (conv=>whnf);refine ⟨rfl,?_⟩
    refine CW.cond rfl (fun h7 => ?_) (fun h7 => ?_)
    ·skip
     have hc : (c.toNat : Int) > 127 := by have h9 := of_decide_eq_true h7; rw [hb.wb] at h9; exact h9
     refine CW.exit ?_
     refine CW.keep 57 [0,1,7,8] rfl ?_;(conv=>whnf);refine ⟨?_⟩
     refine CW.region ?_
     refine RW.k XK 57 1 rfl ?_
     (conv=>whnf);refine ⟨rfl,?_⟩
     refine RW.v rfl (V.inc rfl rfl rfl h5 (by simp only [maxLen]; omega)) ?_
     refine RW.k XK 57 1 rfl ?_
     (conv=>whnf);refine ⟨rfl,?_⟩
     refine RW.nil ?_
     exact ⟨(i + 1, (IntKind.i64.wrap (n + (shlI (Int.tmod (IntKind.i64.wrap (bat t (a.toNat + i))) 128) (IntKind.i64.wrap (7 * (i : Int))))))), by simp only []; omega, (hP.next hb h5 hlt hc (hP.nI hb h5)), rfl, Le.c rfl <| Le.c rfl <| Le.c rfl <| Le.c rfl <| Le.e⟩
    ·skip
     have hc : (c.toNat : Int) ≤ 127 := by have h9 := of_decide_eq_false h7; rw [hb.wb] at h9; omega
     refine CW.skip ?_
     refine CW.keep 57 [1,7,8,9] rfl ?_;(conv=>whnf);refine ⟨?_⟩
     refine CW.seq ?_
     refine CW.seqJ 57 (fun (v8 : Bool) => [(1, I a), (7, I (IntKind.i64.wrap (n + (shlI (Int.tmod (IntKind.i64.wrap (bat t (a.toNat + i))) 128) (IntKind.i64.wrap (7 * (i : Int))))))), (8, I (i : Int)), (51, Bo v8)]) (fun v8 => v8 = ((decide ((i : Int) > 0) && ((IntKind.i64.wrap (bat t (a.toNat + i))) == 0)) || decide ((IntKind.i64.wrap (n + (shlI (Int.tmod (IntKind.i64.wrap (bat t (a.toNat + i))) 128) (IntKind.i64.wrap (7 * (i : Int)))))) > 1000000000))) ?_ ?_
     ·refine CW.region ?_
      refine RW.k XK 57 3 rfl ?_
      (conv=>whnf);refine ⟨rfl,?_⟩
      refine RW.gv rfl rfl rfl rfl (fun h9 => V.mv (d := I (IntKind.i64.wrap (bat t (a.toNat + i)))) rfl rfl) (fun h9 => ?_) (fun h9 => ?_)
      ·skip
       refine RW.k XK 57 3 rfl ?_
       (conv=>whnf);refine ⟨rfl,?_⟩
       refine RW.gv rfl rfl rfl rfl (fun h10 => V.mv (d := I (IntKind.i64.wrap (n + (shlI (Int.tmod (IntKind.i64.wrap (bat t (a.toNat + i))) 128) (IntKind.i64.wrap (7 * (i : Int))))))) rfl rfl) (fun h10 => ?_) (fun h10 => ?_)
       ·skip
        refine RW.k XK 57 2 rfl ?_
        (conv=>whnf);refine ⟨rfl,?_⟩
        refine RW.nil ?_
        exact ⟨_, by first | rfl | (simp_all; done) | (simp_all; omega) | grind, rfl, Le.of rfl⟩
       ·skip
        refine RW.k XK 57 2 rfl ?_
        (conv=>whnf);refine ⟨rfl,?_⟩
        refine RW.nil ?_
        exact ⟨_, by first | rfl | (simp_all; done) | (simp_all; omega) | grind, rfl, Le.of rfl⟩
      ·skip
       refine RW.k XK 57 6 rfl ?_
       (conv=>whnf);refine ⟨rfl,?_⟩
       refine RW.nil ?_
       exact ⟨_, by first | rfl | (simp_all; done) | (simp_all; omega) | grind, rfl, Le.of rfl⟩
     ·intro v8 hv11
      refine CW.cond rfl (fun h12 => ?_) (fun h12 => ?_)
      ·skip
       have hz := (hP.implT hb h5 hv11).1 h12
       refine CW.k XK 57 1 [4,5,6] rfl ?_
       (conv=>whnf);refine ⟨rfl,?_⟩
       refine CW.ret ?_
       exact Post.tup (by decide) (RVs.c (RV.i rfl (by rw [hP.badZ hb h5 hc hz])) (RVs.c (RV.i rfl (by rw [hP.badZ hb h5 hc hz])) (RVs.c (RV.b rfl (by rw [hP.badZ hb h5 hc hz])) RVs.e))) (AOs.r (AOs.r AOs.e))
      ·skip
       have hz := (hP.implT hb h5 hv11).2 h12
       refine CW.skip ?_
       refine CW.keep 57 [1,7,8] rfl ?_;(conv=>whnf);refine ⟨?_⟩
       refine CW.k XK 57 1 [4,5,6] rfl ?_
       (conv=>whnf);refine ⟨rfl,?_⟩
       refine CW.ret ?_
       exact Post.tup (by decide) (RVs.c (RV.i rfl (by rw [hP.goodZ hb h5 hc hz]; exact hP.nI hb h5)) (RVs.c (RV.i rfl (by rw [hP.goodZ hb h5 hc hz]; exact hP.nx)) (RVs.c (RV.b rfl (by rw [hP.goodZ hb h5 hc hz])) RVs.e))) (AOs.r (AOs.r AOs.e))
   ·skip
    have hen := hP.end_ (by have hvv := hv5.symm.trans h6; simp only [Bool.and_eq_false_iff, decide_eq_false_iff_not] at hvv; have h9 := hP.a0; have h8 := hP.sz; have h7 := hP.j5; rw [hP.ix] at hvv; omega)
    refine CW.exit ?_
    refine CW.keep 57 [] rfl ?_;(conv=>whnf);refine ⟨?_⟩
    refine CW.k XK 57 1 [4,5,6] rfl ?_
    (conv=>whnf);refine ⟨rfl,?_⟩
    refine CW.ret ?_
    exact Post.tup (by decide) (RVs.c (RV.i rfl (by rw [hen])) (RVs.c (RV.i rfl (by rw [hen])) (RVs.c (RV.b rfl (by rw [hen])) RVs.e))) (AOs.r (AOs.r AOs.e))
set_option maxHeartbeats 4000000 in
theorem spec_ReadVar_fn (t : ByteArray) (a : Int) (ht : t.size ≤ 1048576) : Eng.Fn E.P 54 [.one (.r (.v (.string t))), .one (.r (.v (.int .i64 a)))] (.tup [.one (.w (.v (.int .i64 ((rdVar t a).1)))), .one (.w (.v (.int .i64 ((rdVar t a).2.1)))), .one (.w (.v (.bool ((rdVar t a).2.2))))]) [.one (.r (.v (.string t))), .one (.r (.v (.int .i64 a)))] := by
 refine Eng.Fn.intro (E := E) (rvs := [.tmp 4, .tmp 5, .tmp 6]) Try.func54 rfl rfl rfl (by simp [outSlots, moved, rvSlot, sl]) ?_
 intro B g bo
 refine CW.keep 58 [0,1] rfl ?_;(conv=>whnf);refine ⟨?_⟩
 have hsz : t.size ≤ 4611686018427387904 := by omega
 refine CW.k XK 58 1 [0,1] rfl ?_
 (conv=>whnf);refine ⟨rfl,?_⟩
 refine CW.seq ?_
 refine CW.seq ?_
 refine CW.region ?_
 refine RW.k XK 58 3 rfl ?_
 (conv=>whnf);refine ⟨rfl,?_⟩
 refine RW.call rfl (spec_l01In_fn a 0 (t.size : Int)) rfl (.cons (.one (.r .r)) (.cons (.one (.r .r)) (.cons (.one (.r .r)) (.nil)))) fun g1 => ?_
 refine RW.k XK 58 1 rfl ?_
 (conv=>whnf);refine ⟨rfl,?_⟩
 refine RW.nil ?_
 refine CW.keep 58 [0,1,14] rfl ?_;(conv=>whnf);refine ⟨?_⟩
 refine CW.cond rfl (fun h2 => ?_) (fun h2 => ?_)
 ·skip
  refine CW.k XK 58 1 [4,5,6] rfl ?_
  (conv=>whnf);refine ⟨rfl,?_⟩
  refine CW.ret ?_
  exact Post.tup (by decide) (RVs.c (RV.i rfl (by rw [rdVar_out (nT (by assumption))])) (RVs.c (RV.i rfl (by rw [rdVar_out (nT (by assumption))])) (RVs.c (RV.b rfl (by rw [rdVar_out (nT (by assumption))])) RVs.e))) (AOs.r (AOs.r AOs.e))
 ·skip
  have hin := nF h2
  refine CW.skip ?_
  refine CW.keep 58 [0,1] rfl ?_;(conv=>whnf);refine ⟨?_⟩
  refine CW.k XK 58 2 [0,1,7,8] rfl ?_
  (conv=>whnf);refine ⟨rfl,?_⟩
  refine CW.seq ?_
  refine CW.k XK 58 1 [0,1,7,8,9] rfl ?_
  (conv=>whnf);refine ⟨rfl,?_⟩
  refine CW.block ?_
  refine CW.loopI 58 (fun (zz : Nat × Int) => match zz with | (j, n) => [(0, S t), (1, I a), (7, I n), (8, I ((128 ^ j : Nat) : Int)), (9, I (a + (j : Int)))]) (fun (zz : Nat × Int) => match zz with | (j, n) => RvP t a j n) (fun (zz : Nat × Int) => match zz with | (j, n) => 5 - j) (0, 0) rfl (Le.c rfl <| Le.c rfl <| Le.c rfl <| Le.c (congrArg I (by simp)) <| Le.c (congrArg I (by omega)) <| Le.e) (RvP.init hin hsz) ?_
  rintro ⟨j, n⟩ hP
  refine CW.seq ?_
  refine CW.seqJ 58 (fun (v3 : Bool) => [(0, S t), (1, I a), (7, I n), (8, I ((128 ^ j : Nat) : Int)), (9, I (a + (j : Int))), (25, Bo v3)]) (fun v3 => v3 = (decide ((a + (j : Int)) < (t.size : Int)) && decide ((a + (j : Int)) < (IntKind.i64.wrap (a + 5))))) ?_ ?_
  ·refine CW.region ?_
   refine RW.k XK 58 5 rfl ?_
   (conv=>whnf);refine ⟨rfl,?_⟩
   refine RW.gv rfl rfl rfl rfl (fun h4 => V.mv (d := I (a + (j : Int))) rfl rfl) (fun h4 => ?_) (fun h4 => ?_)
   ·skip
    refine RW.k XK 58 4 rfl ?_
    (conv=>whnf);refine ⟨rfl,?_⟩
    refine RW.nil ?_
    exact ⟨_, by first | rfl | (simp_all; done) | (simp_all; omega) | grind, rfl, Le.of rfl⟩
   ·skip
    refine RW.k XK 58 4 rfl ?_
    (conv=>whnf);refine ⟨rfl,?_⟩
    refine RW.nil ?_
    exact ⟨_, by first | rfl | (simp_all; done) | (simp_all; omega) | grind, rfl, Le.of rfl⟩
  ·intro v3 hv5
   refine CW.cond rfl (fun h6 => ?_) (fun h6 => ?_)
   ·skip
    have hvv := hv5.symm.trans h6
    simp only [Bool.and_eq_true, decide_eq_true_eq] at hvv
    have h5 : j < 5 := by have h9 := hP.a0; have h8 := hP.sz; rw [wrap_small (x := a + 5) (by omega) (by omega)] at hvv; omega
    have hlt : a.toNat + j < t.size := by have h9 := hP.a0; omega
    obtain ⟨c, hb⟩ := hP.byte hlt
    refine CW.skip ?_
    refine CW.keep 58 [0,1,7,8,9] rfl ?_;(conv=>whnf);refine ⟨?_⟩
    refine CW.seq ?_
    refine CW.block ?_
    refine CW.seq ?_
    refine CW.region ?_
    refine RW.k XK 58 3 rfl ?_
    (conv=>whnf);refine ⟨rfl,?_⟩
    refine RW.v rfl (V.idxStrZ (m := (a.toNat + j)) rfl (by kernel_rfl) rfl rfl (by have h9 := hP.a0; omega) hlt) ?_
    refine RW.k XK 58 6 rfl ?_
    (conv=>whnf);refine ⟨rfl,?_⟩
    refine RW.nil ?_
    refine CW.keep 58 [0,1,7,8,9] rfl ?_;(conv=>whnf);refine ⟨?_⟩
    refine CW.k XK 58 1 [0,1,7,8,9] rfl ?_
    (conv=>whnf);refine ⟨rfl,?_⟩
    refine CW.seq ?_
    refine CW.region ?_
    refine RW.k XK 58 2 rfl ?_
    (conv=>whnf);refine ⟨rfl,?_⟩
    refine RW.v rfl (V.idxStrZ (m := (a.toNat + j)) rfl (by kernel_rfl) rfl rfl (by have h9 := hP.a0; omega) hlt) ?_
    refine RW.k XK 58 1 rfl ?_
    (conv=>whnf);refine ⟨rfl,?_⟩
    refine RW.nil ?_
    refine CW.keep 58 [0,1,7,8,9,42] rfl ?_;(conv=>whnf);refine ⟨?_⟩
    refine CW.cond rfl (fun h7 => ?_) (fun h7 => ?_)
    ·skip
     have hc : (c.toNat : Int) ≤ 127 := by have h9 := of_decide_eq_true h7; rw [hb.bt] at h9; omega
     refine CW.seq ?_
     refine CW.anyP (fc := []) 58 (fun (v8 : Bool) => [(7, I (IntKind.i64.wrap (n + (IntKind.i64.wrap ((Int.tmod (IntKind.i64.wrap (bat t (a.toNat + j))) 128) * ((128 ^ j : Nat) : Int)))))), (9, I (a + (j : Int))), (54, Bo v8)]) (fun (v8 : Bool) => v8 = (decide ((IntKind.i64.wrap (n + (IntKind.i64.wrap ((Int.tmod (IntKind.i64.wrap (bat t (a.toNat + j))) 128) * ((128 ^ j : Nat) : Int))))) > 1000000000) || (!((varB (IntKind.i64.wrap (n + (IntKind.i64.wrap ((Int.tmod (IntKind.i64.wrap (bat t (a.toNat + j))) 128) * ((128 ^ j : Nat) : Int))))).toNat).toList == (t.extract a.toNat (IntKind.i64.wrap ((a + (j : Int)) + 1)).toNat).toList)))) (fun K hK => ?_) ?_
     ·refine RA.start (m := 12) (ls' := (bt 12 0)) (by kernel_rfl) (by kernel_rfl) ?_
      refine RA.keep 58 [0,1,7,9] rfl ?_;(conv=>whnf);refine ⟨?_⟩
      refine RA.fr XK 58 9 [0,1,2] (bt 12 7) rfl rfl (by kernel_rfl) (Tell.of rfl) ?_
      (conv=>whnf);refine ⟨rfl,fun B=>?_⟩
      refine RA.keep 58 [0,1,7,9,45] rfl ?_;(conv=>whnf);refine ⟨?_⟩
      refine RA.bool 45 rfl (fun h9 => ?_) (fun h9 => ?_)
      ·skip
       refine RA.firstF (i := 3) (ls' := (bt 12 15)) (Tell.of rfl) (by kernel_rfl) rfl rfl rfl rfl rfl (.inl rfl) ?_
       refine RA.firstF (i := 4) (ls' := (bt 12 31)) (Tell.of rfl) (by kernel_rfl) rfl rfl rfl rfl rfl (.inl rfl) ?_
       refine RA.firstF (i := 5) (ls' := (bt 12 63)) (Tell.of rfl) (by kernel_rfl) rfl rfl rfl rfl rfl (.inl rfl) ?_
       refine RA.firstF (i := 6) (ls' := (bt 12 127)) (Tell.of rfl) (by kernel_rfl) rfl rfl rfl rfl rfl (.inl rfl) ?_
       refine RA.firstF (i := 7) (ls' := (bt 12 255)) (Tell.of rfl) (by kernel_rfl) rfl rfl rfl rfl rfl (.inl rfl) ?_
       refine RA.firstF (i := 8) (ls' := (bt 12 511)) (Tell.of rfl) (by kernel_rfl) rfl rfl rfl rfl rfl (.inl rfl) ?_
       refine RA.firstF (i := 9) (ls' := (bt 12 1023)) (Tell.of rfl) (by kernel_rfl) rfl rfl rfl rfl rfl (.inl rfl) ?_
       refine RA.firstF (i := 10) (ls' := (bt 12 2047)) (Tell.of rfl) (by kernel_rfl) rfl rfl rfl rfl rfl (.inl rfl) ?_
       refine RA.keep 58 [7,9,45,53] rfl ?_;(conv=>whnf);refine ⟨?_⟩
       refine RA.fr XK 58 0 [11] (bt 12 4095) rfl rfl (by kernel_rfl) (Tell.of rfl) ?_
       (conv=>whnf);refine ⟨rfl,fun B=>?_⟩
       exact RA.finH (Tell.of rfl) (by kernel_rfl) (hK _ _ (by first | rfl | (simp_all; done) | grind) rfl (Le.of rfl))
      ·skip
       refine RA.firstT (i := 3) (ls' := (bt 12 15)) (Tell.of rfl) (by kernel_rfl) rfl rfl rfl rfl rfl rfl (VF.p (V.mv (d := I (IntKind.i64.wrap (n + (IntKind.i64.wrap ((Int.tmod (IntKind.i64.wrap (bat t (a.toNat + j))) 128) * ((128 ^ j : Nat) : Int)))))) rfl rfl)) ?_
       refine RA.firstT (i := 5) (ls' := (bt 12 47)) (Tell.of rfl) (by kernel_rfl) rfl rfl rfl rfl rfl rfl (VF.p (V.mv (d := S t) rfl rfl)) ?_
       refine RA.firstT (i := 6) (ls' := (bt 12 111)) (Tell.of rfl) (by kernel_rfl) rfl rfl rfl rfl rfl rfl (VF.p (V.mv (d := I a) rfl rfl)) ?_
       refine RA.firstT (i := 7) (ls' := (bt 12 239)) (Tell.of rfl) (by kernel_rfl) rfl rfl rfl rfl rfl rfl (VF.p (V.mv (d := I (a + (j : Int))) rfl rfl)) ?_
       refine RA.firstT (i := 8) (ls' := (bt 12 495)) (Tell.of rfl) (by kernel_rfl) rfl rfl rfl rfl rfl rfl (VF.p (V.arInt rfl rfl rfl rfl)) ?_
       refine RA.firstT (i := 9) (ls' := (bt 12 1007)) (Tell.of rfl) (by kernel_rfl) rfl rfl rfl rfl rfl rfl (VF.p (V.strSlice (l := a) (h := (IntKind.i64.wrap ((a + (j : Int)) + 1))) rfl (by kernel_rfl) rfl (.inr ⟨_, _, rfl, rfl⟩) (.inr ⟨_, _, rfl, rfl⟩) (by have h9 := hP.a0; have h8 := hP.sz; rw [wrap_small (by omega) (by omega)]; omega))) ?_
       refine RA.keep 58 [7,9,45,46,52] rfl ?_;(conv=>whnf);refine ⟨?_⟩
       refine RA.oneCall (i := 4) (ls' := (bt 12 1023)) (Tell.of rfl) (by kernel_rfl) rfl rfl rfl rfl rfl rfl (spec_l01Var_fn (IntKind.i64.wrap (n + (IntKind.i64.wrap ((Int.tmod (IntKind.i64.wrap (bat t (a.toNat + j))) 128) * ((128 ^ j : Nat) : Int))))) (by rw [hP.nS hb h5]; have h9 := (hP.more hb h5).2; have h8 := (hP.more hb h5).1; omega)) rfl (.cons (.one (.r .r)) (.nil)) fun g10 => ?_
       refine RA.firstT (i := 10) (ls' := (bt 12 2047)) (Tell.of rfl) (by kernel_rfl) rfl rfl rfl rfl rfl rfl (VF.p (V.strCmp rfl rfl rfl rfl)) ?_
       refine RA.fr XK 58 0 [11] (bt 12 4095) rfl rfl (by kernel_rfl) (Tell.of rfl) ?_
       (conv=>whnf);refine ⟨rfl,fun B=>?_⟩
       exact RA.finH (Tell.of rfl) (by kernel_rfl) (hK _ _ (by first | rfl | (simp_all; done) | grind) rfl (Le.of rfl))
     ·rintro v8 hv11
      refine CW.cond rfl (fun h12 => ?_) (fun h12 => ?_)
      ·skip
       have hz := (hP.specT hb h5 hc hlt hv11).1 h12
       refine CW.k XK 58 1 [4,5,6] rfl ?_
       (conv=>whnf);refine ⟨rfl,?_⟩
       refine CW.ret ?_
       exact Post.tup (by decide) (RVs.c (RV.i rfl (by rw [hP.badZ hb h5 hc hz])) (RVs.c (RV.i rfl (by rw [hP.badZ hb h5 hc hz])) (RVs.c (RV.b rfl (by rw [hP.badZ hb h5 hc hz])) RVs.e))) (AOs.r (AOs.r AOs.e))
      ·skip
       have hz := (hP.specT hb h5 hc hlt hv11).2 h12
       refine CW.skip ?_
       refine CW.keep 58 [7,9] rfl ?_;(conv=>whnf);refine ⟨?_⟩
       refine CW.k XK 58 1 [4,5,6] rfl ?_
       (conv=>whnf);refine ⟨rfl,?_⟩
       refine CW.ret ?_
       exact Post.tup (by decide) (RVs.c (RV.i rfl (by rw [hP.goodZ hb h5 hc hz]; exact hP.nS hb h5)) (RVs.c (RV.i rfl (by rw [hP.goodZ hb h5 hc hz]; have h9 := hP.a0; have h8 := hP.sz; rw [wrap_small (by omega) (by omega)]; show _ = a + ((j + 1 : Nat) : Int); omega)) (RVs.c (RV.b rfl (by rw [hP.goodZ hb h5 hc hz])) RVs.e))) (AOs.r (AOs.r AOs.e))
    ·skip
     have hc : (c.toNat : Int) > 127 := by have h9 := of_decide_eq_false h7; rw [hb.bt] at h9; omega
     refine CW.skip ?_
     refine CW.keep 58 [0,1,7,8,9] rfl ?_;(conv=>whnf);refine ⟨?_⟩
     refine CW.region ?_
     refine RW.k XK 58 3 rfl ?_
     (conv=>whnf);refine ⟨rfl,?_⟩
     refine RW.nil ?_
     exact ⟨(j + 1, (IntKind.i64.wrap (n + (IntKind.i64.wrap ((Int.tmod (IntKind.i64.wrap (bat t (a.toNat + j))) 128) * ((128 ^ j : Nat) : Int)))))), by simp only []; omega, (hP.next hb h5 hlt hc (hP.nS hb h5)), rfl, Le.c rfl <| Le.c rfl <| Le.c rfl <| Le.c (congrArg I (pow_next h5)) <| Le.c (congrArg I (by have h9 := hP.a0; have h8 := hP.sz; rw [wrap_small (by omega) (by omega)]; omega)) <| Le.e⟩
   ·skip
    have hen := hP.end_ (by have hvv := hv5.symm.trans h6; simp only [Bool.and_eq_false_iff, decide_eq_false_iff_not] at hvv; have h9 := hP.a0; have h8 := hP.sz; have h7 := hP.j5; rw [wrap_small (x := a + 5) (by omega) (by omega)] at hvv; omega)
    refine CW.exit ?_
    refine CW.keep 58 [] rfl ?_;(conv=>whnf);refine ⟨?_⟩
    refine CW.k XK 58 1 [4,5,6] rfl ?_
    (conv=>whnf);refine ⟨rfl,?_⟩
    refine CW.ret ?_
    exact Post.tup (by decide) (RVs.c (RV.i rfl (by rw [hen])) (RVs.c (RV.i rfl (by rw [hen])) (RVs.c (RV.b rfl (by rw [hen])) RVs.e))) (AOs.r (AOs.r AOs.e))
set_option maxHeartbeats 4000000 in
theorem impl_ReadShort_fn (t : ByteArray) (a : Int) (ht : t.size ≤ 1048576) : Eng.Fn E.P 61 [.one (.r (.v (.string t))), .one (.r (.v (.int .i64 a)))] (.tup [.one (.w (.v (.string ((rdShort t a).1)))), .one (.w (.v (.int .i64 ((rdShort t a).2.1)))), .one (.w (.v (.bool ((rdShort t a).2.2))))]) [.one (.r (.v (.string t))), .one (.r (.v (.int .i64 a)))] := by
 refine Eng.Fn.intro (E := E) (rvs := [.tmp 4, .tmp 5, .tmp 6]) Try.func61 rfl rfl rfl (by simp [outSlots, moved, rvSlot, sl]) ?_
 intro B g bo
 refine CW.keep 40 [0,1] rfl ?_;(conv=>whnf);refine ⟨?_⟩
 refine CW.k XK 40 1 [0,1] rfl ?_
 (conv=>whnf);refine ⟨rfl,?_⟩
 refine CW.seq ?_
 refine CW.region ?_
 refine RW.k XK 40 2 rfl ?_
 (conv=>whnf);refine ⟨rfl,?_⟩
 refine RW.call rfl (impl_ReadVar_fn t a ht) rfl (.cons (.one (.r .r)) (.cons (.one (.r .r)) (.nil))) fun g1 => ?_
 refine RW.k XK 40 7 rfl ?_
 (conv=>whnf);refine ⟨rfl,?_⟩
 refine RW.nil ?_
 refine CW.keep 40 [0,7,8,9] rfl ?_;(conv=>whnf);refine ⟨?_⟩
 refine CW.seq ?_
 refine CW.seqJ 40 (fun (v2 : Bool) => [(0, S t), (7, I ((rdVar t a).1)), (8, I ((rdVar t a).2.1)), (30, Bo v2)]) (fun v2 => v2 = (((!((rdVar t a).2.2)) || decide (((rdVar t a).1) > 20000)) || decide (((rdVar t a).1) > (IntKind.i64.wrap ((t.size : Int) - ((rdVar t a).2.1)))))) ?_ ?_
 ·refine CW.region ?_
  refine RW.k XK 40 3 rfl ?_
  (conv=>whnf);refine ⟨rfl,?_⟩
  refine RW.gv rfl rfl rfl rfl (fun h3 => V.mv (d := I ((rdVar t a).1)) rfl rfl) (fun h3 => ?_) (fun h3 => ?_)
  ·skip
   refine RW.k XK 40 3 rfl ?_
   (conv=>whnf);refine ⟨rfl,?_⟩
   refine RW.gv rfl rfl rfl rfl (fun h4 => V.mv (d := I ((rdVar t a).1)) rfl rfl) (fun h4 => ?_) (fun h4 => ?_)
   ·skip
    refine RW.k XK 40 6 rfl ?_
    (conv=>whnf);refine ⟨rfl,?_⟩
    refine RW.nil ?_
    exact ⟨_, by first | rfl | (simp_all; done) | (simp_all; omega) | grind, rfl, Le.of rfl⟩
   ·skip
    refine RW.k XK 40 6 rfl ?_
    (conv=>whnf);refine ⟨rfl,?_⟩
    refine RW.nil ?_
    exact ⟨_, by first | rfl | (simp_all; done) | (simp_all; omega) | grind, rfl, Le.of rfl⟩
  ·skip
   refine RW.k XK 40 10 rfl ?_
   (conv=>whnf);refine ⟨rfl,?_⟩
   refine RW.nil ?_
   exact ⟨_, by first | rfl | (simp_all; done) | (simp_all; omega) | grind, rfl, Le.of rfl⟩
 ·intro v2 hv5
  refine CW.cond rfl (fun h6 => ?_) (fun h6 => ?_)
  ·skip
   have hvv := hv5.symm.trans h6
   refine CW.k XK 40 1 [4,5,6] rfl ?_
   (conv=>whnf);refine ⟨rfl,?_⟩
   refine CW.ret ?_
   exact Post.tup (by decide) (RVs.c (RV.s rfl (by rw [rdS_no hvv ht])) (RVs.c (RV.i rfl (by rw [rdS_no hvv ht])) (RVs.c (RV.b rfl (by rw [rdS_no hvv ht])) RVs.e))) (AOs.r (AOs.r AOs.e))
  ·skip
   have hvv := hv5.symm.trans h6
   refine CW.skip ?_
   refine CW.keep 40 [0,7,8] rfl ?_;(conv=>whnf);refine ⟨?_⟩
   refine CW.seq ?_
   refine CW.region ?_
   refine RW.k XK 40 5 rfl ?_
   (conv=>whnf);refine ⟨rfl,?_⟩
   refine RW.v rfl (V.strSlice (l := ((rdVar t a).2.1)) (h := (IntKind.i64.wrap (((rdVar t a).2.1) + ((rdVar t a).1)))) rfl (by kernel_rfl) rfl (.inr ⟨_, _, rfl, rfl⟩) (.inr ⟨_, _, rfl, rfl⟩) (rdS_yes hvv ht).2) ?_
   refine RW.k XK 40 6 rfl ?_
   (conv=>whnf);refine ⟨rfl,?_⟩
   refine RW.nil ?_
   refine CW.keep 40 [4,5,6] rfl ?_;(conv=>whnf);refine ⟨?_⟩
   refine CW.ret ?_
   exact Post.tup (by decide) (RVs.c (RV.s rfl (by rw [(rdS_yes hvv ht).1])) (RVs.c (RV.i rfl (by rw [(rdS_yes hvv ht).1])) (RVs.c (RV.b rfl (by rw [(rdS_yes hvv ht).1])) RVs.e))) (AOs.r (AOs.r AOs.e))
set_option maxHeartbeats 4000000 in
theorem __impl_scan__number_fn (s : scan) (hs : s.ok) : Eng.Fn E.P 24 [.ob ((scan.c s).map .r)] (.one (.one (.w (.v (.int .i64 (numV s)))))) [.ob ((scan.c (numS s)).map .r)] := by
 refine Eng.Fn.intro (E := E) (rvs := [.tmp 2]) Try.func24 rfl rfl rfl (by simp [outSlots, moved, rvSlot, sl]) ?_
 intro B g bo
 refine CW.keep 35 [0] rfl ?_;(conv=>whnf);refine ⟨?_⟩
 refine CW.k XK 35 1 [0] rfl ?_
 (conv=>whnf);refine ⟨rfl,?_⟩
 refine CW.anyJ2 (fc := [(0, (bo 0), [.string s.text, .int .i64 s.at_, .bool s.bad])]) (L0 := [(0, .obj (bo 0) ((scan.c s).map .r))]) 35 (fun (go1_8_1 : (Nat → Nat → Value)) => [(3, I ((rdVar s.text s.at_).1)), (4, I ((rdVar s.text s.at_).2.1)), (5, Bo ((rdVar s.text s.at_).2.2))]) (fun all hall f hf b0 hb K hK => ?_) ?_
 ·skip
  have ro1_9 : ∀ B, ∀ (go1_8_1 : Nat → Nat → Value), RA f E B all 0 (bt 16 65535) ⟨35, [(3, I ((rdVar s.text s.at_).1)), (4, I ((rdVar s.text s.at_).2.1)), (5, Bo ((rdVar s.text s.at_).2.2))] ++ b0⟩ K := by
   intro B go1_8_1
   exact RA.of2 hall hf hb (RA.finH (Tell.of rfl) (by kernel_rfl) (hK go1_8_1 _ rfl (Le.of rfl)))
  have ro1_8 : ∀ B, ∀ (go1_8_1 : Nat → Nat → Value), RA f E B all 2 (bt 16 28671) ⟨35, [(3, I ((rdVar s.text s.at_).1)), (4, I ((rdVar s.text s.at_).2.1)), (6, .tup [.u, .u, Bo ((rdVar s.text s.at_).2.2)])] ++ b0⟩ K := by
   intro B go1_8_1
   refine RA.of2 hall hf hb (RA.stepH (L := [12]) (Tell.of rfl) (by kernel_rfl) (by simp) (RA.each ?_ (RA.each0)))
   ·skip
    refine RO.extract (d := Bo ((rdVar s.text s.at_).2.2)) rfl rfl rfl rfl rfl (by decide) (Nat.le_of_ble_eq_true rfl) rfl rfl ?_
    refine RA.fr XK 35 0 [15] (bt 16 65535) rfl rfl (by kernel_rfl) (Tell.of rfl) ?_
    (conv=>whnf);refine ⟨rfl,fun B=>?_⟩
    exact RA.to2 hall hf hb (ro1_9 B go1_8_1) rfl rfl (by kernel_rfl)
  have ro1_7 : ∀ B, ∀ (go1_8_1 : Nat → Nat → Value), RA f E B all 3 (bt 16 14335) ⟨35, [(3, I ((rdVar s.text s.at_).1)), (6, .tup [.u, I ((rdVar s.text s.at_).2.1), .u]), (18, Bo ((rdVar s.text s.at_).2.2))] ++ b0⟩ K := by
   intro B go1_8_1
   refine RA.of2 hall hf hb (RA.stepH (L := [11]) (Tell.of rfl) (by kernel_rfl) (by simp) (RA.each ?_ (RA.each0)))
   ·skip
    refine RO.extract (d := I ((rdVar s.text s.at_).2.1)) rfl rfl rfl rfl rfl (by decide) (Nat.le_of_ble_eq_true rfl) rfl rfl ?_
    refine RA.fr XK 35 0 [14,15] (bt 16 65535) rfl rfl (by kernel_rfl) (Tell.of rfl) ?_
    (conv=>whnf);refine ⟨rfl,fun B=>?_⟩
    exact RA.to2 hall hf hb (ro1_9 B go1_8_1) rfl rfl (by kernel_rfl)
  have ro1_6 : ∀ B, ∀ (go1_8_1 : Nat → Nat → Value), RA f E B all 4 (bt 16 7167) ⟨35, [(6, .tup [I ((rdVar s.text s.at_).1), .u, .u]), (17, I ((rdVar s.text s.at_).2.1)), (18, Bo ((rdVar s.text s.at_).2.2))] ++ b0⟩ K := by
   intro B go1_8_1
   refine RA.of2 hall hf hb (RA.stepH (L := [10]) (Tell.of rfl) (by kernel_rfl) (by simp) (RA.each ?_ (RA.each0)))
   ·skip
    refine RO.extract (d := I ((rdVar s.text s.at_).1)) rfl rfl rfl rfl rfl (by decide) (Nat.le_of_ble_eq_true rfl) rfl rfl ?_
    refine RA.fr XK 35 0 [13,14,15] (bt 16 65535) rfl rfl (by kernel_rfl) (Tell.of rfl) ?_
    (conv=>whnf);refine ⟨rfl,fun B=>?_⟩
    exact RA.to2 hall hf hb (ro1_9 B go1_8_1) rfl rfl (by kernel_rfl)
  have ro1_5 : ∀ B, ∀ (go1_8_1 : Nat → Nat → Value), RA f E B all 4 (bt 16 10239) ⟨35, [(3, I ((rdVar s.text s.at_).1)), (6, .tup [.u, I ((rdVar s.text s.at_).2.1), Bo ((rdVar s.text s.at_).2.2)])] ++ b0⟩ K := by
   intro B go1_8_1
   refine RA.of2 hall hf hb (RA.stepH (L := [11, 12]) (Tell.of rfl) (by kernel_rfl) (by simp) (RA.each ?_ (RA.each ?_ (RA.each0))))
   ·skip
    refine RO.extract (d := I ((rdVar s.text s.at_).2.1)) rfl rfl rfl rfl rfl (by decide) (Nat.le_of_ble_eq_true rfl) rfl rfl ?_
    refine RA.fr XK 35 2 [14] (bt 16 28671) rfl rfl (by kernel_rfl) (Tell.of rfl) ?_
    (conv=>whnf);refine ⟨rfl,fun B=>?_⟩
    exact RA.to2 hall hf hb (ro1_8 B go1_8_1) rfl rfl (by kernel_rfl)
   ·skip
    refine RO.extract (d := Bo ((rdVar s.text s.at_).2.2)) rfl rfl rfl rfl rfl (by decide) (Nat.le_of_ble_eq_true rfl) rfl rfl ?_
    exact RA.to2 hall hf hb (ro1_7 B go1_8_1) rfl rfl (by kernel_rfl)
  have ro1_4 : ∀ B, ∀ (go1_8_1 : Nat → Nat → Value), RA f E B all 5 (bt 16 5119) ⟨35, [(6, .tup [I ((rdVar s.text s.at_).1), I ((rdVar s.text s.at_).2.1), .u]), (18, Bo ((rdVar s.text s.at_).2.2))] ++ b0⟩ K := by
   intro B go1_8_1
   refine RA.of2 hall hf hb (RA.stepH (L := [10, 11]) (Tell.of rfl) (by kernel_rfl) (by simp) (RA.each ?_ (RA.each ?_ (RA.each0))))
   ·skip
    refine RO.extract (d := I ((rdVar s.text s.at_).1)) rfl rfl rfl rfl rfl (by decide) (Nat.le_of_ble_eq_true rfl) rfl rfl ?_
    refine RA.fr XK 35 3 [13] (bt 16 14335) rfl rfl (by kernel_rfl) (Tell.of rfl) ?_
    (conv=>whnf);refine ⟨rfl,fun B=>?_⟩
    exact RA.to2 hall hf hb (ro1_7 B go1_8_1) rfl rfl (by kernel_rfl)
   ·skip
    refine RO.extract (d := I ((rdVar s.text s.at_).2.1)) rfl rfl rfl rfl rfl (by decide) (Nat.le_of_ble_eq_true rfl) rfl rfl ?_
    exact RA.to2 hall hf hb (ro1_6 B go1_8_1) rfl rfl (by kernel_rfl)
  have ro1_3 : ∀ B, ∀ (go1_8_1 : Nat → Nat → Value), RA f E B all 5 (bt 16 3071) ⟨35, [(6, .tup [I ((rdVar s.text s.at_).1), .u, Bo ((rdVar s.text s.at_).2.2)]), (17, I ((rdVar s.text s.at_).2.1))] ++ b0⟩ K := by
   intro B go1_8_1
   refine RA.of2 hall hf hb (RA.stepH (L := [10, 12]) (Tell.of rfl) (by kernel_rfl) (by simp) (RA.each ?_ (RA.each ?_ (RA.each0))))
   ·skip
    refine RO.extract (d := I ((rdVar s.text s.at_).1)) rfl rfl rfl rfl rfl (by decide) (Nat.le_of_ble_eq_true rfl) rfl rfl ?_
    refine RA.fr XK 35 2 [13,14] (bt 16 28671) rfl rfl (by kernel_rfl) (Tell.of rfl) ?_
    (conv=>whnf);refine ⟨rfl,fun B=>?_⟩
    exact RA.to2 hall hf hb (ro1_8 B go1_8_1) rfl rfl (by kernel_rfl)
   ·skip
    refine RO.extract (d := Bo ((rdVar s.text s.at_).2.2)) rfl rfl rfl rfl rfl (by decide) (Nat.le_of_ble_eq_true rfl) rfl rfl ?_
    exact RA.to2 hall hf hb (ro1_6 B go1_8_1) rfl rfl (by kernel_rfl)
  have ro1_2 : ∀ B, ∀ (go1_8_1 : Nat → Nat → Value), RA f E B all 6 (bt 16 1023) ⟨35, [(6, .tup [I ((rdVar s.text s.at_).1), I ((rdVar s.text s.at_).2.1), Bo ((rdVar s.text s.at_).2.2)])] ++ b0⟩ K := by
   intro B go1_8_1
   refine RA.of2 hall hf hb (RA.stepH (L := [10, 11, 12]) (Tell.of rfl) (by kernel_rfl) (by simp) (RA.each ?_ (RA.each ?_ (RA.each ?_ (RA.each0)))))
   ·skip
    refine RO.extract (d := I ((rdVar s.text s.at_).1)) rfl rfl rfl rfl rfl (by decide) (Nat.le_of_ble_eq_true rfl) rfl rfl ?_
    refine RA.fr XK 35 4 [13] (bt 16 10239) rfl rfl (by kernel_rfl) (Tell.of rfl) ?_
    (conv=>whnf);refine ⟨rfl,fun B=>?_⟩
    exact RA.to2 hall hf hb (ro1_5 B go1_8_1) rfl rfl (by kernel_rfl)
   ·skip
    refine RO.extract (d := I ((rdVar s.text s.at_).2.1)) rfl rfl rfl rfl rfl (by decide) (Nat.le_of_ble_eq_true rfl) rfl rfl ?_
    exact RA.to2 hall hf hb (ro1_3 B go1_8_1) rfl rfl (by kernel_rfl)
   ·skip
    refine RO.extract (d := Bo ((rdVar s.text s.at_).2.2)) rfl rfl rfl rfl rfl (by decide) (Nat.le_of_ble_eq_true rfl) rfl rfl ?_
    exact RA.to2 hall hf hb (ro1_4 B go1_8_1) rfl rfl (by kernel_rfl)
  have ro1_1 : ∀ B, ∀ (go1_8_1 : Nat → Nat → Value), RA f E B all 7 (bt 16 511) ⟨35, [(15, .tup [I ((rdVar s.text s.at_).1), I ((rdVar s.text s.at_).2.1), Bo ((rdVar s.text s.at_).2.2)])] ++ b0⟩ K := by
   intro B go1_8_1
   refine RA.of2 hall hf hb (RA.stepH (L := [9]) (Tell.of rfl) (by kernel_rfl) (by simp) (RA.each ?_ (RA.each0)))
   ·skip
    refine RO.moveMove rfl rfl rfl rfl rfl (by decide) (Nat.le_of_ble_eq_true rfl) (Nat.le_of_ble_eq_true rfl) ?_
    exact RA.to2 hall hf hb (ro1_2 B go1_8_1) rfl rfl (by kernel_rfl)
  have ro1_0 : ∀ B, RA f E B all 8 (bt 16 255) ⟨35, [(10, S s.text), (14, I s.at_)] ++ b0⟩ K := by
   intro B
   refine RA.of2 hall hf hb (RA.stepH (L := [8]) (Tell.of rfl) (by kernel_rfl) (by simp) (RA.each ?_ (RA.each0)))
   ·skip
    refine RO.call rfl rfl (impl_ReadVar_fn s.text s.at_ hs.2.2) rfl (.cons (.one (.r .r)) (.cons (.one (.r .r)) (.nil))) rfl fun go1_8_1 => ?_
    exact RA.to2 hall hf hb (ro1_1 B go1_8_1) rfl rfl (by kernel_rfl)
  refine RA.start (by kernel_rfl) (by kernel_rfl) (m := 16) (ls' := (bt 16 0)) ?_
  refine RA.fr XK 35 8 [0,1,2,3,4,5,6,7] (bt 16 255) rfl rfl (by kernel_rfl) (Tell.of rfl) ?_
  (conv=>whnf);refine ⟨rfl,fun B=>?_⟩
  exact RA.to2 hall hf hb (ro1_0 B) rfl rfl (by kernel_rfl)
 ·rintro go1_8_1
  refine CW.seq ?_
  refine CW.seqJ 35 (fun (v2 : Bool) => [(0, .obj (bo 0) ((scan.c s).map .r)), (3, I ((rdVar s.text s.at_).1)), (4, I ((rdVar s.text s.at_).2.1)), (26, Bo v2)]) (fun v2 => v2 = (s.bad || (!((rdVar s.text s.at_).2.2)))) ?_ ?_
  ·refine CW.region ?_
   refine RW.k XK 35 5 rfl ?_
   (conv=>whnf);refine ⟨rfl,?_⟩
   refine RW.gv rfl rfl rfl rfl (fun h3 => V.mv (d := Bo ((rdVar s.text s.at_).2.2)) rfl rfl) (fun h3 => ?_) (fun h3 => ?_)
   ·skip
    refine RW.k XK 35 2 rfl ?_
    (conv=>whnf);refine ⟨rfl,?_⟩
    refine RW.nil ?_
    exact ⟨_, by first | rfl | (simp_all; done) | (simp_all; omega) | grind, rfl, Le.of rfl⟩
   ·skip
    refine RW.k XK 35 2 rfl ?_
    (conv=>whnf);refine ⟨rfl,?_⟩
    refine RW.nil ?_
    exact ⟨_, by first | rfl | (simp_all; done) | (simp_all; omega) | grind, rfl, Le.of rfl⟩
  ·intro v2 hv4
   refine CW.cond rfl (fun h5 => ?_) (fun h5 => ?_)
   ·skip
    have hvv := hv4.symm.trans h5
    refine CW.k XK 35 2 [0,2] rfl ?_
    (conv=>whnf);refine ⟨rfl,?_⟩
    refine CW.ret ?_
    exact Post.one (RV.i rfl (by simp only [numV]; rw [scNum, if_pos hvv])) (AOs.obE (f := fun e => (scan.c e).map .r) (e' := (⟨s.text, s.at_, true⟩ : scan)) rfl (DT.r (DT.r (DT.r DT.e))) (by simp only [numS]; rw [scNum, if_pos hvv]) AOs.e)
   ·skip
    have hvv := hv4.symm.trans h5
    refine CW.skip ?_
    refine CW.keep 35 [0,3,4] rfl ?_;(conv=>whnf);refine ⟨?_⟩
    refine CW.k XK 35 2 [0,2] rfl ?_
    (conv=>whnf);refine ⟨rfl,?_⟩
    refine CW.ret ?_
    exact Post.one (RV.i rfl (by simp only [numV]; rw [scNum, if_neg (by rw [hvv]; simp)])) (AOs.obE (f := fun e => (scan.c e).map .r) (e' := (⟨s.text, ((rdVar s.text s.at_).2.1), s.bad⟩ : scan)) rfl (DT.r (DT.r (DT.r DT.e))) (by simp only [numS]; rw [scNum, if_neg (by rw [hvv]; simp), (Bool.or_eq_false_iff.1 hvv).1]) AOs.e)
set_option maxHeartbeats 4000000 in
theorem __impl_scan__short_fn (s : scan) (hs : s.ok) : Eng.Fn E.P 27 [.ob ((scan.c s).map .r)] (.one (.one (.w (.v (.string (shV s)))))) [.ob ((scan.c (shS s)).map .r)] := by
 refine Eng.Fn.intro (E := E) (rvs := [.tmp 2]) Try.func27 rfl rfl rfl (by simp [outSlots, moved, rvSlot, sl]) ?_
 intro B g bo
 refine CW.keep 35 [0] rfl ?_;(conv=>whnf);refine ⟨?_⟩
 refine CW.k XK 35 1 [0] rfl ?_
 (conv=>whnf);refine ⟨rfl,?_⟩
 refine CW.anyJ2 (fc := [(0, (bo 0), [.string s.text, .int .i64 s.at_, .bool s.bad])]) (L0 := [(0, .obj (bo 0) ((scan.c s).map .r))]) 35 (fun (go1_8_1 : (Nat → Nat → Value)) => [(3, S ((rdShort s.text s.at_).1)), (4, I ((rdShort s.text s.at_).2.1)), (5, Bo ((rdShort s.text s.at_).2.2))]) (fun all hall f hf b0 hb K hK => ?_) ?_
 ·skip
  have ro1_9 : ∀ B, ∀ (go1_8_1 : Nat → Nat → Value), RA f E B all 0 (bt 16 65535) ⟨35, [(3, S ((rdShort s.text s.at_).1)), (4, I ((rdShort s.text s.at_).2.1)), (5, Bo ((rdShort s.text s.at_).2.2))] ++ b0⟩ K := by
   intro B go1_8_1
   exact RA.of2 hall hf hb (RA.finH (Tell.of rfl) (by kernel_rfl) (hK go1_8_1 _ rfl (Le.of rfl)))
  have ro1_8 : ∀ B, ∀ (go1_8_1 : Nat → Nat → Value), RA f E B all 2 (bt 16 28671) ⟨35, [(3, S ((rdShort s.text s.at_).1)), (4, I ((rdShort s.text s.at_).2.1)), (6, .tup [.u, .u, Bo ((rdShort s.text s.at_).2.2)])] ++ b0⟩ K := by
   intro B go1_8_1
   refine RA.of2 hall hf hb (RA.stepH (L := [12]) (Tell.of rfl) (by kernel_rfl) (by simp) (RA.each ?_ (RA.each0)))
   ·skip
    refine RO.extract (d := Bo ((rdShort s.text s.at_).2.2)) rfl rfl rfl rfl rfl (by decide) (Nat.le_of_ble_eq_true rfl) rfl rfl ?_
    refine RA.fr XK 35 0 [15] (bt 16 65535) rfl rfl (by kernel_rfl) (Tell.of rfl) ?_
    (conv=>whnf);refine ⟨rfl,fun B=>?_⟩
    exact RA.to2 hall hf hb (ro1_9 B go1_8_1) rfl rfl (by kernel_rfl)
  have ro1_7 : ∀ B, ∀ (go1_8_1 : Nat → Nat → Value), RA f E B all 3 (bt 16 14335) ⟨35, [(3, S ((rdShort s.text s.at_).1)), (6, .tup [.u, I ((rdShort s.text s.at_).2.1), .u]), (18, Bo ((rdShort s.text s.at_).2.2))] ++ b0⟩ K := by
   intro B go1_8_1
   refine RA.of2 hall hf hb (RA.stepH (L := [11]) (Tell.of rfl) (by kernel_rfl) (by simp) (RA.each ?_ (RA.each0)))
   ·skip
    refine RO.extract (d := I ((rdShort s.text s.at_).2.1)) rfl rfl rfl rfl rfl (by decide) (Nat.le_of_ble_eq_true rfl) rfl rfl ?_
    refine RA.fr XK 35 0 [14,15] (bt 16 65535) rfl rfl (by kernel_rfl) (Tell.of rfl) ?_
    (conv=>whnf);refine ⟨rfl,fun B=>?_⟩
    exact RA.to2 hall hf hb (ro1_9 B go1_8_1) rfl rfl (by kernel_rfl)
  have ro1_6 : ∀ B, ∀ (go1_8_1 : Nat → Nat → Value), RA f E B all 4 (bt 16 7167) ⟨35, [(6, .tup [S ((rdShort s.text s.at_).1), .u, .u]), (17, I ((rdShort s.text s.at_).2.1)), (18, Bo ((rdShort s.text s.at_).2.2))] ++ b0⟩ K := by
   intro B go1_8_1
   refine RA.of2 hall hf hb (RA.stepH (L := [10]) (Tell.of rfl) (by kernel_rfl) (by simp) (RA.each ?_ (RA.each0)))
   ·skip
    refine RO.extract (d := S ((rdShort s.text s.at_).1)) rfl rfl rfl rfl rfl (by decide) (Nat.le_of_ble_eq_true rfl) rfl rfl ?_
    refine RA.fr XK 35 0 [13,14,15] (bt 16 65535) rfl rfl (by kernel_rfl) (Tell.of rfl) ?_
    (conv=>whnf);refine ⟨rfl,fun B=>?_⟩
    exact RA.to2 hall hf hb (ro1_9 B go1_8_1) rfl rfl (by kernel_rfl)
  have ro1_5 : ∀ B, ∀ (go1_8_1 : Nat → Nat → Value), RA f E B all 4 (bt 16 10239) ⟨35, [(3, S ((rdShort s.text s.at_).1)), (6, .tup [.u, I ((rdShort s.text s.at_).2.1), Bo ((rdShort s.text s.at_).2.2)])] ++ b0⟩ K := by
   intro B go1_8_1
   refine RA.of2 hall hf hb (RA.stepH (L := [11, 12]) (Tell.of rfl) (by kernel_rfl) (by simp) (RA.each ?_ (RA.each ?_ (RA.each0))))
   ·skip
    refine RO.extract (d := I ((rdShort s.text s.at_).2.1)) rfl rfl rfl rfl rfl (by decide) (Nat.le_of_ble_eq_true rfl) rfl rfl ?_
    refine RA.fr XK 35 2 [14] (bt 16 28671) rfl rfl (by kernel_rfl) (Tell.of rfl) ?_
    (conv=>whnf);refine ⟨rfl,fun B=>?_⟩
    exact RA.to2 hall hf hb (ro1_8 B go1_8_1) rfl rfl (by kernel_rfl)
   ·skip
    refine RO.extract (d := Bo ((rdShort s.text s.at_).2.2)) rfl rfl rfl rfl rfl (by decide) (Nat.le_of_ble_eq_true rfl) rfl rfl ?_
    exact RA.to2 hall hf hb (ro1_7 B go1_8_1) rfl rfl (by kernel_rfl)
  have ro1_4 : ∀ B, ∀ (go1_8_1 : Nat → Nat → Value), RA f E B all 5 (bt 16 5119) ⟨35, [(6, .tup [S ((rdShort s.text s.at_).1), I ((rdShort s.text s.at_).2.1), .u]), (18, Bo ((rdShort s.text s.at_).2.2))] ++ b0⟩ K := by
   intro B go1_8_1
   refine RA.of2 hall hf hb (RA.stepH (L := [10, 11]) (Tell.of rfl) (by kernel_rfl) (by simp) (RA.each ?_ (RA.each ?_ (RA.each0))))
   ·skip
    refine RO.extract (d := S ((rdShort s.text s.at_).1)) rfl rfl rfl rfl rfl (by decide) (Nat.le_of_ble_eq_true rfl) rfl rfl ?_
    refine RA.fr XK 35 3 [13] (bt 16 14335) rfl rfl (by kernel_rfl) (Tell.of rfl) ?_
    (conv=>whnf);refine ⟨rfl,fun B=>?_⟩
    exact RA.to2 hall hf hb (ro1_7 B go1_8_1) rfl rfl (by kernel_rfl)
   ·skip
    refine RO.extract (d := I ((rdShort s.text s.at_).2.1)) rfl rfl rfl rfl rfl (by decide) (Nat.le_of_ble_eq_true rfl) rfl rfl ?_
    exact RA.to2 hall hf hb (ro1_6 B go1_8_1) rfl rfl (by kernel_rfl)
  have ro1_3 : ∀ B, ∀ (go1_8_1 : Nat → Nat → Value), RA f E B all 5 (bt 16 3071) ⟨35, [(6, .tup [S ((rdShort s.text s.at_).1), .u, Bo ((rdShort s.text s.at_).2.2)]), (17, I ((rdShort s.text s.at_).2.1))] ++ b0⟩ K := by
   intro B go1_8_1
   refine RA.of2 hall hf hb (RA.stepH (L := [10, 12]) (Tell.of rfl) (by kernel_rfl) (by simp) (RA.each ?_ (RA.each ?_ (RA.each0))))
   ·skip
    refine RO.extract (d := S ((rdShort s.text s.at_).1)) rfl rfl rfl rfl rfl (by decide) (Nat.le_of_ble_eq_true rfl) rfl rfl ?_
    refine RA.fr XK 35 2 [13,14] (bt 16 28671) rfl rfl (by kernel_rfl) (Tell.of rfl) ?_
    (conv=>whnf);refine ⟨rfl,fun B=>?_⟩
    exact RA.to2 hall hf hb (ro1_8 B go1_8_1) rfl rfl (by kernel_rfl)
   ·skip
    refine RO.extract (d := Bo ((rdShort s.text s.at_).2.2)) rfl rfl rfl rfl rfl (by decide) (Nat.le_of_ble_eq_true rfl) rfl rfl ?_
    exact RA.to2 hall hf hb (ro1_6 B go1_8_1) rfl rfl (by kernel_rfl)
  have ro1_2 : ∀ B, ∀ (go1_8_1 : Nat → Nat → Value), RA f E B all 6 (bt 16 1023) ⟨35, [(6, .tup [S ((rdShort s.text s.at_).1), I ((rdShort s.text s.at_).2.1), Bo ((rdShort s.text s.at_).2.2)])] ++ b0⟩ K := by
   intro B go1_8_1
   refine RA.of2 hall hf hb (RA.stepH (L := [10, 11, 12]) (Tell.of rfl) (by kernel_rfl) (by simp) (RA.each ?_ (RA.each ?_ (RA.each ?_ (RA.each0)))))
   ·skip
    refine RO.extract (d := S ((rdShort s.text s.at_).1)) rfl rfl rfl rfl rfl (by decide) (Nat.le_of_ble_eq_true rfl) rfl rfl ?_
    refine RA.fr XK 35 4 [13] (bt 16 10239) rfl rfl (by kernel_rfl) (Tell.of rfl) ?_
    (conv=>whnf);refine ⟨rfl,fun B=>?_⟩
    exact RA.to2 hall hf hb (ro1_5 B go1_8_1) rfl rfl (by kernel_rfl)
   ·skip
    refine RO.extract (d := I ((rdShort s.text s.at_).2.1)) rfl rfl rfl rfl rfl (by decide) (Nat.le_of_ble_eq_true rfl) rfl rfl ?_
    exact RA.to2 hall hf hb (ro1_3 B go1_8_1) rfl rfl (by kernel_rfl)
   ·skip
    refine RO.extract (d := Bo ((rdShort s.text s.at_).2.2)) rfl rfl rfl rfl rfl (by decide) (Nat.le_of_ble_eq_true rfl) rfl rfl ?_
    exact RA.to2 hall hf hb (ro1_4 B go1_8_1) rfl rfl (by kernel_rfl)
  have ro1_1 : ∀ B, ∀ (go1_8_1 : Nat → Nat → Value), RA f E B all 7 (bt 16 511) ⟨35, [(15, .tup [S ((rdShort s.text s.at_).1), I ((rdShort s.text s.at_).2.1), Bo ((rdShort s.text s.at_).2.2)])] ++ b0⟩ K := by
   intro B go1_8_1
   refine RA.of2 hall hf hb (RA.stepH (L := [9]) (Tell.of rfl) (by kernel_rfl) (by simp) (RA.each ?_ (RA.each0)))
   ·skip
    refine RO.moveMove rfl rfl rfl rfl rfl (by decide) (Nat.le_of_ble_eq_true rfl) (Nat.le_of_ble_eq_true rfl) ?_
    exact RA.to2 hall hf hb (ro1_2 B go1_8_1) rfl rfl (by kernel_rfl)
  have ro1_0 : ∀ B, RA f E B all 8 (bt 16 255) ⟨35, [(10, S s.text), (14, I s.at_)] ++ b0⟩ K := by
   intro B
   refine RA.of2 hall hf hb (RA.stepH (L := [8]) (Tell.of rfl) (by kernel_rfl) (by simp) (RA.each ?_ (RA.each0)))
   ·skip
    refine RO.call rfl rfl (impl_ReadShort_fn s.text s.at_ hs.2.2) rfl (.cons (.one (.r .r)) (.cons (.one (.r .r)) (.nil))) rfl fun go1_8_1 => ?_
    exact RA.to2 hall hf hb (ro1_1 B go1_8_1) rfl rfl (by kernel_rfl)
  refine RA.start (by kernel_rfl) (by kernel_rfl) (m := 16) (ls' := (bt 16 0)) ?_
  refine RA.fr XK 35 8 [0,1,2,3,4,5,6,7] (bt 16 255) rfl rfl (by kernel_rfl) (Tell.of rfl) ?_
  (conv=>whnf);refine ⟨rfl,fun B=>?_⟩
  exact RA.to2 hall hf hb (ro1_0 B) rfl rfl (by kernel_rfl)
 ·rintro go1_8_1
  refine CW.seq ?_
  refine CW.seqJ 35 (fun (v2 : Bool) => [(0, .obj (bo 0) ((scan.c s).map .r)), (3, S ((rdShort s.text s.at_).1)), (4, I ((rdShort s.text s.at_).2.1)), (26, Bo v2)]) (fun v2 => v2 = (s.bad || (!((rdShort s.text s.at_).2.2)))) ?_ ?_
  ·refine CW.region ?_
   refine RW.k XK 35 5 rfl ?_
   (conv=>whnf);refine ⟨rfl,?_⟩
   refine RW.gv rfl rfl rfl rfl (fun h3 => V.mv (d := Bo ((rdShort s.text s.at_).2.2)) rfl rfl) (fun h3 => ?_) (fun h3 => ?_)
   ·skip
    refine RW.k XK 35 2 rfl ?_
    (conv=>whnf);refine ⟨rfl,?_⟩
    refine RW.nil ?_
    exact ⟨_, by first | rfl | (simp_all; done) | (simp_all; omega) | grind, rfl, Le.of rfl⟩
   ·skip
    refine RW.k XK 35 2 rfl ?_
    (conv=>whnf);refine ⟨rfl,?_⟩
    refine RW.nil ?_
    exact ⟨_, by first | rfl | (simp_all; done) | (simp_all; omega) | grind, rfl, Le.of rfl⟩
  ·intro v2 hv4
   refine CW.cond rfl (fun h5 => ?_) (fun h5 => ?_)
   ·skip
    have hvv := hv4.symm.trans h5
    refine CW.k XK 35 2 [0,2] rfl ?_
    (conv=>whnf);refine ⟨rfl,?_⟩
    refine CW.ret ?_
    exact Post.one (RV.s rfl (by simp only [shV]; rw [scShort, if_pos hvv])) (AOs.obE (f := fun e => (scan.c e).map .r) (e' := (⟨s.text, s.at_, true⟩ : scan)) rfl (DT.r (DT.r (DT.r DT.e))) (by simp only [shS]; rw [scShort, if_pos hvv]) AOs.e)
   ·skip
    have hvv := hv4.symm.trans h5
    refine CW.skip ?_
    refine CW.keep 35 [0,3,4] rfl ?_;(conv=>whnf);refine ⟨?_⟩
    refine CW.k XK 35 2 [0,2] rfl ?_
    (conv=>whnf);refine ⟨rfl,?_⟩
    refine CW.ret ?_
    exact Post.one (RV.s rfl (by simp only [shV]; rw [scShort, if_neg (by rw [hvv]; simp)])) (AOs.obE (f := fun e => (scan.c e).map .r) (e' := (⟨s.text, ((rdShort s.text s.at_).2.1), s.bad⟩ : scan)) rfl (DT.r (DT.r (DT.r DT.e))) (by simp only [shS]; rw [scShort, if_neg (by rw [hvv]; simp), (Bool.or_eq_false_iff.1 hvv).1]) AOs.e)
set_option maxHeartbeats 4000000 in
theorem __impl_scan__one_fn (s : scan) (hs : s.ok) : Eng.Fn E.P 23 [.ob ((scan.c s).map .r)] (.one (.one (.w (.v (.int .i64 (oneV s)))))) [.ob ((scan.c (oneS s)).map .r)] := by
 refine Eng.Fn.intro (E := E) (rvs := [.tmp 2]) Try.func23 rfl rfl rfl (by simp [outSlots, moved, rvSlot, sl]) ?_
 intro B g bo
 refine CW.keep 40 [0] rfl ?_;(conv=>whnf);refine ⟨?_⟩
 refine CW.k XK 40 1 [0] rfl ?_
 (conv=>whnf);refine ⟨rfl,?_⟩
 refine CW.seq ?_
 refine CW.seqJ 40 (fun (v1 : Bool) => [(0, .obj (bo 0) ((scan.c s).map .r)), (18, Bo v1)]) (fun v1 => v1 = (s.bad || decide (s.at_ ≥ (s.text.size : Int)))) ?_ ?_
 ·refine CW.drawn (by kernel_rfl) ?_
  refine RQ.k XK 40 5 rfl ?_
  (conv=>whnf);refine ⟨rfl,?_⟩
  refine RQ.gv rfl rfl rfl rfl (fun h2 => V.mv (d := .pt 0 (bo 0) 0) rfl rfl) (fun h2 => ?_) (fun h2 => ?_)
  ·skip
   refine RQ.k XK 40 10 rfl ?_
   (conv=>whnf);refine ⟨rfl,?_⟩
   refine RQ.nil ?_
   exact ⟨_, by first | rfl | (simp_all; done) | (simp_all; omega) | grind, rfl, Le.of rfl⟩
  ·skip
   refine RQ.k XK 40 10 rfl ?_
   (conv=>whnf);refine ⟨rfl,?_⟩
   refine RQ.nil ?_
   exact ⟨_, by first | rfl | (simp_all; done) | (simp_all; omega) | grind, rfl, Le.of rfl⟩
 ·intro v1 hv3
  refine CW.cond rfl (fun h4 => ?_) (fun h4 => ?_)
  ·skip
   have hvv := hv3.symm.trans h4
   refine CW.k XK 40 2 [0,2] rfl ?_
   (conv=>whnf);refine ⟨rfl,?_⟩
   refine CW.ret ?_
   exact Post.one (RV.i rfl (by simp only [oneV]; rw [scOne, if_pos hvv])) (AOs.obE (f := fun e => (scan.c e).map .r) (e' := (⟨s.text, s.at_, true⟩ : scan)) rfl (DT.r (DT.r (DT.r DT.e))) (by simp only [oneS]; rw [scOne, if_pos hvv]) AOs.e)
  ·skip
   have hvv := hv3.symm.trans h4
   refine CW.skip ?_
   refine CW.keep 40 [0] rfl ?_;(conv=>whnf);refine ⟨?_⟩
   refine CW.k XK 40 1 [0] rfl ?_
   (conv=>whnf);refine ⟨rfl,?_⟩
   refine CW.seq ?_
   refine CW.drawn (by kernel_rfl) ?_
   refine RQ.k XK 40 9 rfl ?_
   (conv=>whnf);refine ⟨rfl,?_⟩
   refine RQ.v rfl (V.idxStrZ (m := s.at_.toNat) rfl (by kernel_rfl) rfl rfl (one_ix hs) (one_lt hs hvv)) ?_
   refine RQ.k XK 40 2 rfl ?_
   (conv=>whnf);refine ⟨rfl,?_⟩
   refine RQ.nil ?_
   refine CW.keep 40 [0,2] rfl ?_;(conv=>whnf);refine ⟨?_⟩
   refine CW.ret ?_
   exact Post.one (RV.i rfl (by simp only [oneV]; rw [scOne, if_neg (by rw [hvv]; simp)])) (AOs.obE (f := fun e => (scan.c e).map .r) (e' := (⟨s.text, (IntKind.i64.wrap (s.at_ + 1)), s.bad⟩ : scan)) rfl (DT.r (DT.r (DT.r DT.e))) (by exact oneS_go hs hvv) AOs.e)
set_option maxHeartbeats 4000000 in
theorem __impl_scan__done_fn (s : scan) : Eng.Fn E.P 29 [.one (.r (.f none (scan.c s)))] (.one (.one (.w (.v (.bool (doneB s)))))) [.one (.r (.f none (scan.c s)))] := by
 refine Eng.Fn.intro (E := E) (rvs := [.tmp 2]) Try.func29 rfl rfl rfl (by simp [outSlots, moved, rvSlot, sl]) ?_
 intro B g bo
 refine CW.asRp 0 rfl ?_
 refine CW.keep 20 [0] rfl ?_;(conv=>whnf);refine ⟨?_⟩
 refine CW.k XK 20 1 [0] rfl ?_
 (conv=>whnf);refine ⟨rfl,?_⟩
 refine CW.seqJ 20 (fun (v1 : Bool) => [(2, Bo v1)]) (fun v1 => v1 = ((!s.bad) && (s.at_ == (s.text.size : Int)))) ?_ ?_
 ·refine CW.drawn (by kernel_rfl) ?_
  refine RQ.k XK 20 6 rfl ?_
  (conv=>whnf);refine ⟨rfl,?_⟩
  refine RQ.gv rfl rfl rfl rfl (fun h2 => V.mv (d := .rp (scan.c s)) rfl rfl) (fun h2 => ?_) (fun h2 => ?_)
  ·skip
   refine RQ.k XK 20 11 rfl ?_
   (conv=>whnf);refine ⟨rfl,?_⟩
   refine RQ.nil ?_
   exact ⟨_, by first | rfl | (simp_all; done) | (simp_all; omega) | grind, rfl, Le.of rfl⟩
  ·skip
   refine RQ.k XK 20 11 rfl ?_
   (conv=>whnf);refine ⟨rfl,?_⟩
   refine RQ.nil ?_
   exact ⟨_, by first | rfl | (simp_all; done) | (simp_all; omega) | grind, rfl, Le.of rfl⟩
 ·intro v1 hv3
  refine CW.ret ?_
  exact Post.one (RV.b rfl (by simp_all [doneB])) (AOs.r AOs.e)
set_option maxHeartbeats 4000000 in
theorem __impl_scan__sign_fn (s : scan) (hs : s.ok) : Eng.Fn E.P 25 [.ob ((scan.c s).map .r)] (.one (.one (.w (.v (.bool (sgV s)))))) [.ob ((scan.c (sgS s)).map .r)] := by
 refine Eng.Fn.intro (E := E) (rvs := [.tmp 2]) Try.func25 rfl rfl rfl (by simp [outSlots, moved, rvSlot, sl]) ?_
 intro B g bo
 refine CW.keep 13 [0] rfl ?_;(conv=>whnf);refine ⟨?_⟩
 refine CW.k XK 13 1 [0] rfl ?_
 (conv=>whnf);refine ⟨rfl,?_⟩
 refine CW.seq ?_
 refine CW.region ?_
 refine RW.k XK 13 1 rfl ?_
 (conv=>whnf);refine ⟨rfl,?_⟩
 refine RW.callP (k := 0) (__impl_scan__one_fn s hs) rfl rfl (Nat.le_of_ble_eq_true rfl) (by decide) rfl (DT.r (DT.r (DT.r DT.e))) (AsPs.here rfl (.nil)) fun g1 q2 => ?_
 refine RW.k XK 13 1 rfl ?_
 (conv=>whnf);refine ⟨rfl,?_⟩
 refine RW.nil ?_
 refine CW.keep 13 [0,3] rfl ?_;(conv=>whnf);refine ⟨?_⟩
 refine CW.seq ?_
 refine CW.k XK 13 1 [0,3,7] rfl ?_
 (conv=>whnf);refine ⟨rfl,?_⟩
 refine CW.cond rfl (fun h3 => ?_) (fun h3 => ?_)
 ·skip
  have hgt := h3
  refine CW.region ?_
  refine RW.k XK 13 4 rfl ?_
  (conv=>whnf);refine ⟨rfl,?_⟩
  refine RW.nil ?_
  refine CW.keep 13 [0,3] rfl ?_;(conv=>whnf);refine ⟨?_⟩
  refine CW.k XK 13 1 [0,2] rfl ?_
  (conv=>whnf);refine ⟨rfl,?_⟩
  refine CW.ret ?_
  exact Post.one (RV.b rfl (by rfl)) (AOs.obE (f := fun e => (scan.c e).map .r) (e' := (⟨(oneS s).text, (oneS s).at_, true⟩ : scan)) rfl (DT.r (DT.r (DT.r DT.e))) (by rw [sgS, hgt, Bool.or_true]; rfl) AOs.e)
 ·skip
  have hgt := h3
  refine CW.skip ?_
  refine CW.keep 13 [0,3] rfl ?_;(conv=>whnf);refine ⟨?_⟩
  refine CW.k XK 13 1 [0,2] rfl ?_
  (conv=>whnf);refine ⟨rfl,?_⟩
  refine CW.ret ?_
  exact Post.one (RV.b rfl (by rfl)) (AOs.obE (f := fun e => (scan.c e).map .r) (e' := (oneS s)) rfl (DT.r (DT.r (DT.r DT.e))) (by rw [sgS, hgt, Bool.or_false]; rfl) AOs.e)
set_option maxHeartbeats 4000000 in
theorem __impl_scan__count_fn (s : scan) (m : Int) (hs : s.ok) : Eng.Fn E.P 26 [.ob ((scan.c s).map .r), .one (.r (.v (.int .i64 m)))] (.one (.one (.w (.v (.int .i64 (cntV s m)))))) [.ob ((scan.c (cntS s m)).map .r), .one (.r (.v (.int .i64 m)))] := by
 refine Eng.Fn.intro (E := E) (rvs := [.tmp 4]) Try.func26 rfl rfl rfl (by simp [outSlots, moved, rvSlot, sl]) ?_
 intro B g bo
 refine CW.keep 15 [0,1] rfl ?_;(conv=>whnf);refine ⟨?_⟩
 refine CW.k XK 15 1 [0,1] rfl ?_
 (conv=>whnf);refine ⟨rfl,?_⟩
 refine CW.seq ?_
 refine CW.region ?_
 refine RW.k XK 15 1 rfl ?_
 (conv=>whnf);refine ⟨rfl,?_⟩
 refine RW.callP (k := 0) (__impl_scan__number_fn s hs) rfl rfl (Nat.le_of_ble_eq_true rfl) (by decide) rfl (DT.r (DT.r (DT.r DT.e))) (AsPs.here rfl (.nil)) fun g1 q2 => ?_
 refine RW.k XK 15 1 rfl ?_
 (conv=>whnf);refine ⟨rfl,?_⟩
 refine RW.nil ?_
 refine CW.keep 15 [0,1,5] rfl ?_;(conv=>whnf);refine ⟨?_⟩
 refine CW.seq ?_
 refine CW.k XK 15 1 [0,5,10] rfl ?_
 (conv=>whnf);refine ⟨rfl,?_⟩
 refine CW.cond rfl (fun h3 => ?_) (fun h3 => ?_)
 ·skip
  have hgt := h3
  refine CW.k XK 15 2 [0,4] rfl ?_
  (conv=>whnf);refine ⟨rfl,?_⟩
  refine CW.ret ?_
  exact Post.one (RV.i rfl (by rw [cntV, if_pos hgt])) (AOs.obE (f := fun e => (scan.c e).map .r) (e' := (⟨(numS s).text, (numS s).at_, true⟩ : scan)) rfl (DT.r (DT.r (DT.r DT.e))) (by rw [cntS, if_pos hgt]; rfl) (AOs.r AOs.e))
 ·skip
  have hgt := h3
  refine CW.skip ?_
  refine CW.keep 15 [0,5] rfl ?_;(conv=>whnf);refine ⟨?_⟩
  refine CW.k XK 15 1 [0,4] rfl ?_
  (conv=>whnf);refine ⟨rfl,?_⟩
  refine CW.ret ?_
  exact Post.one (RV.i rfl (by rw [cntV, if_neg (by rw [hgt]; simp)])) (AOs.obE (f := fun e => (scan.c e).map .r) (e' := (numS s)) rfl (DT.r (DT.r (DT.r DT.e))) (by rw [cntS, if_neg (by rw [hgt]; simp)]) (AOs.r AOs.e))
set_option maxHeartbeats 4000000 in
theorem __impl_scan__rest_fn (s : scan) (hs : s.ok) : Eng.Fn E.P 62 [.ob ((scan.c s).map .r)] (.one (.one (.w (.v (.string (rsV s)))))) [.ob ((scan.c (rsS s)).map .r)] := by
 refine Eng.Fn.intro (E := E) (rvs := [.tmp 2]) Try.func62 rfl rfl rfl (by simp [outSlots, moved, rvSlot, sl]) ?_
 intro B g bo
 refine CW.keep 26 [0] rfl ?_;(conv=>whnf);refine ⟨?_⟩
 refine CW.k XK 26 1 [0] rfl ?_
 (conv=>whnf);refine ⟨rfl,?_⟩
 refine CW.seq ?_
 refine CW.k XK 26 1 [0,7] rfl ?_
 (conv=>whnf);refine ⟨rfl,?_⟩
 refine CW.cond rfl (fun h1 => ?_) (fun h1 => ?_)
 ·skip
  have hbd := h1
  refine CW.k XK 26 1 [0,2] rfl ?_
  (conv=>whnf);refine ⟨rfl,?_⟩
  refine CW.ret ?_
  exact Post.one (RV.s rfl (by rw [rsV, if_pos hbd])) (AOs.obE (f := fun e => (scan.c e).map .r) (e' := s) rfl (DT.r (DT.r (DT.r DT.e))) (by rw [rsS, if_pos hbd]) AOs.e)
 ·skip
  have hbd := h1
  refine CW.skip ?_
  refine CW.keep 26 [0] rfl ?_;(conv=>whnf);refine ⟨?_⟩
  refine CW.seq ?_
  refine CW.drawn (by kernel_rfl) ?_
  refine RQ.k XK 26 8 rfl ?_
  (conv=>whnf);refine ⟨rfl,?_⟩
  refine RQ.v rfl (V.strSlice (l := s.at_) (h := (s.text.size : Int)) rfl (by kernel_rfl) rfl (.inr ⟨_, _, rfl, rfl⟩) (.inl ⟨rfl, rfl⟩) (by have h9 := hs.1; have h8 := hs.2.1; omega)) ?_
  refine RQ.k XK 26 1 rfl ?_
  (conv=>whnf);refine ⟨rfl,?_⟩
  refine RQ.nil ?_
  refine CW.keep 26 [0,3] rfl ?_;(conv=>whnf);refine ⟨?_⟩
  refine CW.k XK 26 2 [0,2] rfl ?_
  (conv=>whnf);refine ⟨rfl,?_⟩
  refine CW.ret ?_
  exact Post.one (RV.s rfl (by rw [rsV, if_neg (by rw [hbd]; simp)])) (AOs.obE (f := fun e => (scan.c e).map .r) (e' := (⟨s.text, (s.text.size : Int), s.bad⟩ : scan)) rfl (DT.r (DT.r (DT.r DT.e))) (by rw [rsS, if_neg (by rw [hbd]; simp)]) AOs.e)
end Go.Proofs.Ytmhnehgpmndiiaa.Y
