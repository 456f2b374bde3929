import Derived.Test.YtbiocicogminlaaPu
import Derived.Test.YtbiocicogminlaaProg
namespace Go.Proofs.Ytbiocicogminlaa.Y
open Go Go.RowKit Go.Eng Go.Proofs
def tl : List (Nat × TyI) := [
(3, ⟨1, 8, [.int .i64 0], .prim⟩),
(4, ⟨1, 1, [.bool false], .prim⟩),
(5, ⟨1, 1, [.int .u8 0], .prim⟩),
(9, ⟨1, 16, [.string ⟨#[]⟩], .prim⟩),
(24, ⟨1, 24, [.slice none 0 0], .slice 81⟩),
(34, ⟨1, 24, [.slice none 0 0], .slice 3⟩),
(44, ⟨3, 40, [.int .i64 0, .int .i64 0, .slice none 0 0], .agg [(0, 3, 1), (1, 3, 1), (2, 24, 1)]⟩),
(45, ⟨1, 24, [.slice none 0 0], .slice 98⟩),
(47, ⟨14, 176, [.int .i64 0, .int .i64 0, .int .i64 0, .int .i64 0, .int .i64 0, .slice none 0 0, .int .i64 0, .int .i64 0, .slice none 0 0, .int .i64 0, .int .i64 0, .int .i64 0, .slice none 0 0, .slice none 0 0], .agg [(0, 3, 1), (1, 3, 1), (2, 3, 1), (3, 3, 1), (4, 3, 1), (5, 34, 1), (6, 44, 3), (9, 3, 1), (10, 3, 1), (11, 3, 1), (12, 34, 1), (13, 45, 1)]⟩),
(60, ⟨1, 24, [.slice none 0 0], .slice 124⟩),
(68, ⟨1, 24, [.slice none 0 0], .slice 5⟩),
(81, ⟨3, 32, [.int .i64 0, .int .i64 0, .string ⟨#[]⟩], .agg [(0, 3, 1), (1, 3, 1), (2, 9, 1)]⟩),
(98, ⟨4, 32, [.int .i64 0, .int .i64 0, .int .i64 0, .int .i64 0], .agg [(0, 3, 1), (1, 3, 1), (2, 3, 1), (3, 3, 1)]⟩),
(124, ⟨12, 136, [.int .i64 0, .int .i64 0, .int .i64 0, .int .i64 0, .int .i64 0, .int .i64 0, .int .i64 0, .bool false, .slice none 0 0, .slice none 0 0, .string ⟨#[]⟩, .bool false], .agg [(0, 3, 1), (1, 3, 1), (2, 3, 1), (3, 3, 1), (4, 3, 1), (5, 3, 1), (6, 3, 1), (7, 4, 1), (8, 24, 1), (9, 34, 1), (10, 9, 1), (11, 4, 1)]⟩),
(150, ⟨3, 40, [.slice none 0 0, .int .i64 0, .int .i64 0], .agg [(0, 68, 1), (1, 3, 1), (2, 3, 1)]⟩)]
theorem tl_ok : ∀ p ∈ tl, tyI Try.prog p.1 = some p.2 := by
  refine List.forall_mem_cons.2 ⟨by kernel_rfl, ?_⟩
  refine List.forall_mem_cons.2 ⟨by kernel_rfl, ?_⟩
  refine List.forall_mem_cons.2 ⟨by kernel_rfl, ?_⟩
  refine List.forall_mem_cons.2 ⟨by kernel_rfl, ?_⟩
  refine List.forall_mem_cons.2 ⟨by kernel_rfl, ?_⟩
  refine List.forall_mem_cons.2 ⟨by kernel_rfl, ?_⟩
  refine List.forall_mem_cons.2 ⟨by kernel_rfl, ?_⟩
  refine List.forall_mem_cons.2 ⟨by kernel_rfl, ?_⟩
  refine List.forall_mem_cons.2 ⟨by kernel_rfl, ?_⟩
  refine List.forall_mem_cons.2 ⟨by kernel_rfl, ?_⟩
  refine List.forall_mem_cons.2 ⟨by kernel_rfl, ?_⟩
  refine List.forall_mem_cons.2 ⟨by kernel_rfl, ?_⟩
  refine List.forall_mem_cons.2 ⟨by kernel_rfl, ?_⟩
  refine List.forall_mem_cons.2 ⟨by kernel_rfl, ?_⟩
  refine List.forall_mem_cons.2 ⟨by kernel_rfl, ?_⟩
  exact fun _ h => by cases h
noncomputable def E : Env := ⟨Try.prog, lk tl, fun t i h => tl_ok (t, i) (lk_mem _ _ _ h), by kernel_rfl⟩
set_option maxHeartbeats 4000000 in
theorem impl_within_fn (n : Int) (x : Int) (y : Int) : Eng.Fn E.P 70 [.one (.r (.v (.int .i64 n))), .one (.r (.v (.int .i64 x))), .one (.r (.v (.int .i64 y)))] (.one (.one (.w (.v (.bool (inR n x y)))))) [.one (.r (.v (.int .i64 n))), .one (.r (.v (.int .i64 x))), .one (.r (.v (.int .i64 y)))] := by
 refine Eng.Fn.intro (E := E) (rvs := [.tmp 6]) Try.func70 rfl rfl rfl (by simp [outSlots, moved, rvSlot, sl]) ?_
 intro B g bo
 refine CW.le [(0, I n), (1, I x), (2, I y)] rfl (Le.of rfl) ?_
 refine CW.seq ?_
 refine CW.region ?_
 refine RW.v rfl (V.as (d := Bo false) rfl rfl) ?_
 refine RW.nil ?_
 refine CW.le [(0, I n), (1, I x), (2, I y)] rfl (Le.of rfl) ?_
 refine CW.seqJ 15 (fun (v1 : Bool) => [(6, Bo v1)]) (fun v1 => v1 = (decide (n ≥ x) && decide (n ≤ y))) ?_ ?_
 ·refine CW.region ?_
  refine RW.v rfl (V.mv (d := I n) rfl rfl) ?_
  refine RW.v rfl (V.mv (d := I x) rfl rfl) ?_
  refine RW.v rfl (V.cmpInt rfl rfl rfl rfl) ?_
  refine RW.v rfl (V.mv (d := Bo (decide (n ≥ x))) rfl rfl) ?_
  refine RW.gv rfl rfl rfl rfl (fun h2 => V.mv (d := I n) rfl rfl) (fun h2 => ?_) (fun h2 => ?_)
  ·skip
   refine RW.gt rfl rfl rfl rfl (V.mv (d := I y) rfl rfl) ?_
   refine RW.gt rfl rfl rfl rfl (V.cmpInt rfl rfl rfl rfl) ?_
   refine RW.v rfl (V.pickT (d := Bo (decide (n ≤ y))) rfl rfl rfl) ?_
   refine RW.v rfl (V.as (d := Bo (decide (n ≤ y))) rfl rfl) ?_
   refine RW.nil ?_
   exact ⟨_, by first | rfl | (simp_all; done) | (simp_all; omega) | grind, rfl, Le.c rfl <| Le.e⟩
  ·skip
   refine RW.guardF rfl rfl rfl rfl ?_
   refine RW.guardF rfl rfl rfl rfl ?_
   refine RW.v rfl (V.pickF (d := Bo false) rfl rfl rfl) ?_
   refine RW.v rfl (V.as (d := Bo false) rfl rfl) ?_
   refine RW.nil ?_
   exact ⟨_, by first | rfl | (simp_all; done) | (simp_all; omega) | grind, rfl, Le.c rfl <| Le.e⟩
 ·intro v1 hv3
  refine CW.ret ?_
  exact Post.one (RV.b rfl (by simp_all [inR])) (AOs.r (AOs.r (AOs.r AOs.e)))
set_option maxHeartbeats 4000000 in
theorem impl_isNode_fn (n : Int) : Eng.Fn E.P 66 [.one (.r (.v (.int .i64 n)))] (.one (.one (.w (.v (.bool (inR n 1 4)))))) [.one (.r (.v (.int .i64 n)))] := by
 refine Eng.Fn.intro (E := E) (rvs := [.tmp 2]) Try.func66 rfl rfl rfl (by simp [outSlots, moved, rvSlot, sl]) ?_
 intro B g bo
 refine CW.le [(0, I n)] rfl (Le.of rfl) ?_
 refine CW.seq ?_
 refine CW.region ?_
 refine RW.v rfl (V.as (d := Bo false) rfl rfl) ?_
 refine RW.nil ?_
 refine CW.le [(0, I n)] rfl (Le.of rfl) ?_
 refine CW.seq ?_
 refine CW.region ?_
 refine RW.v rfl (V.mv (d := I n) rfl rfl) ?_
 refine RW.call rfl (impl_within_fn n 1 4) rfl (.cons (.one (.r .r)) (.cons (.one (.r .r)) (.cons (.one (.r .r)) (.nil)))) fun g1 => ?_
 refine RW.v rfl (V.as (d := Bo (inR n 1 4)) rfl rfl) ?_
 refine RW.nil ?_
 refine CW.le [(2, Bo (inR n 1 4))] rfl (Le.of rfl) ?_
 refine CW.ret ?_
 exact Post.one (RV.b rfl (by rfl)) (AOs.r AOs.e)
set_option maxHeartbeats 4000000 in
theorem impl_nodesOk_fn (a : List Int) : Eng.Fn E.P 71 [.one (.r (sl 1 cI a))] (.one (.one (.w (.v (.bool (riseOk 1 4 none a)))))) [.one (.r (sl 1 cI a))] := by
 refine Eng.Fn.intro (E := E) (rvs := [.tmp 2]) Try.func71 rfl rfl rfl (by simp [outSlots, moved, rvSlot, sl]) ?_
 intro B g bo
 refine CW.bound (x := .tmp 0) (n := a.length) (AsT.r) (fun hl0 => ?_)
 refine CW.le [(0, .r (sl 1 cI a))] rfl (Le.of rfl) ?_
 refine CW.seq ?_
 refine CW.region ?_
 refine RW.v rfl (V.as (d := Bo false) rfl rfl) ?_
 refine RW.nil ?_
 refine CW.le [(0, .r (sl 1 cI a))] rfl (Le.of rfl) ?_
 refine CW.seq ?_
 refine CW.seq ?_
 refine CW.region ?_
 refine RW.v rfl (V.mv (d := .r (sl 1 cI a)) rfl rfl) ?_
 refine RW.v rfl (V.lenT (n := a.length) rfl rfl rfl .r) ?_
 refine RW.v rfl (V.mv (d := I 0) rfl rfl) ?_
 refine RW.nil ?_
 refine CW.le [(0, .r (sl 1 cI a)), (5, .r (sl 1 cI a)), (6, I (a.length : Int)), (7, I 0)] rfl (Le.of rfl) ?_
 refine CW.block ?_
 refine CW.loopI 29 (fun (i : Nat) => [(0, .r (sl 1 cI a)), (5, .r (sl 1 cI a)), (6, I (a.length : Int)), (7, I (i : Int))]) (fun (i : Nat) => i ≤ a.length ∧ riseOk 1 4 (prevI a i) (a.drop i) = riseOk 1 4 none a) (fun (i : Nat) => a.length - i) 0 rfl (Le.c rfl <| Le.c rfl <| Le.c rfl <| Le.c rfl <| Le.e) ⟨by omega, by simp [prevI]⟩ ?_
 rintro i ⟨hb, hr⟩
 refine CW.seq ?_
 refine CW.region ?_
 refine RW.v rfl (V.cmpInt rfl rfl rfl rfl) ?_
 refine RW.nil ?_
 refine CW.le [(0, .r (sl 1 cI a)), (5, .r (sl 1 cI a)), (6, I (a.length : Int)), (7, I (i : Int)), (8, Bo (decide ((i : Int) < (a.length : Int))))] rfl (Le.of rfl) ?_
 refine CW.seq ?_
 refine CW.cond rfl (fun h1 => ?_) (fun h1 => ?_)
 ·skip
  have hii : i < a.length := by have := h1; simp at this; first | exact this | omega | (simp; done) | (simp; omega)
  obtain ⟨ei, hei⟩ : ∃ e, a[i]? = some e := ⟨_, List.getElem?_eq_getElem hii⟩
  have hdi := drop_get hei
  refine CW.skip ?_
  refine CW.le [(0, .r (sl 1 cI a)), (5, .r (sl 1 cI a)), (6, I (a.length : Int)), (7, I (i : Int))] rfl (Le.of rfl) ?_
  refine CW.seq ?_
  refine CW.block ?_
  refine CW.seq ?_
  refine CW.region ?_
  refine RW.v rfl (V.mv (d := I (i : Int)) rfl rfl) ?_
  refine RW.v rfl (V.indexS rfl rfl rfl rfl rfl rfl cI.len hei) ?_
  refine RW.v rfl (V.loadPrimR (t0 := .v (.int .i64 ei)) rfl rfl (.inl rfl) rfl rfl) ?_
  refine RW.v rfl (V.as (d := I (i : Int)) rfl rfl) ?_
  refine RW.v rfl (V.as (d := I ei) rfl rfl) ?_
  refine RW.nil ?_
  refine CW.le [(0, .r (sl 1 cI a)), (3, I (i : Int)), (4, I ei), (5, .r (sl 1 cI a)), (6, I (a.length : Int)), (7, I (i : Int))] rfl (Le.of rfl) ?_
  refine CW.seqJ 29 (fun (v2 : Bool) => [(0, .r (sl 1 cI a)), (5, .r (sl 1 cI a)), (6, I (a.length : Int)), (7, I (i : Int)), (27, Bo v2)]) (fun v2 => v2 = ((!(inR ei 1 4)) || (decide ((i : Int) > 0) && decide ((a.getD (i - 1) 0) ≥ ei)))) ?_ ?_
  ·refine CW.region ?_
   refine RW.v rfl (V.mv (d := I ei) rfl rfl) ?_
   refine RW.call rfl (impl_isNode_fn ei) rfl (.cons (.one (.r .r)) (.nil)) fun g3 => ?_
   refine RW.v rfl (V.not rfl rfl) ?_
   refine RW.v rfl (V.mv (d := Bo (!(inR ei 1 4))) rfl rfl) ?_
   refine RW.gv rfl rfl rfl rfl (fun h4 => V.mv (d := I (i : Int)) rfl rfl) (fun h4 => ?_) (fun h4 => ?_)
   ·skip
    refine RW.gt rfl rfl rfl rfl (V.cmpInt rfl rfl rfl rfl) ?_
    refine RW.gt rfl rfl rfl rfl (V.mv (d := Bo (decide ((i : Int) > 0))) rfl rfl) ?_
    refine RW.gv rfl rfl rfl rfl (fun h5 => V.mv (d := .r (sl 1 cI a)) rfl rfl) (fun h5 => ?_) (fun h5 => ?_)
    ·skip
     refine RW.gt rfl rfl rfl rfl (V.mv (d := I (i : Int)) rfl rfl) ?_
     refine RW.gt rfl rfl rfl rfl (V.dec (m := i) rfl rfl rfl (by have := h5; simp at this; omega) (by omega)) ?_
     refine RW.gt rfl rfl rfl rfl (V.indexS rfl rfl rfl rfl rfl rfl cI.len (getD_some (l := a) (j := i - 1) (z := 0) (by omega))) ?_
     refine RW.gt rfl rfl rfl rfl (V.loadPrimR (t0 := .v (.int .i64 (a.getD (i - 1) 0))) rfl rfl (.inl rfl) rfl rfl) ?_
     refine RW.gt rfl rfl rfl rfl (V.mv (d := I ei) rfl rfl) ?_
     refine RW.gt rfl rfl rfl rfl (V.cmpInt rfl rfl rfl rfl) ?_
     refine RW.gt rfl rfl rfl rfl (V.pickT (d := Bo (decide ((a.getD (i - 1) 0) ≥ ei))) rfl rfl rfl) ?_
     refine RW.v rfl (V.pickF (d := Bo (decide ((a.getD (i - 1) 0) ≥ ei))) rfl rfl rfl) ?_
     refine RW.nil ?_
     exact ⟨_, by first | rfl | (simp_all; done) | (simp_all; omega) | grind, rfl, Le.c rfl <| Le.c rfl <| Le.c rfl <| Le.c rfl <| Le.c rfl <| Le.e⟩
    ·skip
     refine RW.guardF rfl rfl rfl rfl ?_
     refine RW.guardF rfl rfl rfl rfl ?_
     refine RW.guardF rfl rfl rfl rfl ?_
     refine RW.guardF rfl rfl rfl rfl ?_
     refine RW.guardF rfl rfl rfl rfl ?_
     refine RW.guardF rfl rfl rfl rfl ?_
     refine RW.gt rfl rfl rfl rfl (V.pickF (d := Bo false) rfl rfl rfl) ?_
     refine RW.v rfl (V.pickF (d := Bo false) rfl rfl rfl) ?_
     refine RW.nil ?_
     exact ⟨_, by first | rfl | (simp_all; done) | (simp_all; omega) | grind, rfl, Le.c rfl <| Le.c rfl <| Le.c rfl <| Le.c rfl <| Le.c rfl <| Le.e⟩
   ·skip
    refine RW.guardF rfl rfl rfl rfl ?_
    refine RW.guardF rfl rfl rfl rfl ?_
    refine RW.guardU rfl rfl rfl rfl ?_
    refine RW.guardU rfl rfl rfl rfl ?_
    refine RW.guardU rfl rfl rfl rfl ?_
    refine RW.guardU rfl rfl rfl rfl ?_
    refine RW.guardU rfl rfl rfl rfl ?_
    refine RW.guardU rfl rfl rfl rfl ?_
    refine RW.guardU rfl rfl rfl rfl ?_
    refine RW.guardF rfl rfl rfl rfl ?_
    refine RW.v rfl (V.pickT (d := Bo true) rfl rfl rfl) ?_
    refine RW.nil ?_
    exact ⟨_, by first | rfl | (simp_all; done) | (simp_all; omega) | grind, rfl, Le.c rfl <| Le.c rfl <| Le.c rfl <| Le.c rfl <| Le.c rfl <| Le.e⟩
  ·intro v2 hv6
   refine CW.cond rfl (fun h7 => ?_) (fun h7 => ?_)
   ·skip
    refine CW.seq ?_
    refine CW.region ?_
    refine RW.v rfl (V.as (d := Bo false) rfl rfl) ?_
    refine RW.nil ?_
    refine CW.le [(2, Bo false)] rfl (Le.of rfl) ?_
    refine CW.ret ?_
    exact Post.one (RV.b rfl (by rw [← hr, hdi, riseOk_cons]; grind [prevI])) (AOs.r AOs.e)
   ·skip
    refine CW.skip ?_
    refine CW.le [(0, .r (sl 1 cI a)), (5, .r (sl 1 cI a)), (6, I (a.length : Int)), (7, I (i : Int))] rfl (Le.of rfl) ?_
    refine CW.region ?_
    refine RW.v rfl (V.inc rfl rfl rfl hii hl0) ?_
    refine RW.v rfl (V.mv (d := I ((i + 1 : Nat) : Int)) rfl rfl) ?_
    refine RW.nil ?_
    exact ⟨i + 1, by omega, ⟨by omega, by rw [← hr, hdi, riseOk_cons, prevI_succ hei]; grind [prevI]⟩, rfl, Le.c rfl <| Le.c rfl <| Le.c rfl <| Le.c rfl <| Le.e⟩
 ·skip
  have hii : a.length ≤ i := by have := h1; simp at this; first | exact this | omega | (simp; done) | (simp; omega)
  have hdi : a.drop i = [] := List.drop_eq_nil_of_le hii
  refine CW.exit ?_
  refine CW.le [] rfl (Le.of rfl) ?_
  refine CW.seq ?_
  refine CW.region ?_
  refine RW.v rfl (V.as (d := Bo true) rfl rfl) ?_
  refine RW.nil ?_
  refine CW.le [(2, Bo true)] rfl (Le.of rfl) ?_
  refine CW.ret ?_
  exact Post.one (RV.b rfl (by rw [← hr, hdi, riseOk_nil])) (AOs.r AOs.e)
set_option maxHeartbeats 4000000 in
theorem impl_ConfOk_fn (a : List Int) : Eng.Fn E.P 67 [.one (.r (sl 1 cI a))] (.one (.one (.w (.v (.bool (confOk a)))))) [.one (.r (sl 1 cI a))] := by
 refine Eng.Fn.intro (E := E) (rvs := [.tmp 2]) Try.func67 rfl rfl rfl (by simp [outSlots, moved, rvSlot, sl]) ?_
 intro B g bo
 refine CW.bound (x := .tmp 0) (n := a.length) (AsT.r) (fun hl0 => ?_)
 refine CW.le [(0, .r (sl 1 cI a))] rfl (Le.of rfl) ?_
 refine CW.seq ?_
 refine CW.region ?_
 refine RW.v rfl (V.as (d := Bo false) rfl rfl) ?_
 refine RW.nil ?_
 refine CW.le [(0, .r (sl 1 cI a))] rfl (Le.of rfl) ?_
 refine CW.seqJ 10 (fun (v1 : Bool) => [(2, Bo v1)]) (fun v1 => v1 = (decide ((a.length : Int) > 0) && (riseOk 1 4 none a))) ?_ ?_
 ·refine CW.region ?_
  refine RW.v rfl (V.mv (d := .r (sl 1 cI a)) rfl rfl) ?_
  refine RW.v rfl (V.lenT (n := a.length) rfl rfl rfl .r) ?_
  refine RW.v rfl (V.cmpInt rfl rfl rfl rfl) ?_
  refine RW.v rfl (V.mv (d := Bo (decide ((a.length : Int) > 0))) rfl rfl) ?_
  refine RW.gv rfl rfl rfl rfl (fun h2 => V.mv (d := .r (sl 1 cI a)) rfl rfl) (fun h2 => ?_) (fun h2 => ?_)
  ·skip
   refine RW.gcall rfl rfl rfl rfl (impl_nodesOk_fn a) rfl (.cons (.one (.r .r)) (.nil)) fun g3 => ?_
   refine RW.v rfl (V.pickT (d := Bo (riseOk 1 4 none a)) rfl rfl rfl) ?_
   refine RW.v rfl (V.as (d := Bo (riseOk 1 4 none a)) rfl rfl) ?_
   refine RW.nil ?_
   exact ⟨_, by first | rfl | (simp_all; done) | (simp_all; omega) | grind, rfl, Le.c rfl <| Le.e⟩
  ·skip
   refine RW.guardF rfl rfl rfl rfl ?_
   refine RW.v rfl (V.pickF (d := Bo false) rfl rfl rfl) ?_
   refine RW.v rfl (V.as (d := Bo false) rfl rfl) ?_
   refine RW.nil ?_
   exact ⟨_, by first | rfl | (simp_all; done) | (simp_all; omega) | grind, rfl, Le.c rfl <| Le.e⟩
 ·intro v1 hv4
  refine CW.ret ?_
  exact Post.one (RV.b rfl (by (subst_vars; exact confOk_impl a))) (AOs.r AOs.e)
set_option maxHeartbeats 4000000 in
theorem impl_isIndex_fn (n : Int) : Eng.Fn E.P 119 [.one (.r (.v (.int .i64 n)))] (.one (.one (.w (.v (.bool (inR n 0 1000000)))))) [.one (.r (.v (.int .i64 n)))] := by
 refine Eng.Fn.intro (E := E) (rvs := [.tmp 2]) Try.func119 rfl rfl rfl (by simp [outSlots, moved, rvSlot, sl]) ?_
 intro B g bo
 refine CW.le [(0, I n)] rfl (Le.of rfl) ?_
 refine CW.seq ?_
 refine CW.region ?_
 refine RW.v rfl (V.as (d := Bo false) rfl rfl) ?_
 refine RW.nil ?_
 refine CW.le [(0, I n)] rfl (Le.of rfl) ?_
 refine CW.seq ?_
 refine CW.region ?_
 refine RW.v rfl (V.mv (d := I n) rfl rfl) ?_
 refine RW.call rfl (impl_within_fn n 0 1000000) rfl (.cons (.one (.r .r)) (.cons (.one (.r .r)) (.cons (.one (.r .r)) (.nil)))) fun g1 => ?_
 refine RW.v rfl (V.as (d := Bo (inR n 0 1000000)) rfl rfl) ?_
 refine RW.nil ?_
 refine CW.le [(2, Bo (inR n 0 1000000))] rfl (Le.of rfl) ?_
 refine CW.ret ?_
 exact Post.one (RV.b rfl (by rfl)) (AOs.r AOs.e)
set_option maxHeartbeats 4000000 in
theorem impl_isTerm_fn (n : Int) : Eng.Fn E.P 120 [.one (.r (.v (.int .i64 n)))] (.one (.one (.w (.v (.bool (inR n 0 100000)))))) [.one (.r (.v (.int .i64 n)))] := by
 refine Eng.Fn.intro (E := E) (rvs := [.tmp 2]) Try.func120 rfl rfl rfl (by simp [outSlots, moved, rvSlot, sl]) ?_
 intro B g bo
 refine CW.le [(0, I n)] rfl (Le.of rfl) ?_
 refine CW.seq ?_
 refine CW.region ?_
 refine RW.v rfl (V.as (d := Bo false) rfl rfl) ?_
 refine RW.nil ?_
 refine CW.le [(0, I n)] rfl (Le.of rfl) ?_
 refine CW.seq ?_
 refine CW.region ?_
 refine RW.v rfl (V.mv (d := I n) rfl rfl) ?_
 refine RW.call rfl (impl_within_fn n 0 100000) rfl (.cons (.one (.r .r)) (.cons (.one (.r .r)) (.cons (.one (.r .r)) (.nil)))) fun g1 => ?_
 refine RW.v rfl (V.as (d := Bo (inR n 0 100000)) rfl rfl) ?_
 refine RW.nil ?_
 refine CW.le [(2, Bo (inR n 0 100000))] rfl (Le.of rfl) ?_
 refine CW.ret ?_
 exact Post.one (RV.b rfl (by rfl)) (AOs.r AOs.e)
set_option maxHeartbeats 4000000 in
theorem impl_votesOk_fn (n : Int) (m : Int) : Eng.Fn E.P 69 [.one (.r (.v (.int .i64 n))), .one (.r (.v (.int .i64 m)))] (.one (.one (.w (.v (.bool (inR n 0 100000 && inR m 0 4)))))) [.one (.r (.v (.int .i64 n))), .one (.r (.v (.int .i64 m)))] := by
 refine Eng.Fn.intro (E := E) (rvs := [.tmp 4]) Try.func69 rfl rfl rfl (by simp [outSlots, moved, rvSlot, sl]) ?_
 intro B g bo
 refine CW.le [(0, I n), (1, I m)] rfl (Le.of rfl) ?_
 refine CW.seq ?_
 refine CW.region ?_
 refine RW.v rfl (V.as (d := Bo false) rfl rfl) ?_
 refine RW.nil ?_
 refine CW.le [(0, I n), (1, I m)] rfl (Le.of rfl) ?_
 refine CW.seqJ 11 (fun (v1 : Bool) => [(4, Bo v1)]) (fun v1 => v1 = ((inR n 0 100000) && (inR m 0 4))) ?_ ?_
 ·refine CW.region ?_
  refine RW.v rfl (V.mv (d := I n) rfl rfl) ?_
  refine RW.call rfl (impl_isTerm_fn n) rfl (.cons (.one (.r .r)) (.nil)) fun g2 => ?_
  refine RW.v rfl (V.mv (d := Bo (inR n 0 100000)) rfl rfl) ?_
  refine RW.gv rfl rfl rfl rfl (fun h3 => V.mv (d := I m) rfl rfl) (fun h3 => ?_) (fun h3 => ?_)
  ·skip
   refine RW.gcall rfl rfl rfl rfl (impl_within_fn m 0 4) rfl (.cons (.one (.r .r)) (.cons (.one (.r .r)) (.cons (.one (.r .r)) (.nil)))) fun g4 => ?_
   refine RW.v rfl (V.pickT (d := Bo (inR m 0 4)) rfl rfl rfl) ?_
   refine RW.v rfl (V.as (d := Bo (inR m 0 4)) rfl rfl) ?_
   refine RW.nil ?_
   exact ⟨_, by first | rfl | (simp_all; done) | (simp_all; omega) | grind, rfl, Le.c rfl <| Le.e⟩
  ·skip
   refine RW.guardF rfl rfl rfl rfl ?_
   refine RW.v rfl (V.pickF (d := Bo false) rfl rfl rfl) ?_
   refine RW.v rfl (V.as (d := Bo false) rfl rfl) ?_
   refine RW.nil ?_
   exact ⟨_, by first | rfl | (simp_all; done) | (simp_all; omega) | grind, rfl, Le.c rfl <| Le.e⟩
 ·intro v1 hv5
  refine CW.ret ?_
  exact Post.one (RV.b rfl (by simp_all)) (AOs.r (AOs.r AOs.e))
set_option maxHeartbeats 4000000 in
theorem impl_ReadConf_fn (s : ByteArray) (hm : s.size ≤ 1048576) : Eng.Fn E.P 127 [.one (.r (.v (.string s)))] (.tup [.one (.w (sl 1 cI ((readConf s).1))), .one (.w (.v (.bool ((readConf s).2))))]) [.one (.r (.v (.string s)))] := by
 refine Eng.Fn.intro (E := E) (rvs := [.tmp 2, .tmp 3]) Try.func127 rfl rfl rfl (by simp [outSlots, moved, rvSlot, sl]) ?_
 intro B g bo
 refine CW.le [(0, S s)] rfl (Le.of rfl) ?_
 refine CW.seq ?_
 refine CW.region ?_
 refine RW.v rfl (V.as (d := .r (.v (.slice none 0 0))) rfl rfl) ?_
 refine RW.v rfl (V.as (d := Bo false) rfl rfl) ?_
 refine RW.nil ?_
 refine CW.le [(0, S s)] rfl (Le.of rfl) ?_
 refine CW.seq ?_
 refine CW.region ?_
 refine RW.build0 cI rfl rfl rfl rfl rfl fun X1 => ?_
 refine RW.assignMove rfl rfl rfl (by decide) (Nat.le_of_ble_eq_true rfl) (Nat.le_of_ble_eq_true rfl) ?_
 refine RW.nil ?_
 refine CW.le [(0, S s), (4, .w (sl 1 cI ([] : List Int)) X1)] rfl (Le.of rfl) ?_
 refine CW.seq ?_
 refine CW.seq ?_
 refine CW.region ?_
 refine RW.v rfl (V.as (d := I 0) rfl rfl) ?_
 refine RW.nil ?_
 refine CW.le [(0, S s), (4, .w (sl 1 cI ([] : List Int)) X1), (5, I 0)] rfl (Le.of rfl) ?_
 refine CW.block ?_
 refine CW.loopI 24 (fun (zz : Nat × Value) => match zz with | (i, X) => [(0, S s), (4, .w (sl 1 cI (bys s i)) X), (5, I (i : Int))]) (fun (zz : Nat × Value) => match zz with | (i, X) => i ≤ s.size) (fun (zz : Nat × Value) => match zz with | (i, X) => s.size - i) (0, _) rfl (Le.c rfl <| Le.c rfl <| Le.c rfl <| Le.e) (by omega) ?_
 rintro ⟨i, X⟩ hb
 refine CW.seq ?_
 refine CW.seq ?_
 refine CW.region ?_
 refine RW.v rfl (V.mv (d := I (i : Int)) rfl rfl) ?_
 refine RW.v rfl (V.mv (d := S s) rfl rfl) ?_
 refine RW.v rfl (V.lenStr rfl (by kernel_rfl) rfl) ?_
 refine RW.v rfl (V.cmpInt rfl rfl rfl rfl) ?_
 refine RW.nil ?_
 refine CW.le [(0, S s), (4, .w (sl 1 cI (bys s i)) X), (5, I (i : Int)), (10, Bo (decide ((i : Int) < (s.size : Int))))] rfl (Le.of rfl) ?_
 refine CW.cond rfl (fun h2 => ?_) (fun h2 => ?_)
 ·skip
  have hlt : i < s.size := by simpa using h2
  refine CW.skip ?_
  refine CW.le [(0, S s), (4, .w (sl 1 cI (bys s i)) X), (5, I (i : Int))] rfl (Le.of rfl) ?_
  refine CW.seq ?_
  refine CW.block ?_
  refine CW.region ?_
  refine RW.v rfl (V.mv (d := .al 4 none 1 ((bys s i).length) X 0) rfl rfl) ?_
  refine RW.v rfl (V.mv (d := S s) rfl rfl) ?_
  refine RW.v rfl (V.mv (d := I (i : Int)) rfl rfl) ?_
  refine RW.v rfl (V.idxStr (m := i) rfl (by kernel_rfl) rfl rfl hlt) ?_
  refine RW.v rfl (V.convInt (k := .i64) (k' := .u8) rfl (by kernel_rfl) (by kernel_rfl) rfl) ?_
  refine RW.build1c (c := cI) (v := (IntKind.i64.wrap (bat s i))) (u := .v (.int .i64 (IntKind.i64.wrap (bat s i)))) rfl rfl rfl rfl rfl rfl (.inl rfl) rfl rfl fun X3 => ?_
  refine RW.appendSR (c := cI) (l1 := (bys s i)) (l2 := [(IntKind.i64.wrap (bat s i))]) rfl rfl rfl rfl rfl rfl rfl rfl (.al (k := none) (i := 18) (sz := 1) (V := X3) rfl rfl nofun) (by decide) (Nat.le_of_ble_eq_true rfl) cI.len (fun _ => rfl) rfl (by simp only [maxLen, bys_len, List.length_singleton]; omega) (by simp only [maxLen, bys_len, List.length_singleton]; omega) fun X4 => ?_
  refine RW.assignMove rfl rfl rfl (by decide) (Nat.le_of_ble_eq_true rfl) (Nat.le_of_ble_eq_true rfl) ?_
  refine RW.nil ?_
  refine CW.le [(0, S s), (4, .w (sl 1 cI ((bys s i) ++ ([(IntKind.i64.wrap (bat s i))]))) X4), (5, I (i : Int))] rfl (Le.of rfl) ?_
  refine CW.region ?_
  refine RW.v rfl (V.mv (d := I (i : Int)) rfl rfl) ?_
  refine RW.v rfl (V.inc rfl rfl rfl hlt (by simp only [maxLen]; omega)) ?_
  refine RW.v rfl (V.as (d := I ((i + 1 : Nat) : Int)) rfl rfl) ?_
  refine RW.nil ?_
  exact ⟨(i + 1, _), by simp only []; omega, (by omega), rfl, Le.c rfl <| Le.c (Dw_congr (bys_succ s i).symm) <| Le.c rfl <| Le.e⟩
 ·skip
  have hi : i = s.size := by simp at h2; omega
  refine CW.exit ?_
  refine CW.le [(4, .w (sl 1 cI (bys s i)) X)] rfl (Le.of rfl) ?_
  refine CW.seq ?_
  refine CW.seq ?_
  refine CW.region ?_
  refine RW.v rfl (V.mv (d := .al 4 none 1 ((bys s i).length) X 0) rfl rfl) ?_
  refine RW.callOwn rfl (impl_ConfOk_fn (bys s i)) rfl (.cons (.one (.r (.al (k := none) (i := 4) (sz := 1) (V := X) rfl rfl nofun))) (.nil)) rfl fun g5 => ?_
  refine RW.v rfl (V.not rfl rfl) ?_
  refine RW.nil ?_
  refine CW.le [(4, .w (sl 1 cI (bys s i)) X), (22, Bo (!(confOk (bys s i))))] rfl (Le.of rfl) ?_
  refine CW.cond rfl (fun h6 => ?_) (fun h6 => ?_)
  ·skip
   refine CW.seq ?_
   refine CW.region ?_
   refine RW.v rfl (V.as (d := .r (.v (.slice none 0 0))) rfl rfl) ?_
   refine RW.v rfl (V.as (d := Bo false) rfl rfl) ?_
   refine RW.nil ?_
   refine CW.le [(2, .r (.v (.slice none 0 0))), (3, Bo false)] rfl (Le.of rfl) ?_
   refine CW.ret ?_
   exact Post.tup (by decide) (RVs.c (RV.n rfl (by rw [rc_no (i := i) (.inl hi) (by simp_all)])) (RVs.c (RV.b rfl (by rw [rc_no (i := i) (.inl hi) (by simp_all)])) RVs.e)) (AOs.r AOs.e)
  ·skip
   refine CW.skip ?_
   refine CW.le [(4, .w (sl 1 cI (bys s i)) X)] rfl (Le.of rfl) ?_
   refine CW.seq ?_
   refine CW.region ?_
   refine RW.v rfl (V.mv (d := .al 4 none 1 ((bys s i).length) X 0) rfl rfl) ?_
   refine RW.v rfl (V.as (d := .al 4 none 1 ((bys s i).length) X 0) rfl rfl) ?_
   refine RW.pullS 2 4 (by decide) rfl rfl ?_
   refine RW.v rfl (V.as (d := Bo true) rfl rfl) ?_
   refine RW.nil ?_
   refine CW.le [(2, .w (sl 1 cI (bys s i)) X), (3, Bo true)] rfl (Le.of rfl) ?_
   refine CW.ret ?_
   exact Post.tup (by decide) (RVs.c (RV.w rfl (by rw [rc_yes (i := i) (by simp_all [bys_len])])) (RVs.c (RV.b rfl (by rw [rc_yes (i := i) (by simp_all [bys_len])])) RVs.e)) (AOs.r AOs.e)
set_option maxHeartbeats 4000000 in
theorem impl_LogLast_fn (l : Log) (hok : okToLog l) : Eng.Fn E.P 65 [.agg ((Log.c l).map .r)] (.tup [.one (.w (.v (.int .i64 ((logLast l).1)))), .one (.w (.v (.int .i64 ((logLast l).2))))]) [.agg ((Log.c l).map .r)] := by
 refine Eng.Fn.intro (E := E) (rvs := [.tmp 2, .tmp 3]) Try.func65 rfl rfl rfl (by simp [outSlots, moved, rvSlot, sl]) ?_
 intro B g bo
 refine CW.le [(0, .agg ((Log.c l).map .r))] rfl (Le.of rfl) ?_
 have hle : l.entries.length ≤ maxLen := by have := hok.1; simp only [maxLen]; omega
 refine CW.seq ?_
 refine CW.region ?_
 refine RW.box (ds := ((Log.c l).map .r)) rfl rfl rfl fun b1 => ?_
 refine RW.v rfl (V.as (d := I 0) rfl rfl) ?_
 refine RW.v rfl (V.as (d := I 0) rfl rfl) ?_
 refine RW.nil ?_
 refine CW.le [(1, .obj b1 ((Log.c l).map .r))] rfl (Le.of rfl) ?_
 refine CW.seq ?_
 refine CW.region ?_
 refine RW.v rfl (V.field rfl rfl rfl rfl (by decide) rfl) ?_
 refine RW.v rfl (V.loadPrim (d := .r (sl 3 Entry.c l.entries)) rfl rfl (.inr ⟨_, rfl⟩) rfl rfl rfl) ?_
 refine RW.v rfl (V.lenT (n := l.entries.length) rfl rfl rfl .r) ?_
 refine RW.v rfl (V.as (d := I (l.entries.length : Int)) rfl rfl) ?_
 refine RW.nil ?_
 refine CW.le [(1, .obj b1 ((Log.c l).map .r)), (4, I (l.entries.length : Int))] rfl (Le.of rfl) ?_
 refine CW.seq ?_
 refine CW.seq ?_
 refine CW.region ?_
 refine RW.v rfl (V.mv (d := I (l.entries.length : Int)) rfl rfl) ?_
 refine RW.v rfl (V.cmpInt rfl rfl rfl rfl) ?_
 refine RW.nil ?_
 refine CW.le [(1, .obj b1 ((Log.c l).map .r)), (4, I (l.entries.length : Int)), (9, Bo ((l.entries.length : Int) == 0))] rfl (Le.of rfl) ?_
 refine CW.cond rfl (fun h2 => ?_) (fun h2 => ?_)
 ·skip
  refine CW.seq ?_
  refine CW.drawn (by kernel_rfl) ?_
  refine RQ.v rfl (V.field rfl rfl rfl rfl (by decide) rfl) ?_
  refine RQ.v rfl (V.loadPrim (d := I l.start) rfl rfl (.inl rfl) rfl rfl rfl) ?_
  refine RQ.v rfl (V.field rfl rfl rfl rfl (by decide) rfl) ?_
  refine RQ.v rfl (V.loadPrim (d := I l.startTerm) rfl rfl (.inl rfl) rfl rfl rfl) ?_
  refine RQ.v rfl (V.as (d := I l.start) rfl rfl) ?_
  refine RQ.v rfl (V.as (d := I l.startTerm) rfl rfl) ?_
  refine RQ.nil ?_
  refine CW.le [(2, I l.start), (3, I l.startTerm)] rfl (Le.of rfl) ?_
  refine CW.ret ?_
  exact Post.tup (by decide) (RVs.c (RV.i rfl (by simp_all [logLast])) (RVs.c (RV.i rfl (by simp_all [logLast])) RVs.e)) (AOs.a rfl AOs.e)
 ·skip
  have hpos : 0 < l.entries.length := List.length_pos_iff.2 (by simpa using h2)
  refine CW.skip ?_
  refine CW.le [(1, .obj b1 ((Log.c l).map .r)), (4, I (l.entries.length : Int))] rfl (Le.of rfl) ?_
  refine CW.seq ?_
  refine CW.drawn (by kernel_rfl) ?_
  refine RQ.v rfl (V.field rfl rfl rfl rfl (by decide) rfl) ?_
  refine RQ.v rfl (V.loadPrim (d := I l.start) rfl rfl (.inl rfl) rfl rfl rfl) ?_
  refine RQ.v rfl (V.mv (d := I (l.entries.length : Int)) rfl rfl) ?_
  refine RQ.v rfl (V.arInt rfl rfl rfl rfl) ?_
  refine RQ.v rfl (V.field rfl rfl rfl rfl (by decide) rfl) ?_
  refine RQ.v rfl (V.loadPrim (d := .r (sl 3 Entry.c l.entries)) rfl rfl (.inr ⟨_, rfl⟩) rfl rfl rfl) ?_
  refine RQ.v rfl (V.mv (d := I (l.entries.length : Int)) rfl rfl) ?_
  refine RQ.v rfl (V.dec (m := l.entries.length) rfl rfl rfl hpos hle) ?_
  refine RQ.v rfl (V.indexS rfl rfl rfl rfl rfl rfl Entry.len (getD_some (l := l.entries) (j := l.entries.length - 1) (z := Entry.z) (by omega))) ?_
  refine RQ.v rfl (V.fieldR rfl rfl rfl rfl (by decide) rfl (Nat.le_of_ble_eq_true rfl)) ?_
  refine RQ.v rfl (V.loadPrimR (t0 := .v (.int .i64 ((l.entries.getD (l.entries.length - 1) Entry.z).term_))) rfl rfl (.inl rfl) rfl rfl) ?_
  refine RQ.v rfl (V.as (d := I (IntKind.i64.wrap (l.start + (l.entries.length : Int)))) rfl rfl) ?_
  refine RQ.v rfl (V.as (d := I ((l.entries.getD (l.entries.length - 1) Entry.z).term_)) rfl rfl) ?_
  refine RQ.nil ?_
  refine CW.le [(2, I (IntKind.i64.wrap (l.start + (l.entries.length : Int)))), (3, I ((l.entries.getD (l.entries.length - 1) Entry.z).term_))] rfl (Le.of rfl) ?_
  refine CW.ret ?_
  exact Post.tup (by decide) (RVs.c (RV.i rfl (by simp_all [logLast])) (RVs.c (RV.i rfl (by simp_all [logLast])) RVs.e)) (AOs.a rfl AOs.e)
set_option maxHeartbeats 4000000 in
theorem impl_EntryOk_fn (e : Entry) (hok : okToEntry e) : Eng.Fn E.P 96 [.agg ((Entry.c e).map .r)] (.one (.one (.w (.v (.bool (entOk e)))))) [.agg ((Entry.c e).map .r)] := by
 refine Eng.Fn.intro (E := E) (rvs := [.tmp 2]) Try.func96 rfl rfl rfl (by simp [outSlots, moved, rvSlot, sl]) ?_
 intro B g bo
 refine CW.le [(0, .agg ((Entry.c e).map .r))] rfl (Le.of rfl) ?_
 refine CW.seq ?_
 refine CW.region ?_
 refine RW.box (ds := ((Entry.c e).map .r)) rfl rfl rfl fun b1 => ?_
 refine RW.v rfl (V.as (d := Bo false) rfl rfl) ?_
 refine RW.nil ?_
 refine CW.le [(1, .obj b1 ((Entry.c e).map .r))] rfl (Le.of rfl) ?_
 refine CW.seq ?_
 refine CW.seq ?_
 refine CW.region ?_
 refine RW.v rfl (V.field rfl rfl rfl rfl (by decide) rfl) ?_
 refine RW.v rfl (V.loadPrim (d := I e.kind) rfl rfl (.inl rfl) rfl rfl rfl) ?_
 refine RW.nil ?_
 refine CW.le [(1, .obj b1 ((Entry.c e).map .r)), (6, I e.kind)] rfl (Le.of rfl) ?_
 refine CW.block ?_
 refine CW.seq ?_
 refine CW.region ?_
 refine RW.v rfl (V.cmpInt rfl rfl rfl rfl) ?_
 refine RW.v rfl (V.as (d := Bo (e.kind == 1)) rfl rfl) ?_
 refine RW.nil ?_
 refine CW.le [(1, .obj b1 ((Entry.c e).map .r)), (6, I e.kind), (7, Bo (e.kind == 1))] rfl (Le.of rfl) ?_
 refine CW.cond rfl (fun h2 => ?_) (fun h2 => ?_)
 ·skip
  refine CW.seqJ 45 (fun (v3 : Bool) => [(2, Bo v3)]) (fun v3 => v3 = ((inR e.term_ 0 100000) && (e.data.toList == (⟨#[]⟩ : ByteArray).toList))) ?_ ?_
  ·refine CW.region ?_
   refine RW.v rfl (V.field rfl rfl rfl rfl (by decide) rfl) ?_
   refine RW.v rfl (V.loadPrim (d := I e.term_) rfl rfl (.inl rfl) rfl rfl rfl) ?_
   refine RW.call rfl (impl_isTerm_fn e.term_) rfl (.cons (.one (.r .r)) (.nil)) fun g4 => ?_
   refine RW.v rfl (V.mv (d := Bo (inR e.term_ 0 100000)) rfl rfl) ?_
   refine RW.gv rfl rfl rfl rfl (fun h5 => V.field rfl rfl rfl rfl (by decide) rfl) (fun h5 => ?_) (fun h5 => ?_)
   ·skip
    refine RW.gt rfl rfl rfl rfl (V.loadPrim (d := S e.data) rfl rfl (.inl rfl) rfl rfl rfl) ?_
    refine RW.gt rfl rfl rfl rfl (V.strCmp rfl rfl rfl rfl) ?_
    refine RW.v rfl (V.pickT (d := Bo (e.data.toList == (⟨#[]⟩ : ByteArray).toList)) rfl rfl rfl) ?_
    refine RW.v rfl (V.as (d := Bo (e.data.toList == (⟨#[]⟩ : ByteArray).toList)) rfl rfl) ?_
    refine RW.nil ?_
    exact ⟨_, by first | rfl | (simp_all; done) | (simp_all; omega) | grind, rfl, Le.c rfl <| Le.e⟩
   ·skip
    refine RW.guardF rfl rfl rfl rfl ?_
    refine RW.guardF rfl rfl rfl rfl ?_
    refine RW.v rfl (V.pickF (d := Bo false) rfl rfl rfl) ?_
    refine RW.v rfl (V.as (d := Bo false) rfl rfl) ?_
    refine RW.nil ?_
    exact ⟨_, by first | rfl | (simp_all; done) | (simp_all; omega) | grind, rfl, Le.c rfl <| Le.e⟩
  ·intro v3 hv6
   refine CW.ret ?_
   exact Post.one (RV.b rfl (by first | (simp_all [entOk]; done) | grind [entOk])) (AOs.a rfl AOs.e)
 ·skip
  refine CW.seq ?_
  refine CW.region ?_
  refine RW.v rfl (V.cmpInt rfl rfl rfl rfl) ?_
  refine RW.v rfl (V.as (d := Bo (e.kind == 2)) rfl rfl) ?_
  refine RW.nil ?_
  refine CW.le [(1, .obj b1 ((Entry.c e).map .r)), (17, Bo (e.kind == 2))] rfl (Le.of rfl) ?_
  refine CW.cond rfl (fun h7 => ?_) (fun h7 => ?_)
  ·skip
   refine CW.seq ?_
   refine CW.region ?_
   refine RW.v rfl (V.field rfl rfl rfl rfl (by decide) rfl) ?_
   refine RW.v rfl (V.loadPrim (d := S e.data) rfl rfl (.inl rfl) rfl rfl rfl) ?_
   refine RW.call rfl (impl_ReadConf_fn e.data hok) rfl (.cons (.one (.r .r)) (.nil)) fun g8 => ?_
   refine RW.moveMove rfl rfl rfl (by decide) (Nat.le_of_ble_eq_true rfl) (Nat.le_of_ble_eq_true rfl) ?_
   refine RW.extract (d := .w (sl 1 cI ((readConf e.data).1)) (g8 0 0)) rfl rfl rfl (by decide) (Nat.le_of_ble_eq_true rfl) rfl rfl ?_
   refine RW.extract (d := Bo ((readConf e.data).2)) rfl rfl rfl (by decide) (Nat.le_of_ble_eq_true rfl) rfl rfl ?_
   refine RW.assignMove rfl rfl rfl (by decide) (Nat.le_of_ble_eq_true rfl) (Nat.le_of_ble_eq_true rfl) ?_
   refine RW.v rfl (V.as (d := Bo ((readConf e.data).2)) rfl rfl) ?_
   refine RW.nil ?_
   refine CW.le [(1, .obj b1 ((Entry.c e).map .r)), (4, Bo ((readConf e.data).2))] rfl (Le.of rfl) ?_
   refine CW.seqJ 45 (fun (v9 : Bool) => [(2, Bo v9)]) (fun v9 => v9 = ((inR e.term_ 0 100000) && ((readConf e.data).2))) ?_ ?_
   ·refine CW.region ?_
    refine RW.v rfl (V.field rfl rfl rfl rfl (by decide) rfl) ?_
    refine RW.v rfl (V.loadPrim (d := I e.term_) rfl rfl (.inl rfl) rfl rfl rfl) ?_
    refine RW.call rfl (impl_isTerm_fn e.term_) rfl (.cons (.one (.r .r)) (.nil)) fun g10 => ?_
    refine RW.v rfl (V.mv (d := Bo (inR e.term_ 0 100000)) rfl rfl) ?_
    refine RW.gv rfl rfl rfl rfl (fun h11 => V.mv (d := Bo ((readConf e.data).2)) rfl rfl) (fun h11 => ?_) (fun h11 => ?_)
    ·skip
     refine RW.v rfl (V.pickT (d := Bo ((readConf e.data).2)) rfl rfl rfl) ?_
     refine RW.v rfl (V.as (d := Bo ((readConf e.data).2)) rfl rfl) ?_
     refine RW.nil ?_
     exact ⟨_, by first | rfl | (simp_all; done) | (simp_all; omega) | grind, rfl, Le.c rfl <| Le.e⟩
    ·skip
     refine RW.v rfl (V.pickF (d := Bo false) rfl rfl rfl) ?_
     refine RW.v rfl (V.as (d := Bo false) rfl rfl) ?_
     refine RW.nil ?_
     exact ⟨_, by first | rfl | (simp_all; done) | (simp_all; omega) | grind, rfl, Le.c rfl <| Le.e⟩
   ·intro v9 hv12
    refine CW.ret ?_
    exact Post.one (RV.b rfl (by first | (simp_all [entOk]; done) | grind [entOk])) (AOs.a rfl AOs.e)
  ·skip
   refine CW.skip ?_
   refine CW.le [(1, .obj b1 ((Entry.c e).map .r))] rfl (Le.of rfl) ?_
   refine CW.seqJ 45 (fun (v13 : Bool) => [(2, Bo v13)]) (fun v13 => v13 = (((e.kind == 3) && (inR e.term_ 0 100000)) && decide ((e.data.size : Int) ≤ 120))) ?_ ?_
   ·refine CW.region ?_
    refine RW.v rfl (V.field rfl rfl rfl rfl (by decide) rfl) ?_
    refine RW.v rfl (V.loadPrim (d := I e.kind) rfl rfl (.inl rfl) rfl rfl rfl) ?_
    refine RW.v rfl (V.cmpInt rfl rfl rfl rfl) ?_
    refine RW.v rfl (V.mv (d := Bo (e.kind == 3)) rfl rfl) ?_
    refine RW.gv rfl rfl rfl rfl (fun h14 => V.field rfl rfl rfl rfl (by decide) rfl) (fun h14 => ?_) (fun h14 => ?_)
    ·skip
     refine RW.gt rfl rfl rfl rfl (V.loadPrim (d := I e.term_) rfl rfl (.inl rfl) rfl rfl rfl) ?_
     refine RW.gcall rfl rfl rfl rfl (impl_isTerm_fn e.term_) rfl (.cons (.one (.r .r)) (.nil)) fun g15 => ?_
     refine RW.v rfl (V.pickT (d := Bo (inR e.term_ 0 100000)) rfl rfl rfl) ?_
     refine RW.v rfl (V.mv (d := Bo (inR e.term_ 0 100000)) rfl rfl) ?_
     refine RW.gv rfl rfl rfl rfl (fun h16 => V.field rfl rfl rfl rfl (by decide) rfl) (fun h16 => ?_) (fun h16 => ?_)
     ·skip
      refine RW.gt rfl rfl rfl rfl (V.loadPrim (d := S e.data) rfl rfl (.inl rfl) rfl rfl rfl) ?_
      refine RW.gt rfl rfl rfl rfl (V.lenStr rfl (by kernel_rfl) rfl) ?_
      refine RW.gt rfl rfl rfl rfl (V.cmpInt rfl rfl rfl rfl) ?_
      refine RW.v rfl (V.pickT (d := Bo (decide ((e.data.size : Int) ≤ 120))) rfl rfl rfl) ?_
      refine RW.v rfl (V.as (d := Bo (decide ((e.data.size : Int) ≤ 120))) rfl rfl) ?_
      refine RW.nil ?_
      exact ⟨_, by first | rfl | (simp_all; done) | (simp_all; omega) | grind, rfl, Le.c rfl <| Le.e⟩
     ·skip
      refine RW.guardF rfl rfl rfl rfl ?_
      refine RW.guardF rfl rfl rfl rfl ?_
      refine RW.guardF rfl rfl rfl rfl ?_
      refine RW.v rfl (V.pickF (d := Bo false) rfl rfl rfl) ?_
      refine RW.v rfl (V.as (d := Bo false) rfl rfl) ?_
      refine RW.nil ?_
      exact ⟨_, by first | rfl | (simp_all; done) | (simp_all; omega) | grind, rfl, Le.c rfl <| Le.e⟩
    ·skip
     refine RW.guardF rfl rfl rfl rfl ?_
     refine RW.guardF rfl rfl rfl rfl ?_
     refine RW.v rfl (V.pickF (d := Bo false) rfl rfl rfl) ?_
     refine RW.v rfl (V.mv (d := Bo false) rfl rfl) ?_
     refine RW.guardF rfl rfl rfl rfl ?_
     refine RW.guardF rfl rfl rfl rfl ?_
     refine RW.guardF rfl rfl rfl rfl ?_
     refine RW.guardF rfl rfl rfl rfl ?_
     refine RW.v rfl (V.pickF (d := Bo false) rfl rfl rfl) ?_
     refine RW.v rfl (V.as (d := Bo false) rfl rfl) ?_
     refine RW.nil ?_
     exact ⟨_, by first | rfl | (simp_all; done) | (simp_all; omega) | grind, rfl, Le.c rfl <| Le.e⟩
   ·intro v13 hv17
    refine CW.ret ?_
    exact Post.one (RV.b rfl (by first | (simp_all [entOk]; done) | grind [entOk])) (AOs.a rfl AOs.e)
set_option maxHeartbeats 4000000 in
theorem impl_LogOk_fn (l : Log) (hok : okToLog l) : Eng.Fn E.P 68 [.agg ((Log.c l).map .r)] (.one (.one (.w (.v (.bool (logOk l)))))) [.agg ((Log.c l).map .r)] := by
 refine Eng.Fn.intro (E := E) (rvs := [.tmp 2]) Try.func68 rfl rfl rfl (by simp [outSlots, moved, rvSlot, sl]) ?_
 intro B g bo
 refine CW.le [(0, .agg ((Log.c l).map .r))] rfl (Le.of rfl) ?_
 have hl0 : l.entries.length ≤ maxLen := by have := hok.1; simp only [maxLen]; omega
 refine CW.seq ?_
 refine CW.region ?_
 refine RW.box (ds := ((Log.c l).map .r)) rfl rfl rfl fun b1 => ?_
 refine RW.v rfl (V.as (d := Bo false) rfl rfl) ?_
 refine RW.nil ?_
 refine CW.le [(1, .obj b1 ((Log.c l).map .r))] rfl (Le.of rfl) ?_
 refine CW.seq ?_
 refine CW.region ?_
 refine RW.v rfl (V.field rfl rfl rfl rfl (by decide) rfl) ?_
 refine RW.v rfl (V.loadPrim (d := I l.startTerm) rfl rfl (.inl rfl) rfl rfl rfl) ?_
 refine RW.v rfl (V.as (d := I l.startTerm) rfl rfl) ?_
 refine RW.nil ?_
 refine CW.le [(1, .obj b1 ((Log.c l).map .r)), (3, I l.startTerm)] rfl (Le.of rfl) ?_
 refine CW.seq ?_
 refine CW.seq ?_
 refine CW.region ?_
 refine RW.v rfl (V.field rfl rfl rfl rfl (by decide) rfl) ?_
 refine RW.v rfl (V.loadPrim (d := .r (sl 3 Entry.c l.entries)) rfl rfl (.inr ⟨_, rfl⟩) rfl rfl rfl) ?_
 refine RW.v rfl (V.lenT (n := l.entries.length) rfl rfl rfl .r) ?_
 refine RW.v rfl (V.mv (d := I 0) rfl rfl) ?_
 refine RW.nil ?_
 refine CW.le [(1, .obj b1 ((Log.c l).map .r)), (3, I l.startTerm), (9, .r (sl 3 Entry.c l.entries)), (10, I (l.entries.length : Int)), (11, I 0)] rfl (Le.of rfl) ?_
 refine CW.block ?_
 refine CW.loopI 50 (fun (zz : Nat × Int) => match zz with | (i, t) => [(1, .obj b1 ((Log.c l).map .r)), (3, I t), (9, .r (sl 3 Entry.c l.entries)), (10, I (l.entries.length : Int)), (11, I (i : Int))]) (fun (zz : Nat × Int) => match zz with | (i, t) => i ≤ l.entries.length ∧ termsOk t (l.entries.drop i) = termsOk l.startTerm l.entries) (fun (zz : Nat × Int) => match zz with | (i, t) => l.entries.length - i) (0, _) rfl (Le.c rfl <| Le.c rfl <| Le.c rfl <| Le.c rfl <| Le.c rfl <| Le.e) ⟨by omega, by simp⟩ ?_
 rintro ⟨i, t⟩ ⟨hb, hr⟩
 refine CW.seq ?_
 refine CW.region ?_
 refine RW.v rfl (V.cmpInt rfl rfl rfl rfl) ?_
 refine RW.nil ?_
 refine CW.le [(1, .obj b1 ((Log.c l).map .r)), (3, I t), (9, .r (sl 3 Entry.c l.entries)), (10, I (l.entries.length : Int)), (11, I (i : Int)), (12, Bo (decide ((i : Int) < (l.entries.length : Int))))] rfl (Le.of rfl) ?_
 refine CW.seq ?_
 refine CW.cond rfl (fun h2 => ?_) (fun h2 => ?_)
 ·skip
  have hii : i < l.entries.length := by have := h2; simp at this; first | exact this | omega | (simp; done) | (simp; omega)
  obtain ⟨ei, hei⟩ : ∃ e, l.entries[i]? = some e := ⟨_, List.getElem?_eq_getElem hii⟩
  have hdi := drop_get hei
  refine CW.skip ?_
  refine CW.le [(1, .obj b1 ((Log.c l).map .r)), (3, I t), (9, .r (sl 3 Entry.c l.entries)), (10, I (l.entries.length : Int)), (11, I (i : Int))] rfl (Le.of rfl) ?_
  refine CW.seq ?_
  refine CW.block ?_
  refine CW.seq ?_
  refine CW.region ?_
  refine RW.v rfl (V.indexS rfl rfl rfl rfl rfl rfl Entry.len hei) ?_
  refine RW.v rfl (V.loadAggR rfl rfl rfl rfl (Nat.le_of_ble_eq_true rfl)) ?_
  refine RW.alloc (ds := [I 0, I 0, S (⟨#[]⟩)]) rfl rfl rfl rfl fun b3 => ?_
  refine RW.storeAgg (es := ((Entry.c ei).map .r)) rfl rfl rfl rfl rfl rfl rfl rfl (Nat.le_of_ble_eq_true rfl) rfl ?_
  refine RW.nil ?_
  refine CW.le [(1, .obj b1 ((Log.c l).map .r)), (3, I t), (5, .obj b3 ((Entry.c ei).map .r)), (9, .r (sl 3 Entry.c l.entries)), (10, I (l.entries.length : Int)), (11, I (i : Int))] rfl (Le.of rfl) ?_
  refine CW.seq ?_
  refine CW.seqJ 50 (fun (v4 : Bool) => [(1, .obj b1 ((Log.c l).map .r)), (5, .obj b3 ((Entry.c ei).map .r)), (9, .r (sl 3 Entry.c l.entries)), (10, I (l.entries.length : Int)), (11, I (i : Int)), (23, Bo v4)]) (fun v4 => v4 = ((!(entOk ei)) || decide (ei.term_ < t))) ?_ ?_
  ·refine CW.region ?_
   refine RW.v rfl (V.loadAgg rfl rfl rfl rfl rfl (Nat.le_of_ble_eq_true rfl)) ?_
   refine RW.call rfl (impl_EntryOk_fn ei (hok.2 ei (List.mem_of_getElem? hei))) rfl (.cons (.agg (.cons (.r .r) (.cons (.r .r) (.cons (.r .r) (.nil))))) (.nil)) fun g5 => ?_
   refine RW.v rfl (V.not rfl rfl) ?_
   refine RW.v rfl (V.mv (d := Bo (!(entOk ei))) rfl rfl) ?_
   refine RW.gv rfl rfl rfl rfl (fun h6 => V.field rfl rfl rfl rfl (by decide) rfl) (fun h6 => ?_) (fun h6 => ?_)
   ·skip
    refine RW.gt rfl rfl rfl rfl (V.loadPrim (d := I ei.term_) rfl rfl (.inl rfl) rfl rfl rfl) ?_
    refine RW.gt rfl rfl rfl rfl (V.mv (d := I t) rfl rfl) ?_
    refine RW.gt rfl rfl rfl rfl (V.cmpInt rfl rfl rfl rfl) ?_
    refine RW.v rfl (V.pickF (d := Bo (decide (ei.term_ < t))) rfl rfl rfl) ?_
    refine RW.nil ?_
    exact ⟨_, by first | rfl | (simp_all; done) | (simp_all; omega) | grind, rfl, Le.c rfl <| Le.c rfl <| Le.c rfl <| Le.c rfl <| Le.c rfl <| Le.c rfl <| Le.e⟩
   ·skip
    refine RW.guardF rfl rfl rfl rfl ?_
    refine RW.guardF rfl rfl rfl rfl ?_
    refine RW.guardF rfl rfl rfl rfl ?_
    refine RW.v rfl (V.pickT (d := Bo true) rfl rfl rfl) ?_
    refine RW.nil ?_
    exact ⟨_, by first | rfl | (simp_all; done) | (simp_all; omega) | grind, rfl, Le.c rfl <| Le.c rfl <| Le.c rfl <| Le.c rfl <| Le.c rfl <| Le.c rfl <| Le.e⟩
  ·intro v4 hv7
   refine CW.cond rfl (fun h8 => ?_) (fun h8 => ?_)
   ·skip
    refine CW.seq ?_
    refine CW.region ?_
    refine RW.v rfl (V.as (d := Bo false) rfl rfl) ?_
    refine RW.nil ?_
    refine CW.le [(2, Bo false)] rfl (Le.of rfl) ?_
    refine CW.ret ?_
    exact Post.one (RV.b rfl (by have ht : termsOk l.startTerm l.entries = false := (by rw [← hr, hdi, termsOk]; first | (simp_all; done) | grind); simp [logOk, ht])) (AOs.a rfl AOs.e)
   ·skip
    refine CW.skip ?_
    refine CW.le [(1, .obj b1 ((Log.c l).map .r)), (5, .obj b3 ((Entry.c ei).map .r)), (9, .r (sl 3 Entry.c l.entries)), (10, I (l.entries.length : Int)), (11, I (i : Int))] rfl (Le.of rfl) ?_
    refine CW.region ?_
    refine RW.v rfl (V.field rfl rfl rfl rfl (by decide) rfl) ?_
    refine RW.v rfl (V.loadPrim (d := I ei.term_) rfl rfl (.inl rfl) rfl rfl rfl) ?_
    refine RW.v rfl (V.as (d := I ei.term_) rfl rfl) ?_
    refine RW.nil ?_
    refine CW.le [(1, .obj b1 ((Log.c l).map .r)), (3, I ei.term_), (9, .r (sl 3 Entry.c l.entries)), (10, I (l.entries.length : Int)), (11, I (i : Int))] rfl (Le.of rfl) ?_
    refine CW.region ?_
    refine RW.v rfl (V.inc rfl rfl rfl hii hl0) ?_
    refine RW.v rfl (V.mv (d := I ((i + 1 : Nat) : Int)) rfl rfl) ?_
    refine RW.nil ?_
    exact ⟨(i + 1, _), by simp only []; omega, ⟨by omega, by rw [← hr, hdi, termsOk]; simp_all⟩, rfl, Le.c rfl <| Le.c rfl <| Le.c rfl <| Le.c rfl <| Le.c rfl <| Le.e⟩
 ·skip
  have hii : l.entries.length ≤ i := by have := h2; simp at this; first | exact this | omega | (simp; done) | (simp; omega)
  have hdi : l.entries.drop i = [] := List.drop_eq_nil_of_le hii
  refine CW.exit ?_
  refine CW.le [(1, .obj b1 ((Log.c l).map .r))] rfl (Le.of rfl) ?_
  refine CW.seqJ 50 (fun (v9 : Bool) => [(2, Bo v9)]) (fun v9 => v9 = ((((inR l.start 0 1000000) && (inR l.startTerm 0 100000)) && decide ((l.entries.length : Int) ≤ 60)) && decide ((IntKind.i64.wrap (l.start + (l.entries.length : Int))) ≤ 1000000))) ?_ ?_
  ·refine CW.region ?_
   refine RW.v rfl (V.field rfl rfl rfl rfl (by decide) rfl) ?_
   refine RW.v rfl (V.loadPrim (d := I l.start) rfl rfl (.inl rfl) rfl rfl rfl) ?_
   refine RW.call rfl (impl_isIndex_fn l.start) rfl (.cons (.one (.r .r)) (.nil)) fun g10 => ?_
   refine RW.v rfl (V.mv (d := Bo (inR l.start 0 1000000)) rfl rfl) ?_
   refine RW.gv rfl rfl rfl rfl (fun h11 => V.field rfl rfl rfl rfl (by decide) rfl) (fun h11 => ?_) (fun h11 => ?_)
   ·skip
    refine RW.gt rfl rfl rfl rfl (V.loadPrim (d := I l.startTerm) rfl rfl (.inl rfl) rfl rfl rfl) ?_
    refine RW.gcall rfl rfl rfl rfl (impl_isTerm_fn l.startTerm) rfl (.cons (.one (.r .r)) (.nil)) fun g12 => ?_
    refine RW.v rfl (V.pickT (d := Bo (inR l.startTerm 0 100000)) rfl rfl rfl) ?_
    refine RW.v rfl (V.mv (d := Bo (inR l.startTerm 0 100000)) rfl rfl) ?_
    refine RW.gv rfl rfl rfl rfl (fun h13 => V.field rfl rfl rfl rfl (by decide) rfl) (fun h13 => ?_) (fun h13 => ?_)
    ·skip
     refine RW.gt rfl rfl rfl rfl (V.loadPrim (d := .r (sl 3 Entry.c l.entries)) rfl rfl (.inr ⟨_, rfl⟩) rfl rfl rfl) ?_
     refine RW.gt rfl rfl rfl rfl (V.lenT (n := l.entries.length) rfl rfl rfl .r) ?_
     refine RW.gt rfl rfl rfl rfl (V.cmpInt rfl rfl rfl rfl) ?_
     refine RW.v rfl (V.pickT (d := Bo (decide ((l.entries.length : Int) ≤ 60))) rfl rfl rfl) ?_
     refine RW.v rfl (V.mv (d := Bo (decide ((l.entries.length : Int) ≤ 60))) rfl rfl) ?_
     refine RW.gv rfl rfl rfl rfl (fun h14 => V.field rfl rfl rfl rfl (by decide) rfl) (fun h14 => ?_) (fun h14 => ?_)
     ·skip
      refine RW.gt rfl rfl rfl rfl (V.loadPrim (d := I l.start) rfl rfl (.inl rfl) rfl rfl rfl) ?_
      refine RW.gt rfl rfl rfl rfl (V.field rfl rfl rfl rfl (by decide) rfl) ?_
      refine RW.gt rfl rfl rfl rfl (V.loadPrim (d := .r (sl 3 Entry.c l.entries)) rfl rfl (.inr ⟨_, rfl⟩) rfl rfl rfl) ?_
      refine RW.gt rfl rfl rfl rfl (V.lenT (n := l.entries.length) rfl rfl rfl .r) ?_
      refine RW.gt rfl rfl rfl rfl (V.arInt rfl rfl rfl rfl) ?_
      refine RW.gt rfl rfl rfl rfl (V.cmpInt rfl rfl rfl rfl) ?_
      refine RW.v rfl (V.pickT (d := Bo (decide ((IntKind.i64.wrap (l.start + (l.entries.length : Int))) ≤ 1000000))) rfl rfl rfl) ?_
      refine RW.v rfl (V.as (d := Bo (decide ((IntKind.i64.wrap (l.start + (l.entries.length : Int))) ≤ 1000000))) rfl rfl) ?_
      refine RW.nil ?_
      exact ⟨_, by first | rfl | (simp_all; done) | (simp_all; omega) | grind, rfl, Le.c rfl <| Le.e⟩
     ·skip
      refine RW.guardF rfl rfl rfl rfl ?_
      refine RW.guardF rfl rfl rfl rfl ?_
      refine RW.guardF rfl rfl rfl rfl ?_
      refine RW.guardF rfl rfl rfl rfl ?_
      refine RW.guardF rfl rfl rfl rfl ?_
      refine RW.guardF rfl rfl rfl rfl ?_
      refine RW.v rfl (V.pickF (d := Bo false) rfl rfl rfl) ?_
      refine RW.v rfl (V.as (d := Bo false) rfl rfl) ?_
      refine RW.nil ?_
      exact ⟨_, by first | rfl | (simp_all; done) | (simp_all; omega) | grind, rfl, Le.c rfl <| Le.e⟩
    ·skip
     refine RW.guardF rfl rfl rfl rfl ?_
     refine RW.guardF rfl rfl rfl rfl ?_
     refine RW.guardF rfl rfl rfl rfl ?_
     refine RW.v rfl (V.pickF (d := Bo false) rfl rfl rfl) ?_
     refine RW.v rfl (V.mv (d := Bo false) rfl rfl) ?_
     refine RW.guardF rfl rfl rfl rfl ?_
     refine RW.guardF rfl rfl rfl rfl ?_
     refine RW.guardF rfl rfl rfl rfl ?_
     refine RW.guardF rfl rfl rfl rfl ?_
     refine RW.guardF rfl rfl rfl rfl ?_
     refine RW.guardF rfl rfl rfl rfl ?_
     refine RW.guardF rfl rfl rfl rfl ?_
     refine RW.v rfl (V.pickF (d := Bo false) rfl rfl rfl) ?_
     refine RW.v rfl (V.as (d := Bo false) rfl rfl) ?_
     refine RW.nil ?_
     exact ⟨_, by first | rfl | (simp_all; done) | (simp_all; omega) | grind, rfl, Le.c rfl <| Le.e⟩
   ·skip
    refine RW.guardF rfl rfl rfl rfl ?_
    refine RW.guardF rfl rfl rfl rfl ?_
    refine RW.v rfl (V.pickF (d := Bo false) rfl rfl rfl) ?_
    refine RW.v rfl (V.mv (d := Bo false) rfl rfl) ?_
    refine RW.guardF rfl rfl rfl rfl ?_
    refine RW.guardF rfl rfl rfl rfl ?_
    refine RW.guardF rfl rfl rfl rfl ?_
    refine RW.guardF rfl rfl rfl rfl ?_
    refine RW.v rfl (V.pickF (d := Bo false) rfl rfl rfl) ?_
    refine RW.v rfl (V.mv (d := Bo false) rfl rfl) ?_
    refine RW.guardF rfl rfl rfl rfl ?_
    refine RW.guardF rfl rfl rfl rfl ?_
    refine RW.guardF rfl rfl rfl rfl ?_
    refine RW.guardF rfl rfl rfl rfl ?_
    refine RW.guardF rfl rfl rfl rfl ?_
    refine RW.guardF rfl rfl rfl rfl ?_
    refine RW.guardF rfl rfl rfl rfl ?_
    refine RW.v rfl (V.pickF (d := Bo false) rfl rfl rfl) ?_
    refine RW.v rfl (V.as (d := Bo false) rfl rfl) ?_
    refine RW.nil ?_
    exact ⟨_, by first | rfl | (simp_all; done) | (simp_all; omega) | grind, rfl, Le.c rfl <| Le.e⟩
  ·intro v9 hv15
   refine CW.ret ?_
   exact Post.one (RV.b rfl (by have ht : termsOk l.startTerm l.entries = true := (by rw [← hr, hdi]; rfl); clear hr hdi; first | (simp_all [logOk]; done) | grind [logOk])) (AOs.a rfl AOs.e)
set_option maxHeartbeats 4000000 in
theorem impl_copyInts_fn (a : List Int) (hm : a.length ≤ 1048576) : Eng.Fn E.P 75 [.one (.r (sl 1 cI a))] (.one (.one (.w (sl 1 cI a)))) [.one (.r (sl 1 cI a))] := by
 refine Eng.Fn.intro (E := E) (rvs := [.tmp 2]) Try.func75 rfl rfl rfl (by simp [outSlots, moved, rvSlot, sl]) ?_
 intro B g bo
 refine CW.bound (x := .tmp 0) (n := a.length) (AsT.r) (fun hl0 => ?_)
 refine CW.le [(0, .r (sl 1 cI a))] rfl (Le.of rfl) ?_
 refine CW.seq ?_
 refine CW.region ?_
 refine RW.v rfl (V.as (d := .r (.v (.slice none 0 0))) rfl rfl) ?_
 refine RW.nil ?_
 refine CW.le [(0, .r (sl 1 cI a))] rfl (Le.of rfl) ?_
 refine CW.seq ?_
 refine CW.region ?_
 refine RW.build0 cI rfl rfl rfl rfl rfl fun X1 => ?_
 refine RW.v rfl (V.mv (d := .r (sl 1 cI a)) rfl rfl) ?_
 refine RW.appendSR (c := cI) (l1 := ([] : List Int)) (l2 := a) rfl rfl rfl rfl rfl rfl rfl rfl .r (by decide) (Nat.le_of_ble_eq_true rfl) cI.len (fun _ => rfl) rfl (by simp only [maxLen, List.length_nil]; omega) (by simp only [maxLen, List.length_nil]; omega) fun X2 => ?_
 refine RW.assignMove rfl rfl rfl (by decide) (Nat.le_of_ble_eq_true rfl) (Nat.le_of_ble_eq_true rfl) ?_
 refine RW.nil ?_
 refine CW.le [(2, .w (sl 1 cI (([] : List Int) ++ a)) X2)] rfl (Le.of rfl) ?_
 refine CW.ret ?_
 exact Post.one (RV.w rfl (by rfl)) (AOs.r AOs.e)
set_option maxHeartbeats 4000000 in
theorem slices_IndexFunc___int_int__fn (a : List Int) (f_id : Nat) (f_ts : List T) (f_p : Int → Bool) (f_h : ∀ x, Eng.Fn E.P f_id [.one (.r (.v (.int .i64 x))), .one (.r (.f none f_ts))] (wB (f_p x)) [.one (.r (.v (.int .i64 x))), .one (.r (.f none f_ts))]) : Eng.Fn E.P 137 [.one (.r (sl 1 cI a)), .one (.r (.f (some f_id) f_ts))] (.one (.one (.w (.v (.int .i64 (idxF f_p a)))))) [.one (.r (sl 1 cI a)), .one (.r (.f (some f_id) f_ts))] := by
 refine Eng.Fn.intro (E := E) (rvs := [.tmp 4]) Try.func137 rfl rfl rfl (by simp [outSlots, moved, rvSlot, sl]) ?_
 intro B g bo
 refine CW.bound (x := .tmp 0) (n := a.length) (AsT.r) (fun hl0 => ?_)
 refine CW.le [(0, .r (sl 1 cI a)), (1, .r (.f (some f_id) f_ts))] rfl (Le.of rfl) ?_
 refine CW.seq ?_
 refine CW.region ?_
 refine RW.v rfl (V.as (d := I 0) rfl rfl) ?_
 refine RW.nil ?_
 refine CW.le [(0, .r (sl 1 cI a)), (1, .r (.f (some f_id) f_ts))] rfl (Le.of rfl) ?_
 refine CW.seq ?_
 refine CW.seq ?_
 refine CW.region ?_
 refine RW.v rfl (V.mv (d := .r (sl 1 cI a)) rfl rfl) ?_
 refine RW.v rfl (V.lenT (n := a.length) rfl rfl rfl .r) ?_
 refine RW.v rfl (V.mv (d := I 0) rfl rfl) ?_
 refine RW.nil ?_
 refine CW.le [(0, .r (sl 1 cI a)), (1, .r (.f (some f_id) f_ts)), (7, I (a.length : Int)), (8, I 0)] rfl (Le.of rfl) ?_
 refine CW.block ?_
 refine CW.loopI 19 (fun (i : Nat) => [(0, .r (sl 1 cI a)), (1, .r (.f (some f_id) f_ts)), (7, I (a.length : Int)), (8, I (i : Int))]) (fun (i : Nat) => i ≤ a.length ∧ (a.take i).any f_p = false) (fun (i : Nat) => a.length - i) 0 rfl (Le.c rfl <| Le.c rfl <| Le.c rfl <| Le.c rfl <| Le.e) ⟨by omega, by simp⟩ ?_
 rintro i ⟨hb, hr⟩
 refine CW.seq ?_
 refine CW.region ?_
 refine RW.v rfl (V.cmpInt rfl rfl rfl rfl) ?_
 refine RW.nil ?_
 refine CW.le [(0, .r (sl 1 cI a)), (1, .r (.f (some f_id) f_ts)), (7, I (a.length : Int)), (8, I (i : Int)), (9, Bo (decide ((i : Int) < (a.length : Int))))] rfl (Le.of rfl) ?_
 refine CW.seq ?_
 refine CW.cond rfl (fun h1 => ?_) (fun h1 => ?_)
 ·skip
  have hii : i < a.length := by have := h1; simp at this; first | exact this | omega | (simp; done) | (simp; omega)
  obtain ⟨ei, hei⟩ : ∃ e, a[i]? = some e := ⟨_, List.getElem?_eq_getElem hii⟩
  have hdi := drop_get hei
  refine CW.skip ?_
  refine CW.le [(0, .r (sl 1 cI a)), (1, .r (.f (some f_id) f_ts)), (7, I (a.length : Int)), (8, I (i : Int))] rfl (Le.of rfl) ?_
  refine CW.seq ?_
  refine CW.block ?_
  refine CW.seq ?_
  refine CW.region ?_
  refine RW.v rfl (V.mv (d := I (i : Int)) rfl rfl) ?_
  refine RW.v rfl (V.as (d := I (i : Int)) rfl rfl) ?_
  refine RW.nil ?_
  refine CW.le [(0, .r (sl 1 cI a)), (1, .r (.f (some f_id) f_ts)), (5, I (i : Int)), (7, I (a.length : Int)), (8, I (i : Int))] rfl (Le.of rfl) ?_
  refine CW.seq ?_
  refine CW.region ?_
  refine RW.v rfl (V.mv (d := .r (.f (some f_id) f_ts)) rfl rfl) ?_
  refine RW.v rfl (V.mv (d := .r (sl 1 cI a)) rfl rfl) ?_
  refine RW.v rfl (V.mv (d := I (i : Int)) rfl rfl) ?_
  refine RW.v rfl (V.indexS rfl rfl rfl rfl rfl rfl cI.len hei) ?_
  refine RW.v rfl (V.loadPrimR (t0 := .v (.int .i64 ei)) rfl rfl (.inl rfl) rfl rfl) ?_
  refine RW.callF (ars := [.one (.r (.v (.int .i64 ei)))]) rfl (f_h ei) rfl rfl (.cons (.one (.r .r)) .nil) ?_
  refine RW.nil ?_
  refine CW.le [(0, .r (sl 1 cI a)), (1, .r (.f (some f_id) f_ts)), (5, I (i : Int)), (7, I (a.length : Int)), (8, I (i : Int)), (16, Bo (f_p ei))] rfl (Le.of rfl) ?_
  refine CW.cond rfl (fun h2 => ?_) (fun h2 => ?_)
  ·skip
   refine CW.seq ?_
   refine CW.region ?_
   refine RW.v rfl (V.mv (d := I (i : Int)) rfl rfl) ?_
   refine RW.v rfl (V.as (d := I (i : Int)) rfl rfl) ?_
   refine RW.nil ?_
   refine CW.le [(4, I (i : Int))] rfl (Le.of rfl) ?_
   refine CW.ret ?_
   exact Post.one (RV.i rfl (by exact idxF_at hr hei h2)) (AOs.r (AOs.r AOs.e))
  ·skip
   refine CW.skip ?_
   refine CW.le [(0, .r (sl 1 cI a)), (1, .r (.f (some f_id) f_ts)), (7, I (a.length : Int)), (8, I (i : Int))] rfl (Le.of rfl) ?_
   refine CW.region ?_
   refine RW.v rfl (V.inc rfl rfl rfl hii hl0) ?_
   refine RW.v rfl (V.mv (d := I ((i + 1 : Nat) : Int)) rfl rfl) ?_
   refine RW.nil ?_
   exact ⟨i + 1, by omega, ⟨by omega, any_snoc hr hei h2⟩, rfl, Le.c rfl <| Le.c rfl <| Le.c rfl <| Le.c rfl <| Le.e⟩
 ·skip
  have hii : a.length ≤ i := by have := h1; simp at this; first | exact this | omega | (simp; done) | (simp; omega)
  have hdi : a.drop i = [] := List.drop_eq_nil_of_le hii
  refine CW.exit ?_
  refine CW.le [] rfl (Le.of rfl) ?_
  refine CW.seq ?_
  refine CW.region ?_
  refine RW.v rfl (V.as (d := I (-1)) rfl rfl) ?_
  refine RW.nil ?_
  refine CW.le [(4, I (-1))] rfl (Le.of rfl) ?_
  refine CW.ret ?_
  exact Post.one (RV.i rfl (by exact idxF_no hr hii)) (AOs.r (AOs.r AOs.e))
set_option maxHeartbeats 4000000 in
theorem slices_DeleteFunc___int_int__fn (a : List Int) (f_id : Nat) (f_ts : List T) (f_p : Int → Bool) (f_h : ∀ x, Eng.Fn E.P f_id [.one (.r (.v (.int .i64 x))), .one (.r (.f none f_ts))] (wB (f_p x)) [.one (.r (.v (.int .i64 x))), .one (.r (.f none f_ts))]) : Eng.Fn E.P 129 [.one (.w (sl 1 cI a)), .one (.r (.f (some f_id) f_ts))] (.one (.one (.w (sl 1 cI (a.filter (fun x => !f_p x)))))) [.gone, .one (.r (.f (some f_id) f_ts))] := by
 refine Eng.Fn.intro (E := E) (rvs := [.tmp 4]) Try.func129 rfl rfl rfl (by simp [outSlots, moved, rvSlot, sl]) ?_
 intro B g bo
 refine CW.bound (x := .tmp 0) (n := a.length) (AsT.al rfl rfl nofun) (fun hl0 => ?_)
 refine CW.le [(0, .w (sl 1 cI a) (g 0 0)), (1, .r (.f (some f_id) f_ts))] rfl (Le.of rfl) ?_
 refine CW.seq ?_
 refine CW.region ?_
 refine RW.v rfl (V.as (d := .r (.v (.slice none 0 0))) rfl rfl) ?_
 refine RW.nil ?_
 refine CW.le [(0, .w (sl 1 cI a) (g 0 0)), (1, .r (.f (some f_id) f_ts))] rfl (Le.of rfl) ?_
 refine CW.seq ?_
 refine CW.region ?_
 refine RW.v rfl (V.mv (d := .al 0 none 1 a.length (g 0 0) 0) rfl rfl) ?_
 refine RW.v rfl (V.mv (d := .r (.f (some f_id) f_ts)) rfl rfl) ?_
 refine RW.callOwn rfl (slices_IndexFunc___int_int__fn a f_id f_ts f_p f_h) rfl (.cons (.one (.r (.al (k := none) (i := 0) (sz := 1) (V := (g 0 0)) rfl rfl nofun))) (.cons (.one (.r .r)) (.nil))) rfl fun g1 => ?_
 refine RW.v rfl (V.as (d := I (idxF f_p a)) rfl rfl) ?_
 refine RW.nil ?_
 refine CW.le [(0, .w (sl 1 cI a) (g 0 0)), (1, .r (.f (some f_id) f_ts)), (5, I (idxF f_p a))] rfl (Le.of rfl) ?_
 refine CW.seq ?_
 refine CW.seq ?_
 refine CW.region ?_
 refine RW.v rfl (V.mv (d := I (idxF f_p a)) rfl rfl) ?_
 refine RW.v rfl (V.cmpInt rfl rfl rfl rfl) ?_
 refine RW.nil ?_
 refine CW.le [(0, .w (sl 1 cI a) (g 0 0)), (1, .r (.f (some f_id) f_ts)), (5, I (idxF f_p a)), (12, Bo ((idxF f_p a) == (-1)))] rfl (Le.of rfl) ?_
 refine CW.cond rfl (fun h2 => ?_) (fun h2 => ?_)
 ·skip
  refine CW.seq ?_
  refine CW.region ?_
  refine RW.v rfl (V.mv (d := .al 0 none 1 a.length (g 0 0) 0) rfl rfl) ?_
  refine RW.v rfl (V.as (d := .al 0 none 1 a.length (g 0 0) 0) rfl rfl) ?_
  refine RW.pullS 4 0 (by decide) rfl rfl ?_
  refine RW.nil ?_
  refine CW.le [(4, .w (sl 1 cI a) (g 0 0))] rfl (Le.of rfl) ?_
  refine CW.ret ?_
  exact Post.one (RV.w rfl (by exact idxF_none h2)) (AOs.gn (AOs.r AOs.e))
 ·skip
  obtain ⟨m, hm1, hm2, hm3⟩ := idxF_some h2
  refine CW.skip ?_
  refine CW.le [(0, .w (sl 1 cI a) (g 0 0)), (1, .r (.f (some f_id) f_ts)), (5, I (idxF f_p a))] rfl (Le.of rfl) ?_
  refine CW.seq ?_
  refine CW.seq ?_
  refine CW.region ?_
  refine RW.v rfl (V.mv (d := I (idxF f_p a)) rfl rfl) ?_
  refine RW.v rfl (V.arInt rfl rfl rfl rfl) ?_
  refine RW.v rfl (V.as (d := I (IntKind.i64.wrap ((idxF f_p a) + 1))) rfl rfl) ?_
  refine RW.nil ?_
  refine CW.le [(0, .w (sl 1 cI a) (g 0 0)), (1, .r (.f (some f_id) f_ts)), (5, I (idxF f_p a)), (6, I (IntKind.i64.wrap ((idxF f_p a) + 1)))] rfl (Le.of rfl) ?_
  refine CW.block ?_
  refine CW.loopI 42 (fun (zz : Nat × Nat × List Int) => match zz with | (i, j, b) => [(0, .w (sl 1 cI b) (g 0 0)), (1, .r (.f (some f_id) f_ts)), (5, I (i : Int)), (6, I (j : Int))]) (fun (zz : Nat × Nat × List Int) => match zz with | (i, j, b) => DelP f_p a i j b) (fun (zz : Nat × Nat × List Int) => match zz with | (i, j, b) => a.length - j) (m, m + 1, a) rfl (Le.c rfl <| Le.c rfl <| Le.c (congrArg I hm1) <| Le.c (congrArg I (by rw [hm1]; exact wrap_nat (n := m + 1) (by omega))) <| Le.e) ⟨by omega, by omega, rfl, hm3, rfl⟩ ?_
  rintro ⟨i, j, b⟩ hP
  have hPl := hP.len
  have hPt := hP.lt
  have hPe := hP.le
  refine CW.seq ?_
  refine CW.seq ?_
  refine CW.region ?_
  refine RW.v rfl (V.mv (d := I (j : Int)) rfl rfl) ?_
  refine RW.v rfl (V.mv (d := .al 0 none 1 b.length (g 0 0) 0) rfl rfl) ?_
  refine RW.v rfl (V.lenT (n := b.length) rfl rfl rfl (.al rfl rfl nofun)) ?_
  refine RW.v rfl (V.cmpInt rfl rfl rfl rfl) ?_
  refine RW.nil ?_
  refine CW.le [(0, .w (sl 1 cI b) (g 0 0)), (1, .r (.f (some f_id) f_ts)), (5, I (i : Int)), (6, I (j : Int)), (19, Bo (decide ((j : Int) < (b.length : Int))))] rfl (Le.of rfl) ?_
  refine CW.cond rfl (fun h3 => ?_) (fun h3 => ?_)
  ·skip
   have hij : j < b.length := by have := h3; simp at this; first | exact this | omega | (simp; done) | (simp; omega)
   obtain ⟨ej, hej⟩ : ∃ e, b[j]? = some e := ⟨_, List.getElem?_eq_getElem hij⟩
   have hdj := drop_get hej
   refine CW.skip ?_
   refine CW.le [(0, .w (sl 1 cI b) (g 0 0)), (1, .r (.f (some f_id) f_ts)), (5, I (i : Int)), (6, I (j : Int))] rfl (Le.of rfl) ?_
   refine CW.seq ?_
   refine CW.block ?_
   refine CW.seq ?_
   refine CW.region ?_
   refine RW.v rfl (V.mv (d := .al 0 none 1 b.length (g 0 0) 0) rfl rfl) ?_
   refine RW.v rfl (V.mv (d := I (j : Int)) rfl rfl) ?_
   refine RW.v rfl (V.indexW rfl rfl rfl rfl rfl rfl rfl hij) ?_
   refine RW.v rfl (V.loadF (m := j) (off := 0) rfl rfl (.inl rfl) rfl rfl cI.len hej (by decide) rfl) ?_
   refine RW.v rfl (V.as (d := I ej) rfl rfl) ?_
   refine RW.nil ?_
   refine CW.le [(0, .w (sl 1 cI b) (g 0 0)), (1, .r (.f (some f_id) f_ts)), (5, I (i : Int)), (6, I (j : Int)), (7, I ej)] rfl (Le.of rfl) ?_
   refine CW.seq ?_
   refine CW.region ?_
   refine RW.v rfl (V.mv (d := .r (.f (some f_id) f_ts)) rfl rfl) ?_
   refine RW.v rfl (V.mv (d := I ej) rfl rfl) ?_
   refine RW.callF (ars := [.one (.r (.v (.int .i64 ej)))]) rfl (f_h ej) rfl rfl (.cons (.one (.r .r)) .nil) ?_
   refine RW.v rfl (V.not rfl rfl) ?_
   refine RW.nil ?_
   refine CW.le [(0, .w (sl 1 cI b) (g 0 0)), (1, .r (.f (some f_id) f_ts)), (5, I (i : Int)), (6, I (j : Int)), (7, I ej), (29, Bo (!(f_p ej)))] rfl (Le.of rfl) ?_
   refine CW.cond rfl (fun h4 => ?_) (fun h4 => ?_)
   ·skip
    refine CW.seq ?_
    refine CW.region ?_
    refine RW.v rfl (V.mv (d := .al 0 none 1 b.length (g 0 0) 0) rfl rfl) ?_
    refine RW.v rfl (V.mv (d := I (i : Int)) rfl rfl) ?_
    refine RW.v rfl (V.mv (d := I ej) rfl rfl) ?_
    refine RW.v rfl (V.indexW rfl rfl rfl rfl rfl rfl rfl (by omega)) ?_
    refine RW.storeS1 (v := ej) (c := cI) (u := .v (.int .i64 ej)) rfl rfl rfl rfl rfl rfl rfl (.inl rfl) rfl cI.len (by omega) rfl ?_
    refine RW.nil ?_
    refine CW.le [(0, .w (sl 1 cI (b.set i ej)) (g 0 0)), (1, .r (.f (some f_id) f_ts)), (5, I (i : Int)), (6, I (j : Int))] rfl (Le.of rfl) ?_
    refine CW.region ?_
    refine RW.v rfl (V.mv (d := I (i : Int)) rfl rfl) ?_
    refine RW.v rfl (V.inc rfl rfl rfl (show i < a.length by omega) hl0) ?_
    refine RW.v rfl (V.as (d := I ((i + 1 : Nat) : Int)) rfl rfl) ?_
    refine RW.nil ?_
    refine CW.le [(0, .w (sl 1 cI (b.set i ej)) (g 0 0)), (1, .r (.f (some f_id) f_ts)), (5, I ((i + 1 : Nat) : Int)), (6, I (j : Int))] rfl (Le.of rfl) ?_
    refine CW.region ?_
    refine RW.v rfl (V.mv (d := I (j : Int)) rfl rfl) ?_
    refine RW.v rfl (V.inc rfl rfl rfl (show j < a.length by omega) hl0) ?_
    refine RW.v rfl (V.as (d := I ((j + 1 : Nat) : Int)) rfl rfl) ?_
    refine RW.nil ?_
    exact ⟨(i + 1, j + 1, (b.set i ej)), by simp only []; omega, (by first | exact hP.keep hej h4 | exact hP.skip hej h4), rfl, Le.c rfl <| Le.c rfl <| Le.c rfl <| Le.c rfl <| Le.e⟩
   ·skip
    refine CW.skip ?_
    refine CW.le [(0, .w (sl 1 cI b) (g 0 0)), (1, .r (.f (some f_id) f_ts)), (5, I (i : Int)), (6, I (j : Int))] rfl (Le.of rfl) ?_
    refine CW.region ?_
    refine RW.v rfl (V.mv (d := I (j : Int)) rfl rfl) ?_
    refine RW.v rfl (V.inc rfl rfl rfl (show j < a.length by omega) hl0) ?_
    refine RW.v rfl (V.as (d := I ((j + 1 : Nat) : Int)) rfl rfl) ?_
    refine RW.nil ?_
    exact ⟨(i, j + 1, b), by simp only []; omega, (by first | exact hP.keep hej h4 | exact hP.skip hej h4), rfl, Le.c rfl <| Le.c rfl <| Le.c rfl <| Le.c rfl <| Le.e⟩
  ·skip
   have hij : b.length ≤ j := by have := h3; simp at this; first | exact this | omega | (simp; done) | (simp; omega)
   have hdj : b.drop j = [] := List.drop_eq_nil_of_le hij
   refine CW.exit ?_
   refine CW.le [(0, .w (sl 1 cI b) (g 0 0)), (5, I (i : Int))] rfl (Le.of rfl) ?_
   refine CW.seq ?_
   refine CW.region ?_
   refine RW.v rfl (V.mv (d := .al 0 none 1 b.length (g 0 0) 0) rfl rfl) ?_
   refine RW.v rfl (V.mv (d := I (i : Int)) rfl rfl) ?_
   refine RW.v rfl (V.sliceLo (m := i) rfl rfl rfl rfl rfl rfl rfl (by first | omega | (simp; omega))) ?_
   refine RW.clearT (0) rfl rfl rfl rfl rfl rfl rfl rfl rfl rfl rfl (fun _ => ⟨_, rfl⟩) rfl (by first | omega | (simp; omega)) ?_
   refine RW.nil ?_
   refine CW.le [(0, .w (sl 1 cI (b.take i ++ List.replicate (b.length - i) 0)) (g 0 0)), (5, I (i : Int))] rfl (Le.of rfl) ?_
   refine CW.seq ?_
   refine CW.region ?_
   refine RW.v rfl (V.mv (d := .al 0 none 1 ((b.take i ++ List.replicate (b.length - i) 0).length) (g 0 0) 0) rfl rfl) ?_
   refine RW.v rfl (V.mv (d := I (i : Int)) rfl rfl) ?_
   refine RW.takeOwn (m := i) rfl rfl rfl rfl rfl rfl rfl rfl rfl cI.len (by first | omega | (simp; omega)) (by decide) (Nat.le_of_ble_eq_true rfl) fun Y5 => ?_
   refine RW.assignMove rfl rfl rfl (by decide) (Nat.le_of_ble_eq_true rfl) (Nat.le_of_ble_eq_true rfl) ?_
   refine RW.nil ?_
   refine CW.le [(4, .w (sl 1 cI ((b.take i ++ List.replicate (b.length - i) 0).take i)) Y5)] rfl (Le.of rfl) ?_
   refine CW.ret ?_
   exact Post.one (RV.w rfl (by exact hP.fin hij)) (AOs.gn (AOs.r AOs.e))
set_option maxHeartbeats 4000000 in
theorem impl_without_1_fn (x : Int) (c : Int) : Eng.Fn E.P 130 [.one (.r (.v (.int .i64 x))), .one (.r (.f none [.v (.int .i64 c)]))] (.one (.one (.w (.v (.bool (x == c)))))) [.one (.r (.v (.int .i64 x))), .one (.r (.f none [.v (.int .i64 c)]))] := by
 refine Eng.Fn.intro (E := E) (rvs := [.tmp 3]) Try.func130 rfl rfl rfl (by simp [outSlots, moved, rvSlot, sl]) ?_
 intro B g bo
 refine CW.asRp 1 rfl ?_
 refine CW.le [(0, I x), (1, .rp [.v (.int .i64 c)])] rfl (Le.of rfl) ?_
 refine CW.seq ?_
 refine CW.region ?_
 refine RW.v rfl (V.as (d := Bo false) rfl rfl) ?_
 refine RW.nil ?_
 refine CW.le [(0, I x), (1, .rp [.v (.int .i64 c)])] rfl (Le.of rfl) ?_
 refine CW.seq ?_
 refine CW.region ?_
 refine RW.v rfl (V.mv (d := I x) rfl rfl) ?_
 refine RW.v rfl (V.loadPrimR (t0 := .v (.int .i64 c)) rfl rfl (.inl rfl) rfl rfl) ?_
 refine RW.v rfl (V.cmpInt rfl rfl rfl rfl) ?_
 refine RW.v rfl (V.as (d := Bo (x == c)) rfl rfl) ?_
 refine RW.nil ?_
 refine CW.le [(3, Bo (x == c))] rfl (Le.of rfl) ?_
 refine CW.ret ?_
 exact Post.one (RV.b rfl (by rfl)) (AOs.r (AOs.r AOs.e))
set_option maxHeartbeats 4000000 in
theorem impl_without_fn (a : List Int) (n : Int) (hm : a.length ≤ 1048576) : Eng.Fn E.P 98 [.one (.r (sl 1 cI a)), .one (.r (.v (.int .i64 n)))] (.one (.one (.w (sl 1 cI (others a n))))) [.one (.r (sl 1 cI a)), .one (.r (.v (.int .i64 n)))] := by
 refine Eng.Fn.intro (E := E) (rvs := [.tmp 4]) Try.func98 rfl rfl rfl (by simp [outSlots, moved, rvSlot, sl]) ?_
 intro B g bo
 refine CW.bound (x := .tmp 0) (n := a.length) (AsT.r) (fun hl0 => ?_)
 refine CW.le [(0, .r (sl 1 cI a)), (1, I n)] rfl (Le.of rfl) ?_
 refine CW.seq ?_
 refine CW.region ?_
 refine RW.box1 rfl rfl rfl rfl fun b1 => ?_
 refine RW.v rfl (V.as (d := .r (.v (.slice none 0 0))) rfl rfl) ?_
 refine RW.nil ?_
 refine CW.le [(0, .r (sl 1 cI a)), (3, .obj b1 [I n])] rfl (Le.of rfl) ?_
 refine CW.seq ?_
 refine CW.region ?_
 refine RW.v rfl (V.mv (d := .r (sl 1 cI a)) rfl rfl) ?_
 refine RW.call rfl (impl_copyInts_fn a hm) rfl (.cons (.one (.r .r)) (.nil)) fun g2 => ?_
 refine RW.freezeB (ts := [.v (.int .i64 n)]) 3 rfl (DRd.r DRd.e) ?_
 refine RW.v rfl (V.mkFunc rfl rfl) ?_
 refine RW.callW (k := 6) (slices_DeleteFunc___int_int__fn a 130 ([.v (.int .i64 n)]) (fun x => x == n) (fun x => impl_without_1_fn x n)) rfl rfl (Nat.le_of_ble_eq_true rfl) (by decide) (.here (AsW.gone) (.cons (.one (.r .r)) (.nil))) rfl fun g3 q4 => ?_
 refine RW.assignMove rfl rfl rfl (by decide) (Nat.le_of_ble_eq_true rfl) (Nat.le_of_ble_eq_true rfl) ?_
 refine RW.nil ?_
 refine CW.le [(4, .w (sl 1 cI (a.filter (fun x => !(fun x => x == n) x))) (g3 0 0))] rfl (Le.of rfl) ?_
 refine CW.ret ?_
 exact Post.one (RV.w rfl (by rfl)) (AOs.r (AOs.r AOs.e))
set_option maxHeartbeats 4000000 in
theorem slices_Equal___int_int__fn (a : List Int) (b : List Int) : Eng.Fn E.P 121 [.one (.r (sl 1 cI a)), .one (.r (sl 1 cI b))] (.one (.one (.w (.v (.bool (eqS eqI a b)))))) [.one (.r (sl 1 cI a)), .one (.r (sl 1 cI b))] := by
 refine Eng.Fn.intro (E := E) (rvs := [.tmp 4]) Try.func121 rfl rfl rfl (by simp [outSlots, moved, rvSlot, sl]) ?_
 intro B g bo
 refine CW.bound (x := .tmp 0) (n := a.length) (AsT.r) (fun hl0 => ?_)
 refine CW.bound (x := .tmp 1) (n := b.length) (AsT.r) (fun hl1 => ?_)
 refine CW.le [(0, .r (sl 1 cI a)), (1, .r (sl 1 cI b))] rfl (Le.of rfl) ?_
 refine CW.seq ?_
 refine CW.region ?_
 refine RW.v rfl (V.as (d := Bo false) rfl rfl) ?_
 refine RW.nil ?_
 refine CW.le [(0, .r (sl 1 cI a)), (1, .r (sl 1 cI b))] rfl (Le.of rfl) ?_
 refine CW.seq ?_
 refine CW.seq ?_
 refine CW.region ?_
 refine RW.v rfl (V.mv (d := .r (sl 1 cI a)) rfl rfl) ?_
 refine RW.v rfl (V.lenT (n := a.length) rfl rfl rfl .r) ?_
 refine RW.v rfl (V.mv (d := .r (sl 1 cI b)) rfl rfl) ?_
 refine RW.v rfl (V.lenT (n := b.length) rfl rfl rfl .r) ?_
 refine RW.v rfl (V.cmpInt rfl rfl rfl rfl) ?_
 refine RW.nil ?_
 refine CW.le [(0, .r (sl 1 cI a)), (1, .r (sl 1 cI b)), (10, Bo ((a.length : Int) != (b.length : Int)))] rfl (Le.of rfl) ?_
 refine CW.cond rfl (fun h1 => ?_) (fun h1 => ?_)
 ·skip
  refine CW.seq ?_
  refine CW.region ?_
  refine RW.v rfl (V.as (d := Bo false) rfl rfl) ?_
  refine RW.nil ?_
  refine CW.le [(4, Bo false)] rfl (Le.of rfl) ?_
  refine CW.ret ?_
  exact Post.one (RV.b rfl (by exact (eqS_ne (by have := h1; simp at this; omega)).symm)) (AOs.r (AOs.r AOs.e))
 ·skip
  refine CW.skip ?_
  refine CW.le [(0, .r (sl 1 cI a)), (1, .r (sl 1 cI b))] rfl (Le.of rfl) ?_
  refine CW.seq ?_
  refine CW.seq ?_
  refine CW.region ?_
  refine RW.v rfl (V.mv (d := .r (sl 1 cI a)) rfl rfl) ?_
  refine RW.v rfl (V.lenT (n := a.length) rfl rfl rfl .r) ?_
  refine RW.v rfl (V.mv (d := I 0) rfl rfl) ?_
  refine RW.nil ?_
  refine CW.le [(0, .r (sl 1 cI a)), (1, .r (sl 1 cI b)), (12, I (a.length : Int)), (13, I 0)] rfl (Le.of rfl) ?_
  refine CW.block ?_
  refine CW.loopI 26 (fun (i : Nat) => [(0, .r (sl 1 cI a)), (1, .r (sl 1 cI b)), (12, I (a.length : Int)), (13, I (i : Int))]) (fun (i : Nat) => i ≤ a.length ∧ eqS eqI (a.drop i) (b.drop i) = eqS eqI a b) (fun (i : Nat) => a.length - i) 0 rfl (Le.c rfl <| Le.c rfl <| Le.c rfl <| Le.c rfl <| Le.e) ⟨by omega, by simp⟩ ?_
  rintro i ⟨hb, hr⟩
  have hlen : a.length = b.length := by simp at h1; omega
  refine CW.seq ?_
  refine CW.region ?_
  refine RW.v rfl (V.cmpInt rfl rfl rfl rfl) ?_
  refine RW.nil ?_
  refine CW.le [(0, .r (sl 1 cI a)), (1, .r (sl 1 cI b)), (12, I (a.length : Int)), (13, I (i : Int)), (14, Bo (decide ((i : Int) < (a.length : Int))))] rfl (Le.of rfl) ?_
  refine CW.seq ?_
  refine CW.cond rfl (fun h2 => ?_) (fun h2 => ?_)
  ·skip
   have hii : i < a.length := by have := h2; simp at this; first | exact this | omega | (simp; done) | (simp; omega)
   obtain ⟨ei, hei⟩ : ∃ e, a[i]? = some e := ⟨_, List.getElem?_eq_getElem hii⟩
   have hdi := drop_get hei
   have hib : i < b.length := by omega
   obtain ⟨eb, heb⟩ : ∃ e, b[i]? = some e := ⟨_, List.getElem?_eq_getElem hib⟩
   have hdb := drop_get heb
   refine CW.skip ?_
   refine CW.le [(0, .r (sl 1 cI a)), (1, .r (sl 1 cI b)), (12, I (a.length : Int)), (13, I (i : Int))] rfl (Le.of rfl) ?_
   refine CW.seq ?_
   refine CW.block ?_
   refine CW.seq ?_
   refine CW.region ?_
   refine RW.v rfl (V.mv (d := I (i : Int)) rfl rfl) ?_
   refine RW.v rfl (V.as (d := I (i : Int)) rfl rfl) ?_
   refine RW.nil ?_
   refine CW.le [(0, .r (sl 1 cI a)), (1, .r (sl 1 cI b)), (5, I (i : Int)), (12, I (a.length : Int)), (13, I (i : Int))] rfl (Le.of rfl) ?_
   refine CW.seq ?_
   refine CW.drawn (by kernel_rfl) ?_
   refine RQ.v rfl (V.mv (d := .r (sl 1 cI a)) rfl rfl) ?_
   refine RQ.v rfl (V.mv (d := I (i : Int)) rfl rfl) ?_
   refine RQ.v rfl (V.indexS rfl rfl rfl rfl rfl rfl cI.len hei) ?_
   refine RQ.v rfl (V.loadPrimR (t0 := .v (.int .i64 ei)) rfl rfl (.inl rfl) rfl rfl) ?_
   refine RQ.v rfl (V.mv (d := .r (sl 1 cI b)) rfl rfl) ?_
   refine RQ.v rfl (V.mv (d := I (i : Int)) rfl rfl) ?_
   refine RQ.v rfl (V.indexS rfl rfl rfl rfl rfl rfl cI.len heb) ?_
   refine RQ.v rfl (V.loadPrimR (t0 := .v (.int .i64 eb)) rfl rfl (.inl rfl) rfl rfl) ?_
   refine RQ.v rfl (V.cmpInt rfl rfl rfl rfl) ?_
   refine RQ.nil ?_
   refine CW.le [(0, .r (sl 1 cI a)), (1, .r (sl 1 cI b)), (12, I (a.length : Int)), (13, I (i : Int)), (24, Bo (ei != eb))] rfl (Le.of rfl) ?_
   refine CW.cond rfl (fun h3 => ?_) (fun h3 => ?_)
   ·skip
    refine CW.seq ?_
    refine CW.region ?_
    refine RW.v rfl (V.as (d := Bo false) rfl rfl) ?_
    refine RW.nil ?_
    refine CW.le [(4, Bo false)] rfl (Le.of rfl) ?_
    refine CW.ret ?_
    exact Post.one (RV.b rfl (by rw [← hr, hdi, hdb]; simp_all [eqS, eqI])) (AOs.r (AOs.r AOs.e))
   ·skip
    refine CW.skip ?_
    refine CW.le [(0, .r (sl 1 cI a)), (1, .r (sl 1 cI b)), (12, I (a.length : Int)), (13, I (i : Int))] rfl (Le.of rfl) ?_
    refine CW.region ?_
    refine RW.v rfl (V.inc rfl rfl rfl hii hl0) ?_
    refine RW.v rfl (V.mv (d := I ((i + 1 : Nat) : Int)) rfl rfl) ?_
    refine RW.nil ?_
    exact ⟨i + 1, by omega, ⟨by omega, by simp_all [eqS, eqI]⟩, rfl, Le.c rfl <| Le.c rfl <| Le.c rfl <| Le.c rfl <| Le.e⟩
  ·skip
   have hii : a.length ≤ i := by have := h2; simp at this; first | exact this | omega | (simp; done) | (simp; omega)
   have hdi : a.drop i = [] := List.drop_eq_nil_of_le hii
   refine CW.exit ?_
   refine CW.le [] rfl (Le.of rfl) ?_
   refine CW.seq ?_
   refine CW.region ?_
   refine RW.v rfl (V.as (d := Bo true) rfl rfl) ?_
   refine RW.nil ?_
   refine CW.le [(4, Bo true)] rfl (Le.of rfl) ?_
   refine CW.ret ?_
   exact Post.one (RV.b rfl (by rw [← hr, hdi, List.drop_eq_nil_of_le (show b.length ≤ i by omega)]; rfl)) (AOs.r (AOs.r AOs.e))
set_option maxHeartbeats 4000000 in
theorem impl_lastConf_fn (n : Node) (idx : Int) (hok : okToNode n) : Eng.Fn E.P 113 [.agg ((Node.c n).map .r), .one (.r (.v (.int .i64 idx)))] (.tup [.one (.w (.v (.int .i64 ((lastC n idx).1)))), .one (.w (sl 1 cI ((lastC n idx).2)))]) [.agg ((Node.c n).map .r), .one (.r (.v (.int .i64 idx)))] := by
 refine Eng.Fn.intro (E := E) (rvs := [.tmp 4, .tmp 5]) Try.func113 rfl rfl rfl (by simp [outSlots, moved, rvSlot, sl]) ?_
 intro B g bo
 refine CW.le [(0, .agg ((Node.c n).map .r)), (1, I idx)] rfl (Le.of rfl) ?_
 have hl0 : n.log.entries.length ≤ maxLen := by have := hok.2.1.1; simp only [maxLen]; omega
 refine CW.seq ?_
 refine CW.region ?_
 refine RW.box (ds := ((Node.c n).map .r)) rfl rfl rfl fun b1 => ?_
 refine RW.v rfl (V.as (d := I 0) rfl rfl) ?_
 refine RW.v rfl (V.as (d := .r (.v (.slice none 0 0))) rfl rfl) ?_
 refine RW.nil ?_
 refine CW.le [(1, I idx), (2, .obj b1 ((Node.c n).map .r))] rfl (Le.of rfl) ?_
 refine CW.seq ?_
 refine CW.seq ?_
 refine CW.region ?_
 refine RW.v rfl (V.field rfl rfl rfl rfl (by decide) rfl) ?_
 refine RW.v rfl (V.field rfl rfl rfl rfl (by decide) rfl) ?_
 refine RW.v rfl (V.loadPrim (d := .r (sl 3 Entry.c n.log.entries)) rfl rfl (.inr ⟨_, rfl⟩) rfl rfl rfl) ?_
 refine RW.v rfl (V.lenT (n := n.log.entries.length) rfl rfl rfl .r) ?_
 refine RW.v rfl (V.arInt rfl rfl rfl rfl) ?_
 refine RW.v rfl (V.as (d := I (IntKind.i64.wrap ((n.log.entries.length : Int) - 1))) rfl rfl) ?_
 refine RW.nil ?_
 refine CW.le [(1, I idx), (2, .obj b1 ((Node.c n).map .r)), (6, I (IntKind.i64.wrap ((n.log.entries.length : Int) - 1)))] rfl (Le.of rfl) ?_
 refine CW.block ?_
 refine CW.loopI 57 (fun (i : Nat) => [(1, I idx), (2, .obj b1 ((Node.c n).map .r)), (6, I ((i : Int) - 1))]) (fun (i : Nat) => i ≤ n.log.entries.length ∧ lcGo n.log.start idx n.log.entries i = lcGo n.log.start idx n.log.entries n.log.entries.length) (fun (i : Nat) => i) n.log.entries.length rfl (Le.c rfl <| Le.c rfl <| Le.c (congrArg I (wrap_pred hl0)) <| Le.e) ⟨by omega, rfl⟩ ?_
 rintro i ⟨hb, hr⟩
 refine CW.seq ?_
 refine CW.seq ?_
 refine CW.region ?_
 refine RW.v rfl (V.mv (d := I ((i : Int) - 1)) rfl rfl) ?_
 refine RW.v rfl (V.cmpInt rfl rfl rfl rfl) ?_
 refine RW.nil ?_
 refine CW.le [(1, I idx), (2, .obj b1 ((Node.c n).map .r)), (6, I ((i : Int) - 1)), (16, Bo (decide (((i : Int) - 1) ≥ 0)))] rfl (Le.of rfl) ?_
 refine CW.cond rfl (fun h2 => ?_) (fun h2 => ?_)
 ·skip
  have hi1 : 0 < i := by simp at h2; omega
  refine CW.skip ?_
  refine CW.le [(1, I idx), (2, .obj b1 ((Node.c n).map .r)), (6, I ((i : Int) - 1))] rfl (Le.of rfl) ?_
  refine CW.seq ?_
  refine CW.block ?_
  refine CW.seq ?_
  refine CW.region ?_
  refine RW.v rfl (V.field rfl rfl rfl rfl (by decide) rfl) ?_
  refine RW.v rfl (V.field rfl rfl rfl rfl (by decide) rfl) ?_
  refine RW.v rfl (V.loadPrim (d := .r (sl 3 Entry.c n.log.entries)) rfl rfl (.inr ⟨_, rfl⟩) rfl rfl rfl) ?_
  refine RW.v rfl (V.mv (d := I ((i : Int) - 1)) rfl rfl) ?_
  refine RW.v rfl (V.indexZ (m := (i - 1)) (v := (n.log.entries.getD (i - 1) Entry.z)) rfl rfl rfl rfl rfl rfl (by omega) Entry.len (getD_some (by omega))) ?_
  refine RW.v rfl (V.loadAggR rfl rfl rfl rfl (Nat.le_of_ble_eq_true rfl)) ?_
  refine RW.alloc (ds := [I 0, I 0, S (⟨#[]⟩)]) rfl rfl rfl rfl fun b3 => ?_
  refine RW.storeAgg (es := ((Entry.c (n.log.entries.getD (i - 1) Entry.z)).map .r)) rfl rfl rfl rfl rfl rfl rfl rfl (Nat.le_of_ble_eq_true rfl) rfl ?_
  refine RW.nil ?_
  refine CW.le [(1, I idx), (2, .obj b1 ((Node.c n).map .r)), (6, I ((i : Int) - 1)), (7, .obj b3 ((Entry.c (n.log.entries.getD (i - 1) Entry.z)).map .r))] rfl (Le.of rfl) ?_
  refine CW.seq ?_
  refine CW.region ?_
  refine RW.v rfl (V.field rfl rfl rfl rfl (by decide) rfl) ?_
  refine RW.v rfl (V.loadPrim (d := S ((n.log.entries.getD (i - 1) Entry.z).data)) rfl rfl (.inl rfl) rfl rfl rfl) ?_
  refine RW.call rfl (impl_ReadConf_fn ((n.log.entries.getD (i - 1) Entry.z).data) (hok.2.1.2 _ (getD_mem (by omega)))) rfl (.cons (.one (.r .r)) (.nil)) fun g4 => ?_
  refine RW.moveMove rfl rfl rfl (by decide) (Nat.le_of_ble_eq_true rfl) (Nat.le_of_ble_eq_true rfl) ?_
  refine RW.extract (d := .w (sl 1 cI ((readConf ((n.log.entries.getD (i - 1) Entry.z).data)).1)) (g4 0 0)) rfl rfl rfl (by decide) (Nat.le_of_ble_eq_true rfl) rfl rfl ?_
  refine RW.extract (d := Bo ((readConf ((n.log.entries.getD (i - 1) Entry.z).data)).2)) rfl rfl rfl (by decide) (Nat.le_of_ble_eq_true rfl) rfl rfl ?_
  refine RW.assignMove rfl rfl rfl (by decide) (Nat.le_of_ble_eq_true rfl) (Nat.le_of_ble_eq_true rfl) ?_
  refine RW.v rfl (V.as (d := Bo ((readConf ((n.log.entries.getD (i - 1) Entry.z).data)).2)) rfl rfl) ?_
  refine RW.nil ?_
  refine CW.le [(1, I idx), (2, .obj b1 ((Node.c n).map .r)), (6, I ((i : Int) - 1)), (7, .obj b3 ((Entry.c (n.log.entries.getD (i - 1) Entry.z)).map .r)), (8, .w (sl 1 cI ((readConf ((n.log.entries.getD (i - 1) Entry.z).data)).1)) (g4 0 0)), (9, Bo ((readConf ((n.log.entries.getD (i - 1) Entry.z).data)).2))] rfl (Le.of rfl) ?_
  refine CW.seqJ 57 (fun (v5 : Bool) => [(1, I idx), (2, .obj b1 ((Node.c n).map .r)), (6, I ((i : Int) - 1)), (8, .w (sl 1 cI ((readConf ((n.log.entries.getD (i - 1) Entry.z).data)).1)) (g4 0 0)), (46, Bo v5)]) (fun v5 => v5 = ((((readConf ((n.log.entries.getD (i - 1) Entry.z).data)).2) && ((n.log.entries.getD (i - 1) Entry.z).kind == 2)) && decide ((IntKind.i64.wrap ((IntKind.i64.wrap (n.log.start + ((i : Int) - 1))) + 1)) ≤ idx))) ?_ ?_
  ·refine CW.region ?_
   refine RW.v rfl (V.mv (d := Bo ((readConf ((n.log.entries.getD (i - 1) Entry.z).data)).2)) rfl rfl) ?_
   refine RW.v rfl (V.mv (d := Bo ((readConf ((n.log.entries.getD (i - 1) Entry.z).data)).2)) rfl rfl) ?_
   refine RW.gv rfl rfl rfl rfl (fun h6 => V.field rfl rfl rfl rfl (by decide) rfl) (fun h6 => ?_) (fun h6 => ?_)
   ·skip
    refine RW.gt rfl rfl rfl rfl (V.loadPrim (d := I ((n.log.entries.getD (i - 1) Entry.z).kind)) rfl rfl (.inl rfl) rfl rfl rfl) ?_
    refine RW.gt rfl rfl rfl rfl (V.cmpInt rfl rfl rfl rfl) ?_
    refine RW.v rfl (V.pickT (d := Bo ((n.log.entries.getD (i - 1) Entry.z).kind == 2)) rfl rfl rfl) ?_
    refine RW.v rfl (V.mv (d := Bo ((n.log.entries.getD (i - 1) Entry.z).kind == 2)) rfl rfl) ?_
    refine RW.gv rfl rfl rfl rfl (fun h7 => V.field rfl rfl rfl rfl (by decide) rfl) (fun h7 => ?_) (fun h7 => ?_)
    ·skip
     refine RW.gt rfl rfl rfl rfl (V.field rfl rfl rfl rfl (by decide) rfl) ?_
     refine RW.gt rfl rfl rfl rfl (V.loadPrim (d := I n.log.start) rfl rfl (.inl rfl) rfl rfl rfl) ?_
     refine RW.gt rfl rfl rfl rfl (V.mv (d := I ((i : Int) - 1)) rfl rfl) ?_
     refine RW.gt rfl rfl rfl rfl (V.arInt rfl rfl rfl rfl) ?_
     refine RW.gt rfl rfl rfl rfl (V.arInt rfl rfl rfl rfl) ?_
     refine RW.gt rfl rfl rfl rfl (V.mv (d := I idx) rfl rfl) ?_
     refine RW.gt rfl rfl rfl rfl (V.cmpInt rfl rfl rfl rfl) ?_
     refine RW.v rfl (V.pickT (d := Bo (decide ((IntKind.i64.wrap ((IntKind.i64.wrap (n.log.start + ((i : Int) - 1))) + 1)) ≤ idx))) rfl rfl rfl) ?_
     refine RW.nil ?_
     exact ⟨_, by first | rfl | (simp_all; done) | (simp_all; omega) | grind, rfl, Le.c rfl <| Le.c rfl <| Le.c rfl <| Le.c rfl <| Le.c rfl <| Le.e⟩
    ·skip
     refine RW.guardF rfl rfl rfl rfl ?_
     refine RW.guardF rfl rfl rfl rfl ?_
     refine RW.guardF rfl rfl rfl rfl ?_
     refine RW.guardF rfl rfl rfl rfl ?_
     refine RW.guardF rfl rfl rfl rfl ?_
     refine RW.guardF rfl rfl rfl rfl ?_
     refine RW.guardF rfl rfl rfl rfl ?_
     refine RW.v rfl (V.pickF (d := Bo false) rfl rfl rfl) ?_
     refine RW.nil ?_
     exact ⟨_, by first | rfl | (simp_all; done) | (simp_all; omega) | grind, rfl, Le.c rfl <| Le.c rfl <| Le.c rfl <| Le.c rfl <| Le.c rfl <| Le.e⟩
   ·skip
    refine RW.guardF rfl rfl rfl rfl ?_
    refine RW.guardF rfl rfl rfl rfl ?_
    refine RW.v rfl (V.pickF (d := Bo false) rfl rfl rfl) ?_
    refine RW.v rfl (V.mv (d := Bo false) rfl rfl) ?_
    refine RW.guardF rfl rfl rfl rfl ?_
    refine RW.guardF rfl rfl rfl rfl ?_
    refine RW.guardF rfl rfl rfl rfl ?_
    refine RW.guardF rfl rfl rfl rfl ?_
    refine RW.guardF rfl rfl rfl rfl ?_
    refine RW.guardF rfl rfl rfl rfl ?_
    refine RW.guardF rfl rfl rfl rfl ?_
    refine RW.guardF rfl rfl rfl rfl ?_
    refine RW.v rfl (V.pickF (d := Bo false) rfl rfl rfl) ?_
    refine RW.nil ?_
    exact ⟨_, by first | rfl | (simp_all; done) | (simp_all; omega) | grind, rfl, Le.c rfl <| Le.c rfl <| Le.c rfl <| Le.c rfl <| Le.c rfl <| Le.e⟩
  ·intro v5 hv8
   refine CW.cond rfl (fun h9 => ?_) (fun h9 => ?_)
   ·skip
    refine CW.seq ?_
    refine CW.region ?_
    refine RW.v rfl (V.field rfl rfl rfl rfl (by decide) rfl) ?_
    refine RW.v rfl (V.field rfl rfl rfl rfl (by decide) rfl) ?_
    refine RW.v rfl (V.loadPrim (d := I n.log.start) rfl rfl (.inl rfl) rfl rfl rfl) ?_
    refine RW.v rfl (V.mv (d := I ((i : Int) - 1)) rfl rfl) ?_
    refine RW.v rfl (V.arInt rfl rfl rfl rfl) ?_
    refine RW.v rfl (V.arInt rfl rfl rfl rfl) ?_
    refine RW.v rfl (V.mv (d := .al 8 none 1 (((readConf ((n.log.entries.getD (i - 1) Entry.z).data)).1).length) (g4 0 0) 0) rfl rfl) ?_
    refine RW.v rfl (V.as (d := I (IntKind.i64.wrap ((IntKind.i64.wrap (n.log.start + ((i : Int) - 1))) + 1))) rfl rfl) ?_
    refine RW.v rfl (V.as (d := .al 8 none 1 (((readConf ((n.log.entries.getD (i - 1) Entry.z).data)).1).length) (g4 0 0) 0) rfl rfl) ?_
    refine RW.pullS 5 8 (by decide) rfl rfl ?_
    refine RW.nil ?_
    refine CW.le [(4, I (IntKind.i64.wrap ((IntKind.i64.wrap (n.log.start + ((i : Int) - 1))) + 1))), (5, .w (sl 1 cI ((readConf ((n.log.entries.getD (i - 1) Entry.z).data)).1)) (g4 0 0))] rfl (Le.of rfl) ?_
    refine CW.ret ?_
    exact Post.tup (by decide) (RVs.c (RV.i rfl (by rw [lastC, ← hr, lc_at hi1, if_pos (by rw [← hv8]; exact h9)]; rfl)) (RVs.c (RV.w rfl (by rw [lastC, ← hr, lc_at hi1, if_pos (by rw [← hv8]; exact h9)]; rfl)) RVs.e)) (AOs.a rfl (AOs.r AOs.e))
   ·skip
    refine CW.skip ?_
    refine CW.le [(1, I idx), (2, .obj b1 ((Node.c n).map .r)), (6, I ((i : Int) - 1))] rfl (Le.of rfl) ?_
    refine CW.region ?_
    refine RW.v rfl (V.mv (d := I ((i : Int) - 1)) rfl rfl) ?_
    refine RW.v rfl (V.arInt rfl rfl rfl rfl) ?_
    refine RW.v rfl (V.as (d := I (IntKind.i64.wrap (((i : Int) - 1) - 1))) rfl rfl) ?_
    refine RW.nil ?_
    exact ⟨i - 1, by omega, ⟨by omega, by rw [← hr, lc_at hi1, if_neg (by rw [← hv8, h9]; simp)]⟩, rfl, Le.c rfl <| Le.c rfl <| Le.c (congrArg I (wrap_pp hi1 hb hl0)) <| Le.e⟩
 ·skip
  have hi0 : i = 0 := by simp at h2; omega
  refine CW.exit ?_
  refine CW.le [(2, .obj b1 ((Node.c n).map .r))] rfl (Le.of rfl) ?_
  refine CW.seq ?_
  refine CW.region ?_
  refine RW.v rfl (V.field rfl rfl rfl rfl (by decide) rfl) ?_
  refine RW.v rfl (V.loadPrim (d := .r (sl 1 cI n.conf)) rfl rfl (.inr ⟨_, rfl⟩) rfl rfl rfl) ?_
  refine RW.call rfl (impl_copyInts_fn n.conf (hok.1.1)) rfl (.cons (.one (.r .r)) (.nil)) fun g10 => ?_
  refine RW.v rfl (V.as (d := I (-1)) rfl rfl) ?_
  refine RW.assignMove rfl rfl rfl (by decide) (Nat.le_of_ble_eq_true rfl) (Nat.le_of_ble_eq_true rfl) ?_
  refine RW.nil ?_
  refine CW.le [(4, I (-1)), (5, .w (sl 1 cI n.conf) (g10 0 0))] rfl (Le.of rfl) ?_
  refine CW.ret ?_
  exact Post.tup (by decide) (RVs.c (RV.i rfl (by subst hi0; rw [lastC, ← hr]; rfl)) (RVs.c (RV.w rfl (by subst hi0; rw [lastC, ← hr]; rfl)) RVs.e)) (AOs.a rfl (AOs.r AOs.e))
set_option maxHeartbeats 4000000 in
theorem impl_ConfOf_fn (n : Node) (hok : okToNode n) : Eng.Fn E.P 44 [.agg ((Node.c n).map .r)] (.one (.one (.w (sl 1 cI ((lastC n (logLast n.log).1).2))))) [.agg ((Node.c n).map .r)] := by
 refine Eng.Fn.intro (E := E) (rvs := [.tmp 2]) Try.func44 rfl rfl rfl (by simp [outSlots, moved, rvSlot, sl]) ?_
 intro B g bo
 refine CW.le [(0, .agg ((Node.c n).map .r))] rfl (Le.of rfl) ?_
 refine CW.seq ?_
 refine CW.region ?_
 refine RW.box (ds := ((Node.c n).map .r)) rfl rfl rfl fun b1 => ?_
 refine RW.v rfl (V.as (d := .r (.v (.slice none 0 0))) rfl rfl) ?_
 refine RW.nil ?_
 refine CW.le [(1, .obj b1 ((Node.c n).map .r))] rfl (Le.of rfl) ?_
 refine CW.seq ?_
 refine CW.region ?_
 refine RW.v rfl (V.field rfl rfl rfl rfl (by decide) rfl) ?_
 refine RW.v rfl (V.loadAgg rfl rfl rfl rfl rfl (Nat.le_of_ble_eq_true rfl)) ?_
 refine RW.call rfl (impl_LogLast_fn n.log (hok.2.1)) rfl (.cons (.agg (.cons (.r .r) (.cons (.r .r) (.cons (.r .r) (.nil))))) (.nil)) fun g2 => ?_
 refine RW.moveMove rfl rfl rfl (by decide) (Nat.le_of_ble_eq_true rfl) (Nat.le_of_ble_eq_true rfl) ?_
 refine RW.extract (d := I ((logLast n.log).1)) rfl rfl rfl (by decide) (Nat.le_of_ble_eq_true rfl) rfl rfl ?_
 refine RW.extract (d := I ((logLast n.log).2)) rfl rfl rfl (by decide) (Nat.le_of_ble_eq_true rfl) rfl rfl ?_
 refine RW.v rfl (V.as (d := I ((logLast n.log).1)) rfl rfl) ?_
 refine RW.v rfl (V.as (d := I ((logLast n.log).2)) rfl rfl) ?_
 refine RW.nil ?_
 refine CW.le [(1, .obj b1 ((Node.c n).map .r)), (3, I ((logLast n.log).1))] rfl (Le.of rfl) ?_
 refine CW.seq ?_
 refine CW.region ?_
 refine RW.v rfl (V.loadAgg rfl rfl rfl rfl rfl (Nat.le_of_ble_eq_true rfl)) ?_
 refine RW.v rfl (V.mv (d := I ((logLast n.log).1)) rfl rfl) ?_
 refine RW.call rfl (impl_lastConf_fn n ((logLast n.log).1) hok) rfl (.cons (.agg (.cons (.r .r) (.cons (.r .r) (.cons (.r .r) (.cons (.r .r) (.cons (.r .r) (.cons (.r .r) (.cons (.r .r) (.cons (.r .r) (.cons (.r .r) (.cons (.r .r) (.cons (.r .r) (.cons (.r .r) (.cons (.r .r) (.cons (.r .r) (.nil)))))))))))))))) (.cons (.one (.r .r)) (.nil))) fun g3 => ?_
 refine RW.moveMove rfl rfl rfl (by decide) (Nat.le_of_ble_eq_true rfl) (Nat.le_of_ble_eq_true rfl) ?_
 refine RW.extract (d := I ((lastC n ((logLast n.log).1)).1)) rfl rfl rfl (by decide) (Nat.le_of_ble_eq_true rfl) rfl rfl ?_
 refine RW.extract (d := .w (sl 1 cI ((lastC n ((logLast n.log).1)).2)) (g3 1 0)) rfl rfl rfl (by decide) (Nat.le_of_ble_eq_true rfl) rfl rfl ?_
 refine RW.v rfl (V.as (d := I ((lastC n ((logLast n.log).1)).1)) rfl rfl) ?_
 refine RW.assignMove rfl rfl rfl (by decide) (Nat.le_of_ble_eq_true rfl) (Nat.le_of_ble_eq_true rfl) ?_
 refine RW.nil ?_
 refine CW.le [(6, .w (sl 1 cI ((lastC n ((logLast n.log).1)).2)) (g3 1 0))] rfl (Le.of rfl) ?_
 refine CW.seq ?_
 refine CW.region ?_
 refine RW.v rfl (V.mv (d := .al 6 none 1 (((lastC n ((logLast n.log).1)).2).length) (g3 1 0) 0) rfl rfl) ?_
 refine RW.v rfl (V.as (d := .al 6 none 1 (((lastC n ((logLast n.log).1)).2).length) (g3 1 0) 0) rfl rfl) ?_
 refine RW.pullS 2 6 (by decide) rfl rfl ?_
 refine RW.nil ?_
 refine CW.le [(2, .w (sl 1 cI ((lastC n ((logLast n.log).1)).2)) (g3 1 0))] rfl (Le.of rfl) ?_
 refine CW.ret ?_
 exact Post.one (RV.w rfl (by rfl)) (AOs.a rfl AOs.e)
set_option maxHeartbeats 4000000 in
theorem impl_peersOk_fn (n : Node) (hok : okToNode n) : Eng.Fn E.P 72 [.agg ((Node.c n).map .r)] (.one (.one (.w (.v (.bool (peersOkB n)))))) [.agg ((Node.c n).map .r)] := by
 refine Eng.Fn.intro (E := E) (rvs := [.tmp 2]) Try.func72 rfl rfl rfl (by simp [outSlots, moved, rvSlot, sl]) ?_
 intro B g bo
 refine CW.le [(0, .agg ((Node.c n).map .r))] rfl (Le.of rfl) ?_
 have hl0 : n.peers.length ≤ maxLen := by have := hok.2.2.2.1; simp only [maxLen]; omega
 refine CW.seq ?_
 refine CW.region ?_
 refine RW.box (ds := ((Node.c n).map .r)) rfl rfl rfl fun b1 => ?_
 refine RW.v rfl (V.as (d := Bo false) rfl rfl) ?_
 refine RW.nil ?_
 refine CW.le [(1, .obj b1 ((Node.c n).map .r))] rfl (Le.of rfl) ?_
 refine CW.seq ?_
 refine CW.region ?_
 refine RW.v rfl (V.field rfl rfl rfl rfl (by decide) rfl) ?_
 refine RW.v rfl (V.loadAgg rfl rfl rfl rfl rfl (Nat.le_of_ble_eq_true rfl)) ?_
 refine RW.call rfl (impl_LogLast_fn n.log (hok.2.1)) rfl (.cons (.agg (.cons (.r .r) (.cons (.r .r) (.cons (.r .r) (.nil))))) (.nil)) fun g2 => ?_
 refine RW.moveMove rfl rfl rfl (by decide) (Nat.le_of_ble_eq_true rfl) (Nat.le_of_ble_eq_true rfl) ?_
 refine RW.extract (d := I ((logLast n.log).1)) rfl rfl rfl (by decide) (Nat.le_of_ble_eq_true rfl) rfl rfl ?_
 refine RW.extract (d := I ((logLast n.log).2)) rfl rfl rfl (by decide) (Nat.le_of_ble_eq_true rfl) rfl rfl ?_
 refine RW.v rfl (V.as (d := I ((logLast n.log).1)) rfl rfl) ?_
 refine RW.v rfl (V.as (d := I ((logLast n.log).2)) rfl rfl) ?_
 refine RW.nil ?_
 refine CW.le [(1, .obj b1 ((Node.c n).map .r)), (3, I ((logLast n.log).1))] rfl (Le.of rfl) ?_
 refine CW.seq ?_
 refine CW.region ?_
 refine RW.build0 cI rfl rfl rfl rfl rfl fun X3 => ?_
 refine RW.assignMove rfl rfl rfl (by decide) (Nat.le_of_ble_eq_true rfl) (Nat.le_of_ble_eq_true rfl) ?_
 refine RW.nil ?_
 refine CW.le [(1, .obj b1 ((Node.c n).map .r)), (3, I ((logLast n.log).1)), (5, .w (sl 1 cI ([] : List Int)) X3)] rfl (Le.of rfl) ?_
 refine CW.seq ?_
 refine CW.seq ?_
 refine CW.region ?_
 refine RW.v rfl (V.field rfl rfl rfl rfl (by decide) rfl) ?_
 refine RW.v rfl (V.loadPrim (d := .r (sl 4 Peer.c n.peers)) rfl rfl (.inr ⟨_, rfl⟩) rfl rfl rfl) ?_
 refine RW.v rfl (V.lenT (n := n.peers.length) rfl rfl rfl .r) ?_
 refine RW.v rfl (V.mv (d := I 0) rfl rfl) ?_
 refine RW.nil ?_
 refine CW.le [(1, .obj b1 ((Node.c n).map .r)), (3, I ((logLast n.log).1)), (5, .w (sl 1 cI ([] : List Int)) X3), (16, .r (sl 4 Peer.c n.peers)), (17, I (n.peers.length : Int)), (18, I 0)] rfl (Le.of rfl) ?_
 refine CW.block ?_
 refine CW.loopI 56 (fun (zz : Nat × Value) => match zz with | (i, X) => [(1, .obj b1 ((Node.c n).map .r)), (3, I ((logLast n.log).1)), (5, .w (sl 1 cI ((n.peers.map (·.id)).take i)) X), (16, .r (sl 4 Peer.c n.peers)), (17, I (n.peers.length : Int)), (18, I (i : Int))]) (fun (zz : Nat × Value) => match zz with | (i, X) => i ≤ n.peers.length ∧ (n.peers.take i).all (pkOk (logLast n.log).1) = true) (fun (zz : Nat × Value) => match zz with | (i, X) => n.peers.length - i) (0, _) rfl (Le.c rfl <| Le.c rfl <| Le.c rfl <| Le.c rfl <| Le.c rfl <| Le.c rfl <| Le.e) ⟨by omega, by simp⟩ ?_
 rintro ⟨i, X⟩ ⟨hb, hr⟩
 refine CW.seq ?_
 refine CW.region ?_
 refine RW.v rfl (V.cmpInt rfl rfl rfl rfl) ?_
 refine RW.nil ?_
 refine CW.le [(1, .obj b1 ((Node.c n).map .r)), (3, I ((logLast n.log).1)), (5, .w (sl 1 cI ((n.peers.map (·.id)).take i)) X), (16, .r (sl 4 Peer.c n.peers)), (17, I (n.peers.length : Int)), (18, I (i : Int)), (19, Bo (decide ((i : Int) < (n.peers.length : Int))))] rfl (Le.of rfl) ?_
 refine CW.seq ?_
 refine CW.cond rfl (fun h4 => ?_) (fun h4 => ?_)
 ·skip
  have hii : i < n.peers.length := by have := h4; simp at this; first | exact this | omega | (simp; done) | (simp; omega)
  obtain ⟨ei, hei⟩ : ∃ e, n.peers[i]? = some e := ⟨_, List.getElem?_eq_getElem hii⟩
  have hdi := drop_get hei
  refine CW.skip ?_
  refine CW.le [(1, .obj b1 ((Node.c n).map .r)), (3, I ((logLast n.log).1)), (5, .w (sl 1 cI ((n.peers.map (·.id)).take i)) X), (16, .r (sl 4 Peer.c n.peers)), (17, I (n.peers.length : Int)), (18, I (i : Int))] rfl (Le.of rfl) ?_
  refine CW.seq ?_
  refine CW.block ?_
  refine CW.seq ?_
  refine CW.region ?_
  refine RW.v rfl (V.indexS rfl rfl rfl rfl rfl rfl Peer.len hei) ?_
  refine RW.v rfl (V.loadAggR rfl rfl rfl rfl (Nat.le_of_ble_eq_true rfl)) ?_
  refine RW.alloc (ds := [I 0, I 0, I 0, I 0]) rfl rfl rfl rfl fun b5 => ?_
  refine RW.storeAgg (es := ((Peer.c ei).map .r)) rfl rfl rfl rfl rfl rfl rfl rfl (Nat.le_of_ble_eq_true rfl) rfl ?_
  refine RW.nil ?_
  refine CW.le [(1, .obj b1 ((Node.c n).map .r)), (3, I ((logLast n.log).1)), (5, .w (sl 1 cI ((n.peers.map (·.id)).take i)) X), (7, .obj b5 ((Peer.c ei).map .r)), (16, .r (sl 4 Peer.c n.peers)), (17, I (n.peers.length : Int)), (18, I (i : Int))] rfl (Le.of rfl) ?_
  refine CW.seq ?_
  refine CW.seqJ 56 (fun (v6 : Bool) => [(1, .obj b1 ((Node.c n).map .r)), (3, I ((logLast n.log).1)), (5, .w (sl 1 cI ((n.peers.map (·.id)).take i)) X), (7, .obj b5 ((Peer.c ei).map .r)), (16, .r (sl 4 Peer.c n.peers)), (17, I (n.peers.length : Int)), (18, I (i : Int)), (42, Bo v6)]) (fun v6 => v6 = (((!(inR ei.next 1 (IntKind.i64.wrap (((logLast n.log).1) + 1)))) || (!(inR ei.match_ 0 (IntKind.i64.wrap (ei.next - 1))))) || (!(inR ei.sent 0 20000)))) ?_ ?_
  ·refine CW.region ?_
   refine RW.v rfl (V.field rfl rfl rfl rfl (by decide) rfl) ?_
   refine RW.v rfl (V.loadPrim (d := I ei.next) rfl rfl (.inl rfl) rfl rfl rfl) ?_
   refine RW.v rfl (V.mv (d := I ((logLast n.log).1)) rfl rfl) ?_
   refine RW.v rfl (V.arInt rfl rfl rfl rfl) ?_
   refine RW.call rfl (impl_within_fn ei.next 1 (IntKind.i64.wrap (((logLast n.log).1) + 1))) rfl (.cons (.one (.r .r)) (.cons (.one (.r .r)) (.cons (.one (.r .r)) (.nil)))) fun g7 => ?_
   refine RW.v rfl (V.not rfl rfl) ?_
   refine RW.v rfl (V.mv (d := Bo (!(inR ei.next 1 (IntKind.i64.wrap (((logLast n.log).1) + 1))))) rfl rfl) ?_
   refine RW.gv rfl rfl rfl rfl (fun h8 => V.field rfl rfl rfl rfl (by decide) rfl) (fun h8 => ?_) (fun h8 => ?_)
   ·skip
    refine RW.gt rfl rfl rfl rfl (V.loadPrim (d := I ei.match_) rfl rfl (.inl rfl) rfl rfl rfl) ?_
    refine RW.gt rfl rfl rfl rfl (V.field rfl rfl rfl rfl (by decide) rfl) ?_
    refine RW.gt rfl rfl rfl rfl (V.loadPrim (d := I ei.next) rfl rfl (.inl rfl) rfl rfl rfl) ?_
    refine RW.gt rfl rfl rfl rfl (V.arInt rfl rfl rfl rfl) ?_
    refine RW.gcall rfl rfl rfl rfl (impl_within_fn ei.match_ 0 (IntKind.i64.wrap (ei.next - 1))) rfl (.cons (.one (.r .r)) (.cons (.one (.r .r)) (.cons (.one (.r .r)) (.nil)))) fun g9 => ?_
    refine RW.gt rfl rfl rfl rfl (V.not rfl rfl) ?_
    refine RW.v rfl (V.pickF (d := Bo (!(inR ei.match_ 0 (IntKind.i64.wrap (ei.next - 1))))) rfl rfl rfl) ?_
    refine RW.v rfl (V.mv (d := Bo (!(inR ei.match_ 0 (IntKind.i64.wrap (ei.next - 1))))) rfl rfl) ?_
    refine RW.gv rfl rfl rfl rfl (fun h10 => V.field rfl rfl rfl rfl (by decide) rfl) (fun h10 => ?_) (fun h10 => ?_)
    ·skip
     refine RW.gt rfl rfl rfl rfl (V.loadPrim (d := I ei.sent) rfl rfl (.inl rfl) rfl rfl rfl) ?_
     refine RW.gcall rfl rfl rfl rfl (impl_within_fn ei.sent 0 20000) rfl (.cons (.one (.r .r)) (.cons (.one (.r .r)) (.cons (.one (.r .r)) (.nil)))) fun g11 => ?_
     refine RW.gt rfl rfl rfl rfl (V.not rfl rfl) ?_
     refine RW.v rfl (V.pickF (d := Bo (!(inR ei.sent 0 20000))) rfl rfl rfl) ?_
     refine RW.nil ?_
     exact ⟨_, by first | rfl | (simp_all; done) | (simp_all; omega) | grind, rfl, Le.c rfl <| Le.c rfl <| Le.c rfl <| Le.c rfl <| Le.c rfl <| Le.c rfl <| Le.c rfl <| Le.c rfl <| Le.e⟩
    ·skip
     refine RW.guardF rfl rfl rfl rfl ?_
     refine RW.guardF rfl rfl rfl rfl ?_
     refine RW.guardF rfl rfl rfl rfl ?_
     refine RW.v rfl (V.pickT (d := Bo true) rfl rfl rfl) ?_
     refine RW.nil ?_
     exact ⟨_, by first | rfl | (simp_all; done) | (simp_all; omega) | grind, rfl, Le.c rfl <| Le.c rfl <| Le.c rfl <| Le.c rfl <| Le.c rfl <| Le.c rfl <| Le.c rfl <| Le.c rfl <| Le.e⟩
   ·skip
    refine RW.guardF rfl rfl rfl rfl ?_
    refine RW.guardF rfl rfl rfl rfl ?_
    refine RW.guardF rfl rfl rfl rfl ?_
    refine RW.guardF rfl rfl rfl rfl ?_
    refine RW.guardF rfl rfl rfl rfl ?_
    refine RW.guardF rfl rfl rfl rfl ?_
    refine RW.v rfl (V.pickT (d := Bo true) rfl rfl rfl) ?_
    refine RW.v rfl (V.mv (d := Bo true) rfl rfl) ?_
    refine RW.guardF rfl rfl rfl rfl ?_
    refine RW.guardF rfl rfl rfl rfl ?_
    refine RW.guardF rfl rfl rfl rfl ?_
    refine RW.guardF rfl rfl rfl rfl ?_
    refine RW.v rfl (V.pickT (d := Bo true) rfl rfl rfl) ?_
    refine RW.nil ?_
    exact ⟨_, by first | rfl | (simp_all; done) | (simp_all; omega) | grind, rfl, Le.c rfl <| Le.c rfl <| Le.c rfl <| Le.c rfl <| Le.c rfl <| Le.c rfl <| Le.c rfl <| Le.c rfl <| Le.e⟩
  ·intro v6 hv12
   refine CW.cond rfl (fun h13 => ?_) (fun h13 => ?_)
   ·skip
    refine CW.seq ?_
    refine CW.region ?_
    refine RW.v rfl (V.as (d := Bo false) rfl rfl) ?_
    refine RW.nil ?_
    refine CW.le [(2, Bo false)] rfl (Le.of rfl) ?_
    refine CW.ret ?_
    exact Post.one (RV.b rfl (by have := all_not (p := pkOk (logLast n.log).1) hei (by first | (simp_all [pkOk]; done) | grind [pkOk]); simp [peersOkB, this])) (AOs.a rfl AOs.e)
   ·skip
    refine CW.skip ?_
    refine CW.le [(1, .obj b1 ((Node.c n).map .r)), (3, I ((logLast n.log).1)), (5, .w (sl 1 cI ((n.peers.map (·.id)).take i)) X), (7, .obj b5 ((Peer.c ei).map .r)), (16, .r (sl 4 Peer.c n.peers)), (17, I (n.peers.length : Int)), (18, I (i : Int))] rfl (Le.of rfl) ?_
    refine CW.region ?_
    refine RW.v rfl (V.mv (d := .al 5 none 1 (((n.peers.map (·.id)).take i).length) X 0) rfl rfl) ?_
    refine RW.v rfl (V.field rfl rfl rfl rfl (by decide) rfl) ?_
    refine RW.v rfl (V.loadPrim (d := I ei.id) rfl rfl (.inl rfl) rfl rfl rfl) ?_
    refine RW.build1c (c := cI) (v := ei.id) (u := .v (.int .i64 ei.id)) rfl rfl rfl rfl rfl rfl (.inl rfl) rfl rfl fun X14 => ?_
    refine RW.appendSR (c := cI) (l1 := ((n.peers.map (·.id)).take i)) (l2 := [ei.id]) rfl rfl rfl rfl rfl rfl rfl rfl (.al (k := none) (i := 46) (sz := 1) (V := X14) rfl rfl nofun) (by decide) (Nat.le_of_ble_eq_true rfl) cI.len (fun _ => rfl) rfl (by have h10 : ((n.peers.map (·.id)).take i).length ≤ n.peers.length := (by rw [List.length_take, List.length_map]; omega); have := hok.2.2.2.1; simp only [maxLen, List.length_singleton]; omega) (by have h10 : ((n.peers.map (·.id)).take i).length ≤ n.peers.length := (by rw [List.length_take, List.length_map]; omega); have := hok.2.2.2.1; simp only [maxLen, List.length_singleton]; omega) fun X15 => ?_
    refine RW.assignMove rfl rfl rfl (by decide) (Nat.le_of_ble_eq_true rfl) (Nat.le_of_ble_eq_true rfl) ?_
    refine RW.nil ?_
    refine CW.le [(1, .obj b1 ((Node.c n).map .r)), (3, I ((logLast n.log).1)), (5, .w (sl 1 cI (((n.peers.map (·.id)).take i) ++ ([ei.id]))) X15), (16, .r (sl 4 Peer.c n.peers)), (17, I (n.peers.length : Int)), (18, I (i : Int))] rfl (Le.of rfl) ?_
    refine CW.region ?_
    refine RW.v rfl (V.inc rfl rfl rfl hii hl0) ?_
    refine RW.v rfl (V.mv (d := I ((i + 1 : Nat) : Int)) rfl rfl) ?_
    refine RW.nil ?_
    exact ⟨(i + 1, _), by simp only []; omega, ⟨by omega, all_snoc hr hei (by first | (simp_all [pkOk]; done) | grind [pkOk])⟩, rfl, Le.c rfl <| Le.c rfl <| Le.c (Dw_congr (take_snoc (by simp [hei])).symm) <| Le.c rfl <| Le.c rfl <| Le.c rfl <| Le.e⟩
 ·skip
  have hii : n.peers.length ≤ i := by have := h4; simp at this; first | exact this | omega | (simp; done) | (simp; omega)
  have hdi : n.peers.drop i = [] := List.drop_eq_nil_of_le hii
  refine CW.exit ?_
  refine CW.le [(1, .obj b1 ((Node.c n).map .r)), (5, .w (sl 1 cI ((n.peers.map (·.id)).take i)) X)] rfl (Le.of rfl) ?_
  refine CW.anyJ (fc := []) 56 (fun (zz : (Nat → Nat → Value) × (Nat → Nat → Value) × (Nat → Nat → Value)) => match zz with | (go16_2_1, go16_5_1, go16_6_1) => [(2, Bo (eqS eqI ((n.peers.map (·.id)).take i) (others ((lastC n (logLast n.log).1).2) n.id)))]) (fun all hall K hK => ?_) ?_
  ·skip
   have ro16_11111111 : ∀ (go16_2_1 : Nat → Nat → Value), ∀ (go16_5_1 : Nat → Nat → Value), ∀ (go16_6_1 : Nat → Nat → Value), RA [] E B all 0 #[true, true, true, true, true, true, true, true] ⟨56, [(2, Bo (eqS eqI ((n.peers.map (·.id)).take i) (others ((lastC n (logLast n.log).1).2) n.id)))]⟩ K := by
    intro go16_2_1 go16_5_1 go16_6_1
    exact RA.of hall (RA.finH Tell.e (by kernel_rfl) (hK (go16_2_1, go16_5_1, go16_6_1) _ rfl (Le.of rfl)))
   have ro16_11111100 : ∀ (go16_2_1 : Nat → Nat → Value), ∀ (go16_5_1 : Nat → Nat → Value), RA [] E B all 2 #[true, true, true, true, true, true, false, false] ⟨56, [(5, .w (sl 1 cI ((n.peers.map (·.id)).take i)) X), (49, .al 5 none 1 (((n.peers.map (·.id)).take i).length) X 0), (54, .w (sl 1 cI (others ((lastC n (logLast n.log).1).2) n.id)) (go16_5_1 0 0))]⟩ K := by
    intro go16_2_1 go16_5_1
    refine RA.of hall (RA.stepH (L := [6]) Tell.e (by kernel_rfl) (by simp) (RA.each ?_ (RA.each0)))
    ·skip
     refine RO.callOwn rfl rfl (slices_Equal___int_int__fn ((n.peers.map (·.id)).take i) (others ((lastC n (logLast n.log).1).2) n.id)) rfl (.cons (.one (.r (.al (k := none) (i := 5) (sz := 1) (V := X) rfl rfl nofun))) (.cons (.one (.r (.al (k := none) (i := 54) (sz := 1) (V := (go16_5_1 0 0)) rfl rfl nofun))) (.nil))) rfl rfl fun go16_6_1 => ?_
     refine RA.first (i := 7) (ls' := #[true, true, true, true, true, true, true, true]) Tell.e (by kernel_rfl) rfl rfl rfl (VF.p (V.as (d := Bo (eqS eqI ((n.peers.map (·.id)).take i) (others ((lastC n (logLast n.log).1).2) n.id))) rfl rfl)) ?_
     exact RA.to hall (RA.lr (ro16_11111111 go16_2_1 go16_5_1 go16_6_1) rfl rfl)
   have ro16_11111000 : ∀ (go16_2_1 : Nat → Nat → Value), RA [] E B all 3 #[true, true, true, true, true, false, false, false] ⟨56, [(5, .w (sl 1 cI ((n.peers.map (·.id)).take i)) X), (49, .al 5 none 1 (((n.peers.map (·.id)).take i).length) X 0), (51, .w (sl 1 cI ((lastC n (logLast n.log).1).2)) (go16_2_1 0 0)), (53, I n.id)]⟩ K := by
    intro go16_2_1
    refine RA.of hall (RA.stepH (L := [5]) Tell.e (by kernel_rfl) (by simp) (RA.each ?_ (RA.each0)))
    ·skip
     refine RO.callOwn rfl rfl (impl_without_fn ((lastC n (logLast n.log).1).2) n.id (lastC_len hok _)) rfl (.cons (.one (.r (.al (k := none) (i := 51) (sz := 1) (V := (go16_2_1 0 0)) rfl rfl nofun))) (.cons (.one (.r .r)) (.nil))) rfl rfl fun go16_5_1 => ?_
     exact RA.to hall (RA.lr (ro16_11111100 go16_2_1 go16_5_1) rfl rfl)
   have ro16_11011000 : RA [] E B all 4 #[true, true, false, true, true, false, false, false] ⟨56, [(5, .w (sl 1 cI ((n.peers.map (·.id)).take i)) X), (49, .al 5 none 1 (((n.peers.map (·.id)).take i).length) X 0), (50, .agg ((Node.c n).map .r)), (53, I n.id)]⟩ K := by
    refine RA.of hall (RA.stepH (L := [2]) Tell.e (by kernel_rfl) (by simp) (RA.each ?_ (RA.each0)))
    ·skip
     refine RO.call rfl rfl (impl_ConfOf_fn n hok) rfl (.cons (.agg (.cons (.r .r) (.cons (.r .r) (.cons (.r .r) (.cons (.r .r) (.cons (.r .r) (.cons (.r .r) (.cons (.r .r) (.cons (.r .r) (.cons (.r .r) (.cons (.r .r) (.cons (.r .r) (.cons (.r .r) (.cons (.r .r) (.cons (.r .r) (.nil)))))))))))))))) (.nil)) rfl fun go16_2_1 => ?_
     exact RA.to hall (RA.lr (ro16_11111000 go16_2_1) rfl rfl)
   have ro16_11110000 : ∀ (go16_2_1 : Nat → Nat → Value), RA [] E B all 4 #[true, true, true, true, false, false, false, false] ⟨56, [(1, .obj b1 ((Node.c n).map .r)), (5, .w (sl 1 cI ((n.peers.map (·.id)).take i)) X), (49, .al 5 none 1 (((n.peers.map (·.id)).take i).length) X 0), (51, .w (sl 1 cI ((lastC n (logLast n.log).1).2)) (go16_2_1 0 0)), (52, .pt 1 b1 0)]⟩ K := by
    intro go16_2_1
    refine RA.of hall (RA.stepH (L := [4]) Tell.e (by kernel_rfl) (by simp) (RA.each ?_ (RA.each0)))
    ·skip
     refine RO.v rfl rfl (V.loadPrim (d := I n.id) rfl rfl (.inl rfl) rfl rfl rfl) rfl ?_
     exact RA.to hall (RA.lr (ro16_11111000 go16_2_1) rfl rfl)
   have ro16_10011000 : RA [] E B all 5 #[true, false, false, true, true, false, false, false] ⟨56, [(1, .obj b1 ((Node.c n).map .r)), (5, .w (sl 1 cI ((n.peers.map (·.id)).take i)) X), (49, .al 5 none 1 (((n.peers.map (·.id)).take i).length) X 0), (53, I n.id)]⟩ K := by
    refine RA.of hall (RA.stepH (L := [1]) Tell.e (by kernel_rfl) (by simp) (RA.each ?_ (RA.each0)))
    ·skip
     refine RO.v rfl rfl (V.loadAgg rfl rfl rfl rfl rfl (Nat.le_of_ble_eq_true rfl)) rfl ?_
     exact RA.to hall (RA.lr ro16_11011000 rfl rfl)
   have ro16_11010000 : RA [] E B all 5 #[true, true, false, true, false, false, false, false] ⟨56, [(1, .obj b1 ((Node.c n).map .r)), (5, .w (sl 1 cI ((n.peers.map (·.id)).take i)) X), (49, .al 5 none 1 (((n.peers.map (·.id)).take i).length) X 0), (50, .agg ((Node.c n).map .r)), (52, .pt 1 b1 0)]⟩ K := by
    refine RA.of hall (RA.stepH (L := [2, 4]) Tell.e (by kernel_rfl) (by simp) (RA.each ?_ (RA.each ?_ (RA.each0))))
    ·skip
     refine RO.call rfl rfl (impl_ConfOf_fn n hok) rfl (.cons (.agg (.cons (.r .r) (.cons (.r .r) (.cons (.r .r) (.cons (.r .r) (.cons (.r .r) (.cons (.r .r) (.cons (.r .r) (.cons (.r .r) (.cons (.r .r) (.cons (.r .r) (.cons (.r .r) (.cons (.r .r) (.cons (.r .r) (.cons (.r .r) (.nil)))))))))))))))) (.nil)) rfl fun go16_2_1 => ?_
     exact RA.to hall (RA.lr (ro16_11110000 go16_2_1) rfl rfl)
    ·skip
     refine RO.v rfl rfl (V.loadPrim (d := I n.id) rfl rfl (.inl rfl) rfl rfl rfl) rfl ?_
     exact RA.to hall (RA.lr ro16_11011000 rfl rfl)
   have ro16_10010000 : RA [] E B all 6 #[true, false, false, true, false, false, false, false] ⟨56, [(1, .obj b1 ((Node.c n).map .r)), (5, .w (sl 1 cI ((n.peers.map (·.id)).take i)) X), (49, .al 5 none 1 (((n.peers.map (·.id)).take i).length) X 0), (52, .pt 1 b1 0)]⟩ K := by
    refine RA.of hall (RA.stepH (L := [1, 4]) Tell.e (by kernel_rfl) (by simp) (RA.each ?_ (RA.each ?_ (RA.each0))))
    ·skip
     refine RO.v rfl rfl (V.loadAgg rfl rfl rfl rfl rfl (Nat.le_of_ble_eq_true rfl)) rfl ?_
     exact RA.to hall (RA.lr ro16_11010000 rfl rfl)
    ·skip
     refine RO.v rfl rfl (V.loadPrim (d := I n.id) rfl rfl (.inl rfl) rfl rfl rfl) rfl ?_
     exact RA.to hall (RA.lr ro16_10011000 rfl rfl)
   have ro16_S : RA [] E B all 8 #[false, false, false, false, false, false, false, false] ⟨56, [(1, .obj b1 ((Node.c n).map .r)), (5, .w (sl 1 cI ((n.peers.map (·.id)).take i)) X)]⟩ K := by
    refine RA.of hall ?_
    refine RA.first (i := 0) (ls' := #[true, false, false, false, false, false, false, false]) Tell.e (by kernel_rfl) rfl rfl rfl (VF.p (V.mv (d := .al 5 none 1 (((n.peers.map (·.id)).take i).length) X 0) rfl rfl)) ?_
    refine RA.first (i := 3) (ls' := #[true, false, false, true, false, false, false, false]) Tell.e (by kernel_rfl) rfl rfl rfl (VF.p (V.field rfl rfl rfl rfl (by decide) rfl)) ?_
    exact RA.to hall (RA.lr ro16_10010000 rfl rfl)
   exact RA.start (by kernel_rfl) (by kernel_rfl) (RA.lr ro16_S rfl rfl)
  ·rintro ⟨go16_2_1, go16_5_1, go16_6_1⟩
   refine CW.ret ?_
   exact Post.one (RV.b rfl (by have ht : n.peers.all (pkOk (logLast n.log).1) = true := (by rw [← List.take_of_length_le hii]; exact hr); rw [List.take_of_length_le (by simpa using hii)]; simp [peersOkB, ht])) (AOs.a rfl AOs.e)
set_option maxHeartbeats 4000000 in
theorem impl_NodeOk_fn (n : Node) (hok : okToNode n) : Eng.Fn E.P 22 [.agg ((Node.c n).map .r)] (.one (.one (.w (.v (.bool (nodeOk n)))))) [.agg ((Node.c n).map .r)] := by
 refine Eng.Fn.intro (E := E) (rvs := [.tmp 2]) Try.func22 rfl rfl rfl (by simp [outSlots, moved, rvSlot, sl]) ?_
 intro B g bo
 refine CW.le [(0, .agg ((Node.c n).map .r))] rfl (Le.of rfl) ?_
 refine CW.seq ?_
 refine CW.region ?_
 refine RW.box (ds := ((Node.c n).map .r)) rfl rfl rfl fun b1 => ?_
 refine RW.v rfl (V.as (d := Bo false) rfl rfl) ?_
 refine RW.nil ?_
 refine CW.le [(1, .obj b1 ((Node.c n).map .r))] rfl (Le.of rfl) ?_
 refine CW.seq ?_
 refine CW.region ?_
 refine RW.v rfl (V.field rfl rfl rfl rfl (by decide) rfl) ?_
 refine RW.v rfl (V.loadAgg rfl rfl rfl rfl rfl (Nat.le_of_ble_eq_true rfl)) ?_
 refine RW.call rfl (impl_LogLast_fn n.log (hok.2.1)) rfl (.cons (.agg (.cons (.r .r) (.cons (.r .r) (.cons (.r .r) (.nil))))) (.nil)) fun g2 => ?_
 refine RW.moveMove rfl rfl rfl (by decide) (Nat.le_of_ble_eq_true rfl) (Nat.le_of_ble_eq_true rfl) ?_
 refine RW.extract (d := I ((logLast n.log).1)) rfl rfl rfl (by decide) (Nat.le_of_ble_eq_true rfl) rfl rfl ?_
 refine RW.extract (d := I ((logLast n.log).2)) rfl rfl rfl (by decide) (Nat.le_of_ble_eq_true rfl) rfl rfl ?_
 refine RW.v rfl (V.as (d := I ((logLast n.log).1)) rfl rfl) ?_
 refine RW.v rfl (V.as (d := I ((logLast n.log).2)) rfl rfl) ?_
 refine RW.nil ?_
 refine CW.le [(1, .obj b1 ((Node.c n).map .r)), (3, I ((logLast n.log).1)), (4, I ((logLast n.log).2))] rfl (Le.of rfl) ?_
 refine CW.seq ?_
 refine CW.seqJ 106 (fun (v3 : Bool) => [(1, .obj b1 ((Node.c n).map .r)), (3, I ((logLast n.log).1)), (46, Bo v3)]) (fun v3 => v3 = ((((((!(inR n.id 1 4)) || (!(confOk n.conf))) || (!(logOk n.log))) || (!(inR n.term_ 0 100000 && inR n.vote 0 4))) || decide (n.term_ < ((logLast n.log).2))) || (!(inR n.lead 0 4)))) ?_ ?_
 ·refine CW.region ?_
  refine RW.v rfl (V.field rfl rfl rfl rfl (by decide) rfl) ?_
  refine RW.v rfl (V.loadPrim (d := I n.id) rfl rfl (.inl rfl) rfl rfl rfl) ?_
  refine RW.call rfl (impl_isNode_fn n.id) rfl (.cons (.one (.r .r)) (.nil)) fun g4 => ?_
  refine RW.v rfl (V.not rfl rfl) ?_
  refine RW.v rfl (V.mv (d := Bo (!(inR n.id 1 4))) rfl rfl) ?_
  refine RW.gv rfl rfl rfl rfl (fun h5 => V.field rfl rfl rfl rfl (by decide) rfl) (fun h5 => ?_) (fun h5 => ?_)
  ·skip
   refine RW.gt rfl rfl rfl rfl (V.loadPrim (d := .r (sl 1 cI n.conf)) rfl rfl (.inr ⟨_, rfl⟩) rfl rfl rfl) ?_
   refine RW.gcall rfl rfl rfl rfl (impl_ConfOk_fn n.conf) rfl (.cons (.one (.r .r)) (.nil)) fun g6 => ?_
   refine RW.gt rfl rfl rfl rfl (V.not rfl rfl) ?_
   refine RW.v rfl (V.pickF (d := Bo (!(confOk n.conf))) rfl rfl rfl) ?_
   refine RW.v rfl (V.mv (d := Bo (!(confOk n.conf))) rfl rfl) ?_
   refine RW.gv rfl rfl rfl rfl (fun h7 => V.field rfl rfl rfl rfl (by decide) rfl) (fun h7 => ?_) (fun h7 => ?_)
   ·skip
    refine RW.gt rfl rfl rfl rfl (V.loadAgg rfl rfl rfl rfl rfl (Nat.le_of_ble_eq_true rfl)) ?_
    refine RW.gcall rfl rfl rfl rfl (impl_LogOk_fn n.log (hok.2.1)) rfl (.cons (.agg (.cons (.r .r) (.cons (.r .r) (.cons (.r .r) (.nil))))) (.nil)) fun g8 => ?_
    refine RW.gt rfl rfl rfl rfl (V.not rfl rfl) ?_
    refine RW.v rfl (V.pickF (d := Bo (!(logOk n.log))) rfl rfl rfl) ?_
    refine RW.v rfl (V.mv (d := Bo (!(logOk n.log))) rfl rfl) ?_
    refine RW.gv rfl rfl rfl rfl (fun h9 => V.field rfl rfl rfl rfl (by decide) rfl) (fun h9 => ?_) (fun h9 => ?_)
    ·skip
     refine RW.gt rfl rfl rfl rfl (V.loadPrim (d := I n.term_) rfl rfl (.inl rfl) rfl rfl rfl) ?_
     refine RW.gt rfl rfl rfl rfl (V.field rfl rfl rfl rfl (by decide) rfl) ?_
     refine RW.gt rfl rfl rfl rfl (V.loadPrim (d := I n.vote) rfl rfl (.inl rfl) rfl rfl rfl) ?_
     refine RW.gcall rfl rfl rfl rfl (impl_votesOk_fn n.term_ n.vote) rfl (.cons (.one (.r .r)) (.cons (.one (.r .r)) (.nil))) fun g10 => ?_
     refine RW.gt rfl rfl rfl rfl (V.not rfl rfl) ?_
     refine RW.v rfl (V.pickF (d := Bo (!(inR n.term_ 0 100000 && inR n.vote 0 4))) rfl rfl rfl) ?_
     refine RW.v rfl (V.mv (d := Bo (!(inR n.term_ 0 100000 && inR n.vote 0 4))) rfl rfl) ?_
     refine RW.gv rfl rfl rfl rfl (fun h11 => V.field rfl rfl rfl rfl (by decide) rfl) (fun h11 => ?_) (fun h11 => ?_)
     ·skip
      refine RW.gt rfl rfl rfl rfl (V.loadPrim (d := I n.term_) rfl rfl (.inl rfl) rfl rfl rfl) ?_
      refine RW.gt rfl rfl rfl rfl (V.mv (d := I ((logLast n.log).2)) rfl rfl) ?_
      refine RW.gt rfl rfl rfl rfl (V.cmpInt rfl rfl rfl rfl) ?_
      refine RW.v rfl (V.pickF (d := Bo (decide (n.term_ < ((logLast n.log).2)))) rfl rfl rfl) ?_
      refine RW.v rfl (V.mv (d := Bo (decide (n.term_ < ((logLast n.log).2)))) rfl rfl) ?_
      refine RW.gv rfl rfl rfl rfl (fun h12 => V.field rfl rfl rfl rfl (by decide) rfl) (fun h12 => ?_) (fun h12 => ?_)
      ·skip
       refine RW.gt rfl rfl rfl rfl (V.loadPrim (d := I n.lead) rfl rfl (.inl rfl) rfl rfl rfl) ?_
       refine RW.gcall rfl rfl rfl rfl (impl_within_fn n.lead 0 4) rfl (.cons (.one (.r .r)) (.cons (.one (.r .r)) (.cons (.one (.r .r)) (.nil)))) fun g13 => ?_
       refine RW.gt rfl rfl rfl rfl (V.not rfl rfl) ?_
       refine RW.v rfl (V.pickF (d := Bo (!(inR n.lead 0 4))) rfl rfl rfl) ?_
       refine RW.nil ?_
       exact ⟨_, by first | rfl | (simp_all; done) | (simp_all; omega) | grind, rfl, Le.c rfl <| Le.c rfl <| Le.c rfl <| Le.e⟩
      ·skip
       refine RW.guardF rfl rfl rfl rfl ?_
       refine RW.guardF rfl rfl rfl rfl ?_
       refine RW.guardF rfl rfl rfl rfl ?_
       refine RW.v rfl (V.pickT (d := Bo true) rfl rfl rfl) ?_
       refine RW.nil ?_
       exact ⟨_, by first | rfl | (simp_all; done) | (simp_all; omega) | grind, rfl, Le.c rfl <| Le.c rfl <| Le.c rfl <| Le.e⟩
     ·skip
      refine RW.guardF rfl rfl rfl rfl ?_
      refine RW.guardF rfl rfl rfl rfl ?_
      refine RW.guardF rfl rfl rfl rfl ?_
      refine RW.v rfl (V.pickT (d := Bo true) rfl rfl rfl) ?_
      refine RW.v rfl (V.mv (d := Bo true) rfl rfl) ?_
      refine RW.guardF rfl rfl rfl rfl ?_
      refine RW.guardF rfl rfl rfl rfl ?_
      refine RW.guardF rfl rfl rfl rfl ?_
      refine RW.guardF rfl rfl rfl rfl ?_
      refine RW.v rfl (V.pickT (d := Bo true) rfl rfl rfl) ?_
      refine RW.nil ?_
      exact ⟨_, by first | rfl | (simp_all; done) | (simp_all; omega) | grind, rfl, Le.c rfl <| Le.c rfl <| Le.c rfl <| Le.e⟩
    ·skip
     refine RW.guardF rfl rfl rfl rfl ?_
     refine RW.guardF rfl rfl rfl rfl ?_
     refine RW.guardF rfl rfl rfl rfl ?_
     refine RW.guardF rfl rfl rfl rfl ?_
     refine RW.guardF rfl rfl rfl rfl ?_
     refine RW.v rfl (V.pickT (d := Bo true) rfl rfl rfl) ?_
     refine RW.v rfl (V.mv (d := Bo true) rfl rfl) ?_
     refine RW.guardF rfl rfl rfl rfl ?_
     refine RW.guardF rfl rfl rfl rfl ?_
     refine RW.guardF rfl rfl rfl rfl ?_
     refine RW.guardF rfl rfl rfl rfl ?_
     refine RW.v rfl (V.pickT (d := Bo true) rfl rfl rfl) ?_
     refine RW.v rfl (V.mv (d := Bo true) rfl rfl) ?_
     refine RW.guardF rfl rfl rfl rfl ?_
     refine RW.guardF rfl rfl rfl rfl ?_
     refine RW.guardF rfl rfl rfl rfl ?_
     refine RW.guardF rfl rfl rfl rfl ?_
     refine RW.v rfl (V.pickT (d := Bo true) rfl rfl rfl) ?_
     refine RW.nil ?_
     exact ⟨_, by first | rfl | (simp_all; done) | (simp_all; omega) | grind, rfl, Le.c rfl <| Le.c rfl <| Le.c rfl <| Le.e⟩
   ·skip
    refine RW.guardF rfl rfl rfl rfl ?_
    refine RW.guardF rfl rfl rfl rfl ?_
    refine RW.guardF rfl rfl rfl rfl ?_
    refine RW.v rfl (V.pickT (d := Bo true) rfl rfl rfl) ?_
    refine RW.v rfl (V.mv (d := Bo true) rfl rfl) ?_
    refine RW.guardF rfl rfl rfl rfl ?_
    refine RW.guardF rfl rfl rfl rfl ?_
    refine RW.guardF rfl rfl rfl rfl ?_
    refine RW.guardF rfl rfl rfl rfl ?_
    refine RW.guardF rfl rfl rfl rfl ?_
    refine RW.guardF rfl rfl rfl rfl ?_
    refine RW.v rfl (V.pickT (d := Bo true) rfl rfl rfl) ?_
    refine RW.v rfl (V.mv (d := Bo true) rfl rfl) ?_
    refine RW.guardF rfl rfl rfl rfl ?_
    refine RW.guardF rfl rfl rfl rfl ?_
    refine RW.guardF rfl rfl rfl rfl ?_
    refine RW.guardF rfl rfl rfl rfl ?_
    refine RW.v rfl (V.pickT (d := Bo true) rfl rfl rfl) ?_
    refine RW.v rfl (V.mv (d := Bo true) rfl rfl) ?_
    refine RW.guardF rfl rfl rfl rfl ?_
    refine RW.guardF rfl rfl rfl rfl ?_
    refine RW.guardF rfl rfl rfl rfl ?_
    refine RW.guardF rfl rfl rfl rfl ?_
    refine RW.v rfl (V.pickT (d := Bo true) rfl rfl rfl) ?_
    refine RW.nil ?_
    exact ⟨_, by first | rfl | (simp_all; done) | (simp_all; omega) | grind, rfl, Le.c rfl <| Le.c rfl <| Le.c rfl <| Le.e⟩
  ·skip
   refine RW.guardF rfl rfl rfl rfl ?_
   refine RW.guardF rfl rfl rfl rfl ?_
   refine RW.guardF rfl rfl rfl rfl ?_
   refine RW.v rfl (V.pickT (d := Bo true) rfl rfl rfl) ?_
   refine RW.v rfl (V.mv (d := Bo true) rfl rfl) ?_
   refine RW.guardF rfl rfl rfl rfl ?_
   refine RW.guardF rfl rfl rfl rfl ?_
   refine RW.guardF rfl rfl rfl rfl ?_
   refine RW.guardF rfl rfl rfl rfl ?_
   refine RW.v rfl (V.pickT (d := Bo true) rfl rfl rfl) ?_
   refine RW.v rfl (V.mv (d := Bo true) rfl rfl) ?_
   refine RW.guardF rfl rfl rfl rfl ?_
   refine RW.guardF rfl rfl rfl rfl ?_
   refine RW.guardF rfl rfl rfl rfl ?_
   refine RW.guardF rfl rfl rfl rfl ?_
   refine RW.guardF rfl rfl rfl rfl ?_
   refine RW.guardF rfl rfl rfl rfl ?_
   refine RW.v rfl (V.pickT (d := Bo true) rfl rfl rfl) ?_
   refine RW.v rfl (V.mv (d := Bo true) rfl rfl) ?_
   refine RW.guardF rfl rfl rfl rfl ?_
   refine RW.guardF rfl rfl rfl rfl ?_
   refine RW.guardF rfl rfl rfl rfl ?_
   refine RW.guardF rfl rfl rfl rfl ?_
   refine RW.v rfl (V.pickT (d := Bo true) rfl rfl rfl) ?_
   refine RW.v rfl (V.mv (d := Bo true) rfl rfl) ?_
   refine RW.guardF rfl rfl rfl rfl ?_
   refine RW.guardF rfl rfl rfl rfl ?_
   refine RW.guardF rfl rfl rfl rfl ?_
   refine RW.guardF rfl rfl rfl rfl ?_
   refine RW.v rfl (V.pickT (d := Bo true) rfl rfl rfl) ?_
   refine RW.nil ?_
   exact ⟨_, by first | rfl | (simp_all; done) | (simp_all; omega) | grind, rfl, Le.c rfl <| Le.c rfl <| Le.c rfl <| Le.e⟩
 ·intro v3 hv14
  refine CW.cond rfl (fun h15 => ?_) (fun h15 => ?_)
  ·skip
   refine CW.seq ?_
   refine CW.region ?_
   refine RW.v rfl (V.as (d := Bo false) rfl rfl) ?_
   refine RW.nil ?_
   refine CW.le [(2, Bo false)] rfl (Le.of rfl) ?_
   refine CW.ret ?_
   exact Post.one (RV.b rfl (by first | (simp_all [nodeOk]; done) | grind [nodeOk])) (AOs.a rfl AOs.e)
  ·skip
   refine CW.skip ?_
   refine CW.le [(1, .obj b1 ((Node.c n).map .r)), (3, I ((logLast n.log).1))] rfl (Le.of rfl) ?_
   refine CW.seq ?_
   refine CW.seqJ 106 (fun (v16 : Bool) => [(1, .obj b1 ((Node.c n).map .r)), (72, Bo v16)]) (fun v16 => v16 = ((((!(inR n.commit n.log.start ((logLast n.log).1))) || (!(inR n.clock 0 20))) || (!(inR n.limit 1 20))) || (!(riseOk 1 4 none n.votes)))) ?_ ?_
   ·refine CW.region ?_
    refine RW.v rfl (V.field rfl rfl rfl rfl (by decide) rfl) ?_
    refine RW.v rfl (V.loadPrim (d := I n.commit) rfl rfl (.inl rfl) rfl rfl rfl) ?_
    refine RW.v rfl (V.field rfl rfl rfl rfl (by decide) rfl) ?_
    refine RW.v rfl (V.field rfl rfl rfl rfl (by decide) rfl) ?_
    refine RW.v rfl (V.loadPrim (d := I n.log.start) rfl rfl (.inl rfl) rfl rfl rfl) ?_
    refine RW.v rfl (V.mv (d := I ((logLast n.log).1)) rfl rfl) ?_
    refine RW.call rfl (impl_within_fn n.commit n.log.start ((logLast n.log).1)) rfl (.cons (.one (.r .r)) (.cons (.one (.r .r)) (.cons (.one (.r .r)) (.nil)))) fun g17 => ?_
    refine RW.v rfl (V.not rfl rfl) ?_
    refine RW.v rfl (V.mv (d := Bo (!(inR n.commit n.log.start ((logLast n.log).1)))) rfl rfl) ?_
    refine RW.gv rfl rfl rfl rfl (fun h18 => V.field rfl rfl rfl rfl (by decide) rfl) (fun h18 => ?_) (fun h18 => ?_)
    ·skip
     refine RW.gt rfl rfl rfl rfl (V.loadPrim (d := I n.clock) rfl rfl (.inl rfl) rfl rfl rfl) ?_
     refine RW.gcall rfl rfl rfl rfl (impl_within_fn n.clock 0 20) rfl (.cons (.one (.r .r)) (.cons (.one (.r .r)) (.cons (.one (.r .r)) (.nil)))) fun g19 => ?_
     refine RW.gt rfl rfl rfl rfl (V.not rfl rfl) ?_
     refine RW.v rfl (V.pickF (d := Bo (!(inR n.clock 0 20))) rfl rfl rfl) ?_
     refine RW.v rfl (V.mv (d := Bo (!(inR n.clock 0 20))) rfl rfl) ?_
     refine RW.gv rfl rfl rfl rfl (fun h20 => V.field rfl rfl rfl rfl (by decide) rfl) (fun h20 => ?_) (fun h20 => ?_)
     ·skip
      refine RW.gt rfl rfl rfl rfl (V.loadPrim (d := I n.limit) rfl rfl (.inl rfl) rfl rfl rfl) ?_
      refine RW.gcall rfl rfl rfl rfl (impl_within_fn n.limit 1 20) rfl (.cons (.one (.r .r)) (.cons (.one (.r .r)) (.cons (.one (.r .r)) (.nil)))) fun g21 => ?_
      refine RW.gt rfl rfl rfl rfl (V.not rfl rfl) ?_
      refine RW.v rfl (V.pickF (d := Bo (!(inR n.limit 1 20))) rfl rfl rfl) ?_
      refine RW.v rfl (V.mv (d := Bo (!(inR n.limit 1 20))) rfl rfl) ?_
      refine RW.gv rfl rfl rfl rfl (fun h22 => V.field rfl rfl rfl rfl (by decide) rfl) (fun h22 => ?_) (fun h22 => ?_)
      ·skip
       refine RW.gt rfl rfl rfl rfl (V.loadPrim (d := .r (sl 1 cI n.votes)) rfl rfl (.inr ⟨_, rfl⟩) rfl rfl rfl) ?_
       refine RW.gcall rfl rfl rfl rfl (impl_nodesOk_fn n.votes) rfl (.cons (.one (.r .r)) (.nil)) fun g23 => ?_
       refine RW.gt rfl rfl rfl rfl (V.not rfl rfl) ?_
       refine RW.v rfl (V.pickF (d := Bo (!(riseOk 1 4 none n.votes))) rfl rfl rfl) ?_
       refine RW.nil ?_
       exact ⟨_, by first | rfl | (simp_all; done) | (simp_all; omega) | grind, rfl, Le.c rfl <| Le.c rfl <| Le.e⟩
      ·skip
       refine RW.guardF rfl rfl rfl rfl ?_
       refine RW.guardF rfl rfl rfl rfl ?_
       refine RW.guardF rfl rfl rfl rfl ?_
       refine RW.v rfl (V.pickT (d := Bo true) rfl rfl rfl) ?_
       refine RW.nil ?_
       exact ⟨_, by first | rfl | (simp_all; done) | (simp_all; omega) | grind, rfl, Le.c rfl <| Le.c rfl <| Le.e⟩
     ·skip
      refine RW.guardF rfl rfl rfl rfl ?_
      refine RW.guardF rfl rfl rfl rfl ?_
      refine RW.guardF rfl rfl rfl rfl ?_
      refine RW.v rfl (V.pickT (d := Bo true) rfl rfl rfl) ?_
      refine RW.v rfl (V.mv (d := Bo true) rfl rfl) ?_
      refine RW.guardF rfl rfl rfl rfl ?_
      refine RW.guardF rfl rfl rfl rfl ?_
      refine RW.guardF rfl rfl rfl rfl ?_
      refine RW.guardF rfl rfl rfl rfl ?_
      refine RW.v rfl (V.pickT (d := Bo true) rfl rfl rfl) ?_
      refine RW.nil ?_
      exact ⟨_, by first | rfl | (simp_all; done) | (simp_all; omega) | grind, rfl, Le.c rfl <| Le.c rfl <| Le.e⟩
    ·skip
     refine RW.guardF rfl rfl rfl rfl ?_
     refine RW.guardF rfl rfl rfl rfl ?_
     refine RW.guardF rfl rfl rfl rfl ?_
     refine RW.v rfl (V.pickT (d := Bo true) rfl rfl rfl) ?_
     refine RW.v rfl (V.mv (d := Bo true) rfl rfl) ?_
     refine RW.guardF rfl rfl rfl rfl ?_
     refine RW.guardF rfl rfl rfl rfl ?_
     refine RW.guardF rfl rfl rfl rfl ?_
     refine RW.guardF rfl rfl rfl rfl ?_
     refine RW.v rfl (V.pickT (d := Bo true) rfl rfl rfl) ?_
     refine RW.v rfl (V.mv (d := Bo true) rfl rfl) ?_
     refine RW.guardF rfl rfl rfl rfl ?_
     refine RW.guardF rfl rfl rfl rfl ?_
     refine RW.guardF rfl rfl rfl rfl ?_
     refine RW.guardF rfl rfl rfl rfl ?_
     refine RW.v rfl (V.pickT (d := Bo true) rfl rfl rfl) ?_
     refine RW.nil ?_
     exact ⟨_, by first | rfl | (simp_all; done) | (simp_all; omega) | grind, rfl, Le.c rfl <| Le.c rfl <| Le.e⟩
   ·intro v16 hv24
    refine CW.cond rfl (fun h25 => ?_) (fun h25 => ?_)
    ·skip
     refine CW.seq ?_
     refine CW.region ?_
     refine RW.v rfl (V.as (d := Bo false) rfl rfl) ?_
     refine RW.nil ?_
     refine CW.le [(2, Bo false)] rfl (Le.of rfl) ?_
     refine CW.ret ?_
     exact Post.one (RV.b rfl (by first | (simp_all [nodeOk]; done) | grind [nodeOk])) (AOs.a rfl AOs.e)
    ·skip
     refine CW.skip ?_
     refine CW.le [(1, .obj b1 ((Node.c n).map .r))] rfl (Le.of rfl) ?_
     refine CW.seq ?_
     refine CW.seq ?_
     refine CW.region ?_
     refine RW.v rfl (V.field rfl rfl rfl rfl (by decide) rfl) ?_
     refine RW.v rfl (V.loadPrim (d := I n.role) rfl rfl (.inl rfl) rfl rfl rfl) ?_
     refine RW.nil ?_
     refine CW.le [(1, .obj b1 ((Node.c n).map .r)), (74, I n.role)] rfl (Le.of rfl) ?_
     refine CW.block ?_
     refine CW.seq ?_
     refine CW.region ?_
     refine RW.v rfl (V.cmpInt rfl rfl rfl rfl) ?_
     refine RW.v rfl (V.as (d := Bo (n.role == 0)) rfl rfl) ?_
     refine RW.nil ?_
     refine CW.le [(1, .obj b1 ((Node.c n).map .r)), (74, I n.role), (75, Bo (n.role == 0))] rfl (Le.of rfl) ?_
     refine CW.cond rfl (fun h26 => ?_) (fun h26 => ?_)
     ·skip
      refine CW.seqJ 106 (fun (v27 : Bool) => [(2, Bo v27)]) (fun v27 => v27 = (((n.votes.length : Int) == 0) && ((n.peers.length : Int) == 0))) ?_ ?_
      ·refine CW.region ?_
       refine RW.v rfl (V.field rfl rfl rfl rfl (by decide) rfl) ?_
       refine RW.v rfl (V.loadPrim (d := .r (sl 1 cI n.votes)) rfl rfl (.inr ⟨_, rfl⟩) rfl rfl rfl) ?_
       refine RW.v rfl (V.lenT (n := n.votes.length) rfl rfl rfl .r) ?_
       refine RW.v rfl (V.cmpInt rfl rfl rfl rfl) ?_
       refine RW.v rfl (V.mv (d := Bo ((n.votes.length : Int) == 0)) rfl rfl) ?_
       refine RW.gv rfl rfl rfl rfl (fun h28 => V.field rfl rfl rfl rfl (by decide) rfl) (fun h28 => ?_) (fun h28 => ?_)
       ·skip
        refine RW.gt rfl rfl rfl rfl (V.loadPrim (d := .r (sl 4 Peer.c n.peers)) rfl rfl (.inr ⟨_, rfl⟩) rfl rfl rfl) ?_
        refine RW.gt rfl rfl rfl rfl (V.lenT (n := n.peers.length) rfl rfl rfl .r) ?_
        refine RW.gt rfl rfl rfl rfl (V.cmpInt rfl rfl rfl rfl) ?_
        refine RW.v rfl (V.pickT (d := Bo ((n.peers.length : Int) == 0)) rfl rfl rfl) ?_
        refine RW.v rfl (V.as (d := Bo ((n.peers.length : Int) == 0)) rfl rfl) ?_
        refine RW.nil ?_
        exact ⟨_, by first | rfl | (simp_all; done) | (simp_all; omega) | grind, rfl, Le.c rfl <| Le.e⟩
       ·skip
        refine RW.guardF rfl rfl rfl rfl ?_
        refine RW.guardF rfl rfl rfl rfl ?_
        refine RW.guardF rfl rfl rfl rfl ?_
        refine RW.v rfl (V.pickF (d := Bo false) rfl rfl rfl) ?_
        refine RW.v rfl (V.as (d := Bo false) rfl rfl) ?_
        refine RW.nil ?_
        exact ⟨_, by first | rfl | (simp_all; done) | (simp_all; omega) | grind, rfl, Le.c rfl <| Le.e⟩
      ·intro v27 hv29
       refine CW.ret ?_
       exact Post.one (RV.b rfl (by first | (simp_all [nodeOk]; done) | grind [nodeOk])) (AOs.a rfl AOs.e)
     ·skip
      refine CW.seq ?_
      refine CW.region ?_
      refine RW.v rfl (V.cmpInt rfl rfl rfl rfl) ?_
      refine RW.v rfl (V.as (d := Bo (n.role == 1)) rfl rfl) ?_
      refine RW.nil ?_
      refine CW.le [(1, .obj b1 ((Node.c n).map .r)), (87, Bo (n.role == 1))] rfl (Le.of rfl) ?_
      refine CW.cond rfl (fun h30 => ?_) (fun h30 => ?_)
      ·skip
       refine CW.seq ?_
       refine CW.region ?_
       refine RW.v rfl (V.field rfl rfl rfl rfl (by decide) rfl) ?_
       refine RW.v rfl (V.loadPrim (d := .r (sl 4 Peer.c n.peers)) rfl rfl (.inr ⟨_, rfl⟩) rfl rfl rfl) ?_
       refine RW.v rfl (V.lenT (n := n.peers.length) rfl rfl rfl .r) ?_
       refine RW.v rfl (V.cmpInt rfl rfl rfl rfl) ?_
       refine RW.v rfl (V.as (d := Bo ((n.peers.length : Int) == 0)) rfl rfl) ?_
       refine RW.nil ?_
       refine CW.le [(2, Bo ((n.peers.length : Int) == 0))] rfl (Le.of rfl) ?_
       refine CW.ret ?_
       exact Post.one (RV.b rfl (by first | (simp_all [nodeOk]; done) | grind [nodeOk])) (AOs.a rfl AOs.e)
      ·skip
       refine CW.skip ?_
       refine CW.le [(1, .obj b1 ((Node.c n).map .r))] rfl (Le.of rfl) ?_
       refine CW.seqJ 106 (fun (v31 : Bool) => [(2, Bo v31)]) (fun v31 => v31 = (((n.role == 2) && ((n.votes.length : Int) == 0)) && (peersOkB n))) ?_ ?_
       ·refine CW.region ?_
        refine RW.v rfl (V.field rfl rfl rfl rfl (by decide) rfl) ?_
        refine RW.v rfl (V.loadPrim (d := I n.role) rfl rfl (.inl rfl) rfl rfl rfl) ?_
        refine RW.v rfl (V.cmpInt rfl rfl rfl rfl) ?_
        refine RW.v rfl (V.mv (d := Bo (n.role == 2)) rfl rfl) ?_
        refine RW.gv rfl rfl rfl rfl (fun h32 => V.field rfl rfl rfl rfl (by decide) rfl) (fun h32 => ?_) (fun h32 => ?_)
        ·skip
         refine RW.gt rfl rfl rfl rfl (V.loadPrim (d := .r (sl 1 cI n.votes)) rfl rfl (.inr ⟨_, rfl⟩) rfl rfl rfl) ?_
         refine RW.gt rfl rfl rfl rfl (V.lenT (n := n.votes.length) rfl rfl rfl .r) ?_
         refine RW.gt rfl rfl rfl rfl (V.cmpInt rfl rfl rfl rfl) ?_
         refine RW.v rfl (V.pickT (d := Bo ((n.votes.length : Int) == 0)) rfl rfl rfl) ?_
         refine RW.v rfl (V.mv (d := Bo ((n.votes.length : Int) == 0)) rfl rfl) ?_
         refine RW.gv rfl rfl rfl rfl (fun h33 => V.loadAgg rfl rfl rfl rfl rfl (Nat.le_of_ble_eq_true rfl)) (fun h33 => ?_) (fun h33 => ?_)
         ·skip
          refine RW.gcall rfl rfl rfl rfl (impl_peersOk_fn n hok) rfl (.cons (.agg (.cons (.r .r) (.cons (.r .r) (.cons (.r .r) (.cons (.r .r) (.cons (.r .r) (.cons (.r .r) (.cons (.r .r) (.cons (.r .r) (.cons (.r .r) (.cons (.r .r) (.cons (.r .r) (.cons (.r .r) (.cons (.r .r) (.cons (.r .r) (.nil)))))))))))))))) (.nil)) fun g34 => ?_
          refine RW.v rfl (V.pickT (d := Bo (peersOkB n)) rfl rfl rfl) ?_
          refine RW.v rfl (V.as (d := Bo (peersOkB n)) rfl rfl) ?_
          refine RW.nil ?_
          exact ⟨_, by first | rfl | (simp_all; done) | (simp_all; omega) | grind, rfl, Le.c rfl <| Le.e⟩
         ·skip
          refine RW.guardF rfl rfl rfl rfl ?_
          refine RW.v rfl (V.pickF (d := Bo false) rfl rfl rfl) ?_
          refine RW.v rfl (V.as (d := Bo false) rfl rfl) ?_
          refine RW.nil ?_
          exact ⟨_, by first | rfl | (simp_all; done) | (simp_all; omega) | grind, rfl, Le.c rfl <| Le.e⟩
        ·skip
         refine RW.guardF rfl rfl rfl rfl ?_
         refine RW.guardF rfl rfl rfl rfl ?_
         refine RW.guardF rfl rfl rfl rfl ?_
         refine RW.v rfl (V.pickF (d := Bo false) rfl rfl rfl) ?_
         refine RW.v rfl (V.mv (d := Bo false) rfl rfl) ?_
         refine RW.guardF rfl rfl rfl rfl ?_
         refine RW.guardF rfl rfl rfl rfl ?_
         refine RW.v rfl (V.pickF (d := Bo false) rfl rfl rfl) ?_
         refine RW.v rfl (V.as (d := Bo false) rfl rfl) ?_
         refine RW.nil ?_
         exact ⟨_, by first | rfl | (simp_all; done) | (simp_all; omega) | grind, rfl, Le.c rfl <| Le.e⟩
       ·intro v31 hv35
        refine CW.ret ?_
        exact Post.one (RV.b rfl (by first | (simp_all [nodeOk]; done) | grind [nodeOk])) (AOs.a rfl AOs.e)
set_option maxHeartbeats 4000000 in
theorem impl_LogTerm_fn (l : Log) (i : Int) (hs : 0 ≤ l.start ∧ l.start ≤ 1000000 ∧ l.entries.length ≤ 60) (hi : i ≤ 9223372036854775807) : Eng.Fn E.P 87 [.agg ((Log.c l).map .r), .one (.r (.v (.int .i64 i)))] (.one (.one (.w (.v (.int .i64 (logTerm l i)))))) [.agg ((Log.c l).map .r), .one (.r (.v (.int .i64 i)))] := by
 refine Eng.Fn.intro (E := E) (rvs := [.tmp 4]) Try.func87 rfl rfl rfl (by simp [outSlots, moved, rvSlot, sl]) ?_
 intro B g bo
 refine CW.le [(0, .agg ((Log.c l).map .r)), (1, I i)] rfl (Le.of rfl) ?_
 refine CW.seq ?_
 refine CW.region ?_
 refine RW.box (ds := ((Log.c l).map .r)) rfl rfl rfl fun b1 => ?_
 refine RW.v rfl (V.as (d := I 0) rfl rfl) ?_
 refine RW.nil ?_
 refine CW.le [(1, I i), (2, .obj b1 ((Log.c l).map .r))] rfl (Le.of rfl) ?_
 refine CW.seq ?_
 refine CW.block ?_
 refine CW.seq ?_
 refine CW.region ?_
 refine RW.v rfl (V.mv (d := I i) rfl rfl) ?_
 refine RW.v rfl (V.field rfl rfl rfl rfl (by decide) rfl) ?_
 refine RW.v rfl (V.loadPrim (d := I l.start) rfl rfl (.inl rfl) rfl rfl rfl) ?_
 refine RW.v rfl (V.cmpInt rfl rfl rfl rfl) ?_
 refine RW.v rfl (V.as (d := Bo (i == l.start)) rfl rfl) ?_
 refine RW.nil ?_
 refine CW.le [(1, I i), (2, .obj b1 ((Log.c l).map .r)), (5, Bo (i == l.start))] rfl (Le.of rfl) ?_
 refine CW.cond rfl (fun h2 => ?_) (fun h2 => ?_)
 ·skip
  refine CW.seq ?_
  refine CW.region ?_
  refine RW.v rfl (V.field rfl rfl rfl rfl (by decide) rfl) ?_
  refine RW.v rfl (V.loadPrim (d := I l.startTerm) rfl rfl (.inl rfl) rfl rfl rfl) ?_
  refine RW.v rfl (V.as (d := I l.startTerm) rfl rfl) ?_
  refine RW.nil ?_
  refine CW.le [(4, I l.startTerm)] rfl (Le.of rfl) ?_
  refine CW.ret ?_
  exact Post.one (RV.i rfl (by exact lt_at h2)) (AOs.a rfl (AOs.r AOs.e))
 ·skip
  refine CW.seqJ 37 (fun (v3 : Bool) => [(1, I i), (2, .obj b1 ((Log.c l).map .r)), (12, Bo v3)]) (fun v3 => v3 = (decide (i > l.start) && decide ((IntKind.i64.wrap (i - l.start)) ≤ (l.entries.length : Int)))) ?_ ?_
  ·refine CW.region ?_
   refine RW.v rfl (V.mv (d := I i) rfl rfl) ?_
   refine RW.v rfl (V.field rfl rfl rfl rfl (by decide) rfl) ?_
   refine RW.v rfl (V.loadPrim (d := I l.start) rfl rfl (.inl rfl) rfl rfl rfl) ?_
   refine RW.v rfl (V.cmpInt rfl rfl rfl rfl) ?_
   refine RW.v rfl (V.mv (d := Bo (decide (i > l.start))) rfl rfl) ?_
   refine RW.gv rfl rfl rfl rfl (fun h4 => V.mv (d := I i) rfl rfl) (fun h4 => ?_) (fun h4 => ?_)
   ·skip
    refine RW.gt rfl rfl rfl rfl (V.field rfl rfl rfl rfl (by decide) rfl) ?_
    refine RW.gt rfl rfl rfl rfl (V.loadPrim (d := I l.start) rfl rfl (.inl rfl) rfl rfl rfl) ?_
    refine RW.gt rfl rfl rfl rfl (V.arInt rfl rfl rfl rfl) ?_
    refine RW.gt rfl rfl rfl rfl (V.field rfl rfl rfl rfl (by decide) rfl) ?_
    refine RW.gt rfl rfl rfl rfl (V.loadPrim (d := .r (sl 3 Entry.c l.entries)) rfl rfl (.inr ⟨_, rfl⟩) rfl rfl rfl) ?_
    refine RW.gt rfl rfl rfl rfl (V.lenT (n := l.entries.length) rfl rfl rfl .r) ?_
    refine RW.gt rfl rfl rfl rfl (V.cmpInt rfl rfl rfl rfl) ?_
    refine RW.v rfl (V.pickT (d := Bo (decide ((IntKind.i64.wrap (i - l.start)) ≤ (l.entries.length : Int)))) rfl rfl rfl) ?_
    refine RW.v rfl (V.as (d := Bo (decide ((IntKind.i64.wrap (i - l.start)) ≤ (l.entries.length : Int)))) rfl rfl) ?_
    refine RW.nil ?_
    exact ⟨_, by first | rfl | (simp_all; done) | (simp_all; omega) | grind, rfl, Le.c rfl <| Le.c rfl <| Le.c rfl <| Le.e⟩
   ·skip
    refine RW.guardF rfl rfl rfl rfl ?_
    refine RW.guardF rfl rfl rfl rfl ?_
    refine RW.guardF rfl rfl rfl rfl ?_
    refine RW.guardF rfl rfl rfl rfl ?_
    refine RW.guardF rfl rfl rfl rfl ?_
    refine RW.guardF rfl rfl rfl rfl ?_
    refine RW.guardF rfl rfl rfl rfl ?_
    refine RW.v rfl (V.pickF (d := Bo false) rfl rfl rfl) ?_
    refine RW.v rfl (V.as (d := Bo false) rfl rfl) ?_
    refine RW.nil ?_
    exact ⟨_, by first | rfl | (simp_all; done) | (simp_all; omega) | grind, rfl, Le.c rfl <| Le.c rfl <| Le.c rfl <| Le.e⟩
  ·intro v3 hv5
   refine CW.cond rfl (fun h6 => ?_) (fun h6 => ?_)
   ·skip
    have hA : l.start < i ∧ i ≤ l.start + (l.entries.length : Int) := by rw [hv5, IntKind.wrap_i64] at h6; simp at h6; omega
    refine CW.seq ?_
    refine CW.region ?_
    refine RW.v rfl (V.field rfl rfl rfl rfl (by decide) rfl) ?_
    refine RW.v rfl (V.loadPrim (d := .r (sl 3 Entry.c l.entries)) rfl rfl (.inr ⟨_, rfl⟩) rfl rfl rfl) ?_
    refine RW.v rfl (V.mv (d := I i) rfl rfl) ?_
    refine RW.v rfl (V.field rfl rfl rfl rfl (by decide) rfl) ?_
    refine RW.v rfl (V.loadPrim (d := I l.start) rfl rfl (.inl rfl) rfl rfl rfl) ?_
    refine RW.v rfl (V.arInt rfl rfl rfl rfl) ?_
    refine RW.v rfl (V.arInt rfl rfl rfl rfl) ?_
    refine RW.v rfl (V.indexZ (m := (i - l.start - 1).toNat) (v := (l.entries.getD (i - l.start - 1).toNat Entry.z)) rfl rfl rfl rfl rfl rfl (by rw [IntKind.wrap_i64, IntKind.wrap_i64]; omega) Entry.len (getD_some (by omega))) ?_
    refine RW.v rfl (V.fieldR rfl rfl rfl rfl (by decide) rfl (Nat.le_of_ble_eq_true rfl)) ?_
    refine RW.v rfl (V.loadPrimR (t0 := .v (.int .i64 ((l.entries.getD (i - l.start - 1).toNat Entry.z).term_))) rfl rfl (.inl rfl) rfl rfl) ?_
    refine RW.v rfl (V.as (d := I ((l.entries.getD (i - l.start - 1).toNat Entry.z).term_)) rfl rfl) ?_
    refine RW.nil ?_
    refine CW.le [(4, I ((l.entries.getD (i - l.start - 1).toNat Entry.z).term_))] rfl (Le.of rfl) ?_
    refine CW.ret ?_
    exact Post.one (RV.i rfl (by exact lt_in (by simpa using h2) hA)) (AOs.a rfl (AOs.r AOs.e))
   ·skip
    have hne : i ≠ l.start := by simpa using h2
    have ho : i < l.start ∨ i > l.start + (l.entries.length : Int) := by rw [hv5, IntKind.wrap_i64] at h6; simp at h6; omega
    refine CW.skip ?_
    refine CW.le [] rfl (Le.of rfl) ?_
    refine CW.seq ?_
    refine CW.region ?_
    refine RW.v rfl (V.as (d := I (-1)) rfl rfl) ?_
    refine RW.nil ?_
    refine CW.le [(4, I (-1))] rfl (Le.of rfl) ?_
    refine CW.ret ?_
    exact Post.one (RV.i rfl (by exact lt_out (by simpa using h2) ho)) (AOs.a rfl (AOs.r AOs.e))
set_option maxHeartbeats 4000000 in
theorem impl_LogBehind_fn (l : Log) (b : Int) (t : Int) (hok : okToLog l) (hi : b ≤ 9223372036854775807) : Eng.Fn E.P 86 [.agg ((Log.c l).map .r), .one (.r (.v (.int .i64 b))), .one (.r (.v (.int .i64 t)))] (.one (.agg ((Log.c (logBehind l b t)).map .w))) [.agg ((Log.c l).map .r), .one (.r (.v (.int .i64 b))), .one (.r (.v (.int .i64 t)))] := by
 refine Eng.Fn.intro (E := E) (rvs := [.cell 6 44]) Try.func86 rfl rfl rfl (by simp [outSlots, moved, rvSlot, sl]) ?_
 intro B g bo
 refine CW.le [(0, .agg ((Log.c l).map .r)), (1, I b), (2, I t)] rfl (Le.of rfl) ?_
 refine CW.seq ?_
 refine CW.region ?_
 refine RW.box (ds := ((Log.c l).map .r)) rfl rfl rfl fun b1 => ?_
 refine RW.alloc (ds := [I 0, I 0, .r (.v (.slice none 0 0))]) rfl rfl rfl rfl fun b2 => ?_
 refine RW.nil ?_
 refine CW.le [(1, I b), (2, I t), (3, .obj b1 ((Log.c l).map .r)), (6, .obj b2 [I 0, I 0, .r (.v (.slice none 0 0))])] rfl (Le.of rfl) ?_
 refine CW.seq ?_
 refine CW.region ?_
 refine RW.v rfl (V.mv (d := I b) rfl rfl) ?_
 refine RW.v rfl (V.mv (d := I t) rfl rfl) ?_
 refine RW.v rfl (V.build (ds := [I b, I t, .r (.v (.slice none 0 0))]) rfl rfl rfl rfl (.one rfl rfl rfl (Nat.le_of_ble_eq_true rfl) (.one rfl rfl rfl (Nat.le_of_ble_eq_true rfl) (.nil)))) ?_
 refine RW.alloc (ds := [I 0, I 0, .r (.v (.slice none 0 0))]) rfl rfl rfl rfl fun b3 => ?_
 refine RW.storeAgg (es := [I b, I t, .r (.v (.slice none 0 0))]) rfl rfl rfl rfl rfl rfl rfl rfl (Nat.le_of_ble_eq_true rfl) rfl ?_
 refine RW.nil ?_
 refine CW.le [(1, I b), (2, I t), (3, .obj b1 ((Log.c l).map .r)), (6, .obj b2 [I 0, I 0, .r (.v (.slice none 0 0))]), (7, .obj b3 [I b, I t, .r (.v (.slice none 0 0))])] rfl (Le.of rfl) ?_
 refine CW.seq ?_
 refine CW.seqJ 36 (fun (v4 : Bool) => [(1, I b), (3, .obj b1 ((Log.c l).map .r)), (6, .obj b2 [I 0, I 0, .r (.v (.slice none 0 0))]), (7, .obj b3 [I b, I t, .r (.v (.slice none 0 0))]), (23, Bo v4)]) (fun v4 => v4 = (((logOk l) && ((logTerm l b) == t)) && decide (t ≥ 0))) ?_ ?_
 ·refine CW.region ?_
  refine RW.v rfl (V.loadAgg rfl rfl rfl rfl rfl (Nat.le_of_ble_eq_true rfl)) ?_
  refine RW.call rfl (impl_LogOk_fn l hok) rfl (.cons (.agg (.cons (.r .r) (.cons (.r .r) (.cons (.r .r) (.nil))))) (.nil)) fun g5 => ?_
  refine RW.v rfl (V.mv (d := Bo (logOk l)) rfl rfl) ?_
  refine RW.gv rfl rfl rfl rfl (fun h6 => V.loadAgg rfl rfl rfl rfl rfl (Nat.le_of_ble_eq_true rfl)) (fun h6 => ?_) (fun h6 => ?_)
  ·skip
   refine RW.gt rfl rfl rfl rfl (V.mv (d := I b) rfl rfl) ?_
   refine RW.gcall rfl rfl rfl rfl (impl_LogTerm_fn l b (logOk_hs h6) hi) rfl (.cons (.agg (.cons (.r .r) (.cons (.r .r) (.cons (.r .r) (.nil))))) (.cons (.one (.r .r)) (.nil))) fun g7 => ?_
   refine RW.gt rfl rfl rfl rfl (V.mv (d := I t) rfl rfl) ?_
   refine RW.gt rfl rfl rfl rfl (V.cmpInt rfl rfl rfl rfl) ?_
   refine RW.v rfl (V.pickT (d := Bo ((logTerm l b) == t)) rfl rfl rfl) ?_
   refine RW.v rfl (V.mv (d := Bo ((logTerm l b) == t)) rfl rfl) ?_
   refine RW.gv rfl rfl rfl rfl (fun h8 => V.mv (d := I t) rfl rfl) (fun h8 => ?_) (fun h8 => ?_)
   ·skip
    refine RW.gt rfl rfl rfl rfl (V.cmpInt rfl rfl rfl rfl) ?_
    refine RW.v rfl (V.pickT (d := Bo (decide (t ≥ 0))) rfl rfl rfl) ?_
    refine RW.nil ?_
    exact ⟨_, by first | rfl | (simp_all; done) | (simp_all; omega) | grind, rfl, Le.c rfl <| Le.c rfl <| Le.c rfl <| Le.c rfl <| Le.c rfl <| Le.e⟩
   ·skip
    refine RW.guardF rfl rfl rfl rfl ?_
    refine RW.v rfl (V.pickF (d := Bo false) rfl rfl rfl) ?_
    refine RW.nil ?_
    exact ⟨_, by first | rfl | (simp_all; done) | (simp_all; omega) | grind, rfl, Le.c rfl <| Le.c rfl <| Le.c rfl <| Le.c rfl <| Le.c rfl <| Le.e⟩
  ·skip
   refine RW.guardF rfl rfl rfl rfl ?_
   refine RW.guardF rfl rfl rfl rfl ?_
   refine RW.guardF rfl rfl rfl rfl ?_
   refine RW.guardF rfl rfl rfl rfl ?_
   refine RW.v rfl (V.pickF (d := Bo false) rfl rfl rfl) ?_
   refine RW.v rfl (V.mv (d := Bo false) rfl rfl) ?_
   refine RW.guardF rfl rfl rfl rfl ?_
   refine RW.guardF rfl rfl rfl rfl ?_
   refine RW.v rfl (V.pickF (d := Bo false) rfl rfl rfl) ?_
   refine RW.nil ?_
   exact ⟨_, by first | rfl | (simp_all; done) | (simp_all; omega) | grind, rfl, Le.c rfl <| Le.c rfl <| Le.c rfl <| Le.c rfl <| Le.c rfl <| Le.e⟩
 ·intro v4 hv9
  refine CW.cond rfl (fun h10 => ?_) (fun h10 => ?_)
  ·skip
   have hl : logOk l = true := by rw [hv9] at h10; simp at h10; exact h10.1.1
   have hs := logOk_hs hl
   have hr : l.start ≤ b ∧ b ≤ l.start + (l.entries.length : Int) := by rw [hv9, lb_impl2] at h10; simp [inR] at h10; omega
   have ht : (logTerm l b == t) = true := by rw [hv9] at h10; simp at h10; simpa using h10.1.2
   refine CW.anyR (fc := [(6, b2, [.int .i64 0, .int .i64 0, .slice none 0 0])]) 36 (fun (Xo11_9_1 : Value) => [(6, .obj b2 [I 0, I 0, .r (.v (.slice none 0 0))]), (7, .obj b3 [I b, I t, .w (sl 3 Entry.c (([]) ++ (l.entries.drop (b - l.start).toNat))) Xo11_9_1])]) (fun all hall K hK => ?_) ?_
   ·skip
    have ro11_111111111111 : ∀ (Xo11_9_1 : Value), RA [(6, b2, [.int .i64 0, .int .i64 0, .slice none 0 0])] E B all 0 #[true, true, true, true, true, true, true, true, true, true, true, true] ⟨36, [(6, .obj b2 [I 0, I 0, .r (.v (.slice none 0 0))]), (7, .obj b3 [I b, I t, .w (sl 3 Entry.c (([]) ++ (l.entries.drop (b - l.start).toNat))) Xo11_9_1])]⟩ K := by
     intro Xo11_9_1
     exact RA.of hall (RA.finH (Tell.c rfl rfl Tell.e) (by kernel_rfl) (hK Xo11_9_1 _ rfl (Le.of rfl)))
    have ro11_111111111110 : ∀ (Xo11_9_1 : Value), RA [(6, b2, [.int .i64 0, .int .i64 0, .slice none 0 0])] E B all 1 #[true, true, true, true, true, true, true, true, true, true, true, false] ⟨36, [(6, .obj b2 [I 0, I 0, .r (.v (.slice none 0 0))]), (7, .obj b3 [I b, I t, .r (.v (.slice none 0 0))]), (33, .w (sl 3 Entry.c (([]) ++ (l.entries.drop (b - l.start).toNat))) Xo11_9_1), (34, .pt 7 b3 2)]⟩ K := by
     intro Xo11_9_1
     refine RA.of hall (RA.stepH (L := [11]) (Tell.c rfl rfl Tell.e) (by kernel_rfl) (by simp) (RA.each ?_ (RA.each0)))
     ·skip
      refine RO.store (d := .al 33 none 3 ((([]) ++ (l.entries.drop (b - l.start).toNat)).length) Xo11_9_1 0) rfl rfl rfl rfl rfl rfl rfl rfl rfl (Nat.le_of_ble_eq_true rfl) rfl rfl ?_
      refine RA.le [(6, .obj b2 [I 0, I 0, .r (.v (.slice none 0 0))]), (7, .obj b3 [I b, I t, .al 33 none 3 ((([]) ++ (l.entries.drop (b - l.start).toNat)).length) Xo11_9_1 0]), (33, .w (sl 3 Entry.c (([]) ++ (l.entries.drop (b - l.start).toNat))) Xo11_9_1)] rfl (Le.of rfl) ?_
      refine RA.pullT (k := 7) (l := 33) (j := 2) 7 33 2 rfl rfl rfl (by decide) rfl rfl rfl ?_
      refine RA.le [(6, .obj b2 [I 0, I 0, .r (.v (.slice none 0 0))]), (7, .obj b3 [I b, I t, .w (sl 3 Entry.c (([]) ++ (l.entries.drop (b - l.start).toNat))) Xo11_9_1])] rfl (Le.of rfl) ?_
      exact RA.to hall (RA.lr (ro11_111111111111 Xo11_9_1) rfl rfl)
    have ro11_111111111000 : RA [(6, b2, [.int .i64 0, .int .i64 0, .slice none 0 0])] E B all 3 #[true, true, true, true, true, true, true, true, true, false, false, false] ⟨36, [(6, .obj b2 [I 0, I 0, .r (.v (.slice none 0 0))]), (7, .obj b3 [I b, I t, .r (.v (.slice none 0 0))]), (25, .r (.v (.slice none 0 0))), (32, .r (sl 3 Entry.c (l.entries.drop (b - l.start).toNat)))]⟩ K := by
     refine RA.of hall (RA.stepH (L := [9]) (Tell.c rfl rfl Tell.e) (by kernel_rfl) (by simp) (RA.each ?_ (RA.each0)))
     ·skip
      refine RO.nilOwn 25 3 Entry.c rfl ?_
      refine RO.appendSR (c := Entry.c) (l1 := []) (l2 := (l.entries.drop (b - l.start).toNat)) rfl rfl rfl rfl rfl rfl rfl rfl rfl rfl .r (by decide) (Nat.le_of_ble_eq_true rfl) Entry.len (fun _ => rfl) rfl (by have h9 := hok.1; have h8 : (l.entries.drop (b - l.start).toNat).length ≤ l.entries.length := (by rw [List.length_drop]; omega); simp only [maxLen, List.length_nil]; omega) (by have h9 := hok.1; have h8 : (l.entries.drop (b - l.start).toNat).length ≤ l.entries.length := (by rw [List.length_drop]; omega); simp only [maxLen, List.length_nil]; omega) fun Xo11_9_1 => ?_
      refine RA.first (i := 10) (ls' := #[true, true, true, true, true, true, true, true, true, true, true, false]) (Tell.c rfl rfl Tell.e) (by kernel_rfl) rfl rfl rfl (VF.p (V.field rfl rfl rfl rfl (by decide) rfl)) ?_
      exact RA.to hall (RA.lr (ro11_111111111110 Xo11_9_1) rfl rfl)
    have ro11_101111111000 : RA [(6, b2, [.int .i64 0, .int .i64 0, .slice none 0 0])] E B all 4 #[true, false, true, true, true, true, true, true, true, false, false, false] ⟨36, [(6, .obj b2 [I 0, I 0, .r (.v (.slice none 0 0))]), (7, .obj b3 [I b, I t, .r (.v (.slice none 0 0))]), (24, .pt 7 b3 2), (32, .r (sl 3 Entry.c (l.entries.drop (b - l.start).toNat)))]⟩ K := by
     refine RA.of hall (RA.stepH (L := [1]) (Tell.c rfl rfl Tell.e) (by kernel_rfl) (by simp) (RA.each ?_ (RA.each0)))
     ·skip
      refine RO.v rfl rfl (V.loadPrim (d := .r (.v (.slice none 0 0))) rfl rfl (.inr ⟨_, rfl⟩) rfl rfl rfl) rfl ?_
      exact RA.to hall (RA.lr ro11_111111111000 rfl rfl)
    have ro11_111011110000 : RA [(6, b2, [.int .i64 0, .int .i64 0, .slice none 0 0])] E B all 5 #[true, true, true, false, true, true, true, true, false, false, false, false] ⟨36, [(3, .obj b1 ((Log.c l).map .r)), (6, .obj b2 [I 0, I 0, .r (.v (.slice none 0 0))]), (7, .obj b3 [I b, I t, .r (.v (.slice none 0 0))]), (25, .r (.v (.slice none 0 0))), (26, .pt 3 b1 2), (31, I (IntKind.i64.wrap (b - l.start)))]⟩ K := by
     refine RA.of hall (RA.stepH (L := [3]) (Tell.c rfl rfl Tell.e) (by kernel_rfl) (by simp) (RA.each ?_ (RA.each0)))
     ·skip
      refine RO.v rfl rfl (V.loadPrim (d := .r (sl 3 Entry.c l.entries)) rfl rfl (.inr ⟨_, rfl⟩) rfl rfl rfl) rfl ?_
      refine RA.first (i := 8) (ls' := #[true, true, true, true, true, true, true, true, true, false, false, false]) (Tell.c rfl rfl Tell.e) (by kernel_rfl) rfl rfl rfl (VF.p (V.dropS (m := (b - l.start).toNat) rfl rfl rfl rfl rfl rfl (by rw [IntKind.wrap_i64]; omega) Entry.len (by omega))) ?_
      exact RA.to hall (RA.lr ro11_111111111000 rfl rfl)
    have ro11_111111000000 : RA [(6, b2, [.int .i64 0, .int .i64 0, .slice none 0 0])] E B all 6 #[true, true, true, true, true, true, false, false, false, false, false, false] ⟨36, [(3, .obj b1 ((Log.c l).map .r)), (6, .obj b2 [I 0, I 0, .r (.v (.slice none 0 0))]), (7, .obj b3 [I b, I t, .r (.v (.slice none 0 0))]), (25, .r (.v (.slice none 0 0))), (27, .r (sl 3 Entry.c l.entries)), (28, I b), (29, .pt 3 b1 0)]⟩ K := by
     refine RA.of hall (RA.stepH (L := [6]) (Tell.c rfl rfl Tell.e) (by kernel_rfl) (by simp) (RA.each ?_ (RA.each0)))
     ·skip
      refine RO.v rfl rfl (V.loadPrim (d := I l.start) rfl rfl (.inl rfl) rfl rfl rfl) rfl ?_
      refine RA.first (i := 7) (ls' := #[true, true, true, true, true, true, true, true, false, false, false, false]) (Tell.c rfl rfl Tell.e) (by kernel_rfl) rfl rfl rfl (VF.p (V.arInt rfl rfl rfl rfl)) ?_
      refine RA.first (i := 8) (ls' := #[true, true, true, true, true, true, true, true, true, false, false, false]) (Tell.c rfl rfl Tell.e) (by kernel_rfl) rfl rfl rfl (VF.p (V.dropS (m := (b - l.start).toNat) rfl rfl rfl rfl rfl rfl (by rw [IntKind.wrap_i64]; omega) Entry.len (by omega))) ?_
      exact RA.to hall (RA.lr ro11_111111111000 rfl rfl)
    have ro11_101011110000 : RA [(6, b2, [.int .i64 0, .int .i64 0, .slice none 0 0])] E B all 6 #[true, false, true, false, true, true, true, true, false, false, false, false] ⟨36, [(3, .obj b1 ((Log.c l).map .r)), (6, .obj b2 [I 0, I 0, .r (.v (.slice none 0 0))]), (7, .obj b3 [I b, I t, .r (.v (.slice none 0 0))]), (24, .pt 7 b3 2), (26, .pt 3 b1 2), (31, I (IntKind.i64.wrap (b - l.start)))]⟩ K := by
     refine RA.of hall (RA.stepH (L := [1, 3]) (Tell.c rfl rfl Tell.e) (by kernel_rfl) (by simp) (RA.each ?_ (RA.each ?_ (RA.each0))))
     ·skip
      refine RO.v rfl rfl (V.loadPrim (d := .r (.v (.slice none 0 0))) rfl rfl (.inr ⟨_, rfl⟩) rfl rfl rfl) rfl ?_
      exact RA.to hall (RA.lr ro11_111011110000 rfl rfl)
     ·skip
      refine RO.v rfl rfl (V.loadPrim (d := .r (sl 3 Entry.c l.entries)) rfl rfl (.inr ⟨_, rfl⟩) rfl rfl rfl) rfl ?_
      refine RA.first (i := 8) (ls' := #[true, false, true, true, true, true, true, true, true, false, false, false]) (Tell.c rfl rfl Tell.e) (by kernel_rfl) rfl rfl rfl (VF.p (V.dropS (m := (b - l.start).toNat) rfl rfl rfl rfl rfl rfl (by rw [IntKind.wrap_i64]; omega) Entry.len (by omega))) ?_
      exact RA.to hall (RA.lr ro11_101111111000 rfl rfl)
    have ro11_101111000000 : RA [(6, b2, [.int .i64 0, .int .i64 0, .slice none 0 0])] E B all 7 #[true, false, true, true, true, true, false, false, false, false, false, false] ⟨36, [(3, .obj b1 ((Log.c l).map .r)), (6, .obj b2 [I 0, I 0, .r (.v (.slice none 0 0))]), (7, .obj b3 [I b, I t, .r (.v (.slice none 0 0))]), (24, .pt 7 b3 2), (27, .r (sl 3 Entry.c l.entries)), (28, I b), (29, .pt 3 b1 0)]⟩ K := by
     refine RA.of hall (RA.stepH (L := [1, 6]) (Tell.c rfl rfl Tell.e) (by kernel_rfl) (by simp) (RA.each ?_ (RA.each ?_ (RA.each0))))
     ·skip
      refine RO.v rfl rfl (V.loadPrim (d := .r (.v (.slice none 0 0))) rfl rfl (.inr ⟨_, rfl⟩) rfl rfl rfl) rfl ?_
      exact RA.to hall (RA.lr ro11_111111000000 rfl rfl)
     ·skip
      refine RO.v rfl rfl (V.loadPrim (d := I l.start) rfl rfl (.inl rfl) rfl rfl rfl) rfl ?_
      refine RA.first (i := 7) (ls' := #[true, false, true, true, true, true, true, true, false, false, false, false]) (Tell.c rfl rfl Tell.e) (by kernel_rfl) rfl rfl rfl (VF.p (V.arInt rfl rfl rfl rfl)) ?_
      refine RA.first (i := 8) (ls' := #[true, false, true, true, true, true, true, true, true, false, false, false]) (Tell.c rfl rfl Tell.e) (by kernel_rfl) rfl rfl rfl (VF.p (V.dropS (m := (b - l.start).toNat) rfl rfl rfl rfl rfl rfl (by rw [IntKind.wrap_i64]; omega) Entry.len (by omega))) ?_
      exact RA.to hall (RA.lr ro11_101111111000 rfl rfl)
    have ro11_111011000000 : RA [(6, b2, [.int .i64 0, .int .i64 0, .slice none 0 0])] E B all 7 #[true, true, true, false, true, true, false, false, false, false, false, false] ⟨36, [(3, .obj b1 ((Log.c l).map .r)), (6, .obj b2 [I 0, I 0, .r (.v (.slice none 0 0))]), (7, .obj b3 [I b, I t, .r (.v (.slice none 0 0))]), (25, .r (.v (.slice none 0 0))), (26, .pt 3 b1 2), (28, I b), (29, .pt 3 b1 0)]⟩ K := by
     refine RA.of hall (RA.stepH (L := [3, 6]) (Tell.c rfl rfl Tell.e) (by kernel_rfl) (by simp) (RA.each ?_ (RA.each ?_ (RA.each0))))
     ·skip
      refine RO.v rfl rfl (V.loadPrim (d := .r (sl 3 Entry.c l.entries)) rfl rfl (.inr ⟨_, rfl⟩) rfl rfl rfl) rfl ?_
      exact RA.to hall (RA.lr ro11_111111000000 rfl rfl)
     ·skip
      refine RO.v rfl rfl (V.loadPrim (d := I l.start) rfl rfl (.inl rfl) rfl rfl rfl) rfl ?_
      refine RA.first (i := 7) (ls' := #[true, true, true, false, true, true, true, true, false, false, false, false]) (Tell.c rfl rfl Tell.e) (by kernel_rfl) rfl rfl rfl (VF.p (V.arInt rfl rfl rfl rfl)) ?_
      exact RA.to hall (RA.lr ro11_111011110000 rfl rfl)
    have ro11_101011000000 : RA [(6, b2, [.int .i64 0, .int .i64 0, .slice none 0 0])] E B all 8 #[true, false, true, false, true, true, false, false, false, false, false, false] ⟨36, [(3, .obj b1 ((Log.c l).map .r)), (6, .obj b2 [I 0, I 0, .r (.v (.slice none 0 0))]), (7, .obj b3 [I b, I t, .r (.v (.slice none 0 0))]), (24, .pt 7 b3 2), (26, .pt 3 b1 2), (28, I b), (29, .pt 3 b1 0)]⟩ K := by
     refine RA.of hall (RA.stepH (L := [1, 3, 6]) (Tell.c rfl rfl Tell.e) (by kernel_rfl) (by simp) (RA.each ?_ (RA.each ?_ (RA.each ?_ (RA.each0)))))
     ·skip
      refine RO.v rfl rfl (V.loadPrim (d := .r (.v (.slice none 0 0))) rfl rfl (.inr ⟨_, rfl⟩) rfl rfl rfl) rfl ?_
      exact RA.to hall (RA.lr ro11_111011000000 rfl rfl)
     ·skip
      refine RO.v rfl rfl (V.loadPrim (d := .r (sl 3 Entry.c l.entries)) rfl rfl (.inr ⟨_, rfl⟩) rfl rfl rfl) rfl ?_
      exact RA.to hall (RA.lr ro11_101111000000 rfl rfl)
     ·skip
      refine RO.v rfl rfl (V.loadPrim (d := I l.start) rfl rfl (.inl rfl) rfl rfl rfl) rfl ?_
      refine RA.first (i := 7) (ls' := #[true, false, true, false, true, true, true, true, false, false, false, false]) (Tell.c rfl rfl Tell.e) (by kernel_rfl) rfl rfl rfl (VF.p (V.arInt rfl rfl rfl rfl)) ?_
      exact RA.to hall (RA.lr ro11_101011110000 rfl rfl)
    have ro11_S : RA [(6, b2, [.int .i64 0, .int .i64 0, .slice none 0 0])] E B all 12 #[false, false, false, false, false, false, false, false, false, false, false, false] ⟨36, [(1, I b), (3, .obj b1 ((Log.c l).map .r)), (6, .obj b2 [I 0, I 0, .r (.v (.slice none 0 0))]), (7, .obj b3 [I b, I t, .r (.v (.slice none 0 0))])]⟩ K := by
     refine RA.of hall ?_
     refine RA.first (i := 0) (ls' := #[true, false, false, false, false, false, false, false, false, false, false, false]) (Tell.c rfl rfl Tell.e) (by kernel_rfl) rfl rfl rfl (VF.p (V.field rfl rfl rfl rfl (by decide) rfl)) ?_
     refine RA.first (i := 2) (ls' := #[true, false, true, false, false, false, false, false, false, false, false, false]) (Tell.c rfl rfl Tell.e) (by kernel_rfl) rfl rfl rfl (VF.p (V.field rfl rfl rfl rfl (by decide) rfl)) ?_
     refine RA.first (i := 4) (ls' := #[true, false, true, false, true, false, false, false, false, false, false, false]) (Tell.c rfl rfl Tell.e) (by kernel_rfl) rfl rfl rfl (VF.p (V.mv (d := I b) rfl rfl)) ?_
     refine RA.first (i := 5) (ls' := #[true, false, true, false, true, true, false, false, false, false, false, false]) (Tell.c rfl rfl Tell.e) (by kernel_rfl) rfl rfl rfl (VF.p (V.field rfl rfl rfl rfl (by decide) rfl)) ?_
     exact RA.to hall (RA.lr ro11_101011000000 rfl rfl)
    exact RA.start (by kernel_rfl) (by kernel_rfl) (RA.lr ro11_S rfl rfl)
   ·rintro Xo11_9_1
    refine CW.le [(6, .obj b2 [I 0, I 0, .r (.v (.slice none 0 0))]), (7, .obj b3 [I b, I t, .w (sl 3 Entry.c (([]) ++ (l.entries.drop (b - l.start).toNat))) Xo11_9_1])] rfl (Le.of rfl) ?_
    refine CW.seq ?_
    refine CW.region ?_
    refine RW.v rfl (V.loadAgg rfl rfl rfl rfl rfl (Nat.le_of_ble_eq_true rfl)) ?_
    refine RW.storeAgg (es := [I b, I t, .al 7 (some 2) 3 ((([]) ++ (l.entries.drop (b - l.start).toNat)).length) Xo11_9_1 0]) rfl rfl rfl rfl rfl rfl rfl rfl (Nat.le_of_ble_eq_true rfl) rfl ?_
    refine RW.le [(6, .obj b2 [I b, I t, .al 7 (some 2) 3 ((([]) ++ (l.entries.drop (b - l.start).toNat)).length) Xo11_9_1 0]), (7, .obj b3 [I b, I t, .w (sl 3 Entry.c (([]) ++ (l.entries.drop (b - l.start).toNat))) Xo11_9_1])] rfl (Le.of rfl) ?_
    refine RW.pullO (k := 6) (l := 7) (j := 2) 6 7 2 rfl rfl rfl (by decide) rfl rfl rfl rfl ?_
    refine RW.le [(6, .obj b2 [I b, I t, .w (sl 3 Entry.c (([]) ++ (l.entries.drop (b - l.start).toNat))) Xo11_9_1]), (7, .obj b3 [I b, I t, .u])] rfl (Le.of rfl) ?_
    refine RW.nil ?_
    refine CW.le [(6, .obj b2 [I b, I t, .w (sl 3 Entry.c (([]) ++ (l.entries.drop (b - l.start).toNat))) Xo11_9_1])] rfl (Le.of rfl) ?_
    refine CW.ret ?_
    exact Post.one (RV.c (f := fun e => (Log.c e).map .w) (e' := (⟨b, t, (([]) ++ (l.entries.drop (b - l.start).toNat))⟩ : Log)) rfl rfl rfl rfl (DT.v (DT.v (DT.w DT.e))) (by rw [lb_yes hl hr ht]; rfl)) (AOs.a rfl (AOs.r (AOs.r AOs.e)))
  ·skip
   refine CW.skip ?_
   refine CW.le [(6, .obj b2 [I 0, I 0, .r (.v (.slice none 0 0))]), (7, .obj b3 [I b, I t, .r (.v (.slice none 0 0))])] rfl (Le.of rfl) ?_
   refine CW.seq ?_
   refine CW.region ?_
   refine RW.v rfl (V.loadAgg rfl rfl rfl rfl rfl (Nat.le_of_ble_eq_true rfl)) ?_
   refine RW.storeAgg (es := [I b, I t, .r (.v (.slice none 0 0))]) rfl rfl rfl rfl rfl rfl rfl rfl (Nat.le_of_ble_eq_true rfl) rfl ?_
   refine RW.nil ?_
   refine CW.le [(6, .obj b2 [I b, I t, .r (.v (.slice none 0 0))])] rfl (Le.of rfl) ?_
   refine CW.ret ?_
   exact Post.one (RV.c (f := fun e => (Log.c e).map .w) (e' := (⟨b, t, []⟩ : Log)) rfl rfl rfl rfl (DT.v (DT.v (DT.n DT.e))) (by rw [lb_no (by rw [← lb_impl2, ← hv9]; exact h10)])) (AOs.a rfl (AOs.r (AOs.r AOs.e)))
set_option maxHeartbeats 4000000 in
theorem impl_copyLog_fn (l : Log) (hok : okToLog l) : Eng.Fn E.P 123 [.agg ((Log.c l).map .r)] (.one (.agg ((Log.c l).map .w))) [.agg ((Log.c l).map .r)] := by
 refine Eng.Fn.intro (E := E) (rvs := [.cell 2 44]) Try.func123 rfl rfl rfl (by simp [outSlots, moved, rvSlot, sl]) ?_
 intro B g bo
 refine CW.le [(0, .agg ((Log.c l).map .r))] rfl (Le.of rfl) ?_
 refine CW.seq ?_
 refine CW.region ?_
 refine RW.box (ds := ((Log.c l).map .r)) rfl rfl rfl fun b1 => ?_
 refine RW.alloc (ds := [I 0, I 0, .r (.v (.slice none 0 0))]) rfl rfl rfl rfl fun b2 => ?_
 refine RW.nil ?_
 refine CW.le [(1, .obj b1 ((Log.c l).map .r)), (2, .obj b2 [I 0, I 0, .r (.v (.slice none 0 0))])] rfl (Le.of rfl) ?_
 refine CW.anyJ (fc := []) 12 (fun (zz : Value × Value) => match zz with | (Xo3_4_1, Xo3_7_1) => [(2, .obj b2 [I l.start, I l.startTerm, .w (sl 3 Entry.c (([] : List Entry) ++ l.entries)) Xo3_7_1])]) (fun all hall K hK => ?_) ?_
 ·skip
  have ro3_1111111111 : ∀ (Xo3_4_1 : Value), ∀ (Xo3_7_1 : Value), RA [] E B all 0 #[true, true, true, true, true, true, true, true, true, true] ⟨12, [(2, .obj b2 [I l.start, I l.startTerm, .w (sl 3 Entry.c (([] : List Entry) ++ l.entries)) Xo3_7_1])]⟩ K := by
   intro Xo3_4_1 Xo3_7_1
   exact RA.of hall (RA.finH Tell.e (by kernel_rfl) (hK (Xo3_4_1, Xo3_7_1) _ rfl (Le.of rfl)))
  have ro3_1111111110 : ∀ (Xo3_4_1 : Value), ∀ (Xo3_7_1 : Value), RA [] E B all 1 #[true, true, true, true, true, true, true, true, true, false] ⟨12, [(2, .obj b2 [I 0, I 0, .r (.v (.slice none 0 0))]), (10, .w (sl 3 Entry.c (([] : List Entry) ++ l.entries)) Xo3_7_1), (11, .agg [I l.start, I l.startTerm, .al 10 none 3 ((([] : List Entry) ++ l.entries).length) Xo3_7_1 0])]⟩ K := by
   intro Xo3_4_1 Xo3_7_1
   refine RA.of hall (RA.stepH (L := [9]) Tell.e (by kernel_rfl) (by simp) (RA.each ?_ (RA.each0)))
   ·skip
    refine RO.storeAgg (es := [I l.start, I l.startTerm, .al 10 none 3 ((([] : List Entry) ++ l.entries).length) Xo3_7_1 0]) rfl rfl rfl rfl rfl rfl rfl rfl rfl rfl (Nat.le_of_ble_eq_true rfl) rfl ?_
    refine RA.le [(2, .obj b2 [I l.start, I l.startTerm, .al 10 none 3 ((([] : List Entry) ++ l.entries).length) Xo3_7_1 0]), (10, .w (sl 3 Entry.c (([] : List Entry) ++ l.entries)) Xo3_7_1)] rfl (Le.of rfl) ?_
    refine RA.pullT (k := 2) (l := 10) (j := 2) 2 10 2 rfl rfl rfl (by decide) rfl rfl rfl ?_
    refine RA.le [(2, .obj b2 [I l.start, I l.startTerm, .w (sl 3 Entry.c (([] : List Entry) ++ l.entries)) Xo3_7_1])] rfl (Le.of rfl) ?_
    exact RA.to hall (RA.lr (ro3_1111111111 Xo3_4_1 Xo3_7_1) rfl rfl)
  have ro3_1011111100 : ∀ (Xo3_4_1 : Value), ∀ (Xo3_7_1 : Value), RA [] E B all 3 #[true, false, true, true, true, true, true, true, false, false] ⟨12, [(1, .obj b1 ((Log.c l).map .r)), (2, .obj b2 [I 0, I 0, .r (.v (.slice none 0 0))]), (3, .pt 1 b1 0), (6, I l.startTerm), (10, .w (sl 3 Entry.c (([] : List Entry) ++ l.entries)) Xo3_7_1)]⟩ K := by
   intro Xo3_4_1 Xo3_7_1
   refine RA.of hall (RA.stepH (L := [1]) Tell.e (by kernel_rfl) (by simp) (RA.each ?_ (RA.each0)))
   ·skip
    refine RO.v rfl rfl (V.loadPrim (d := I l.start) rfl rfl (.inl rfl) rfl rfl rfl) rfl ?_
    refine RA.first (i := 8) (ls' := #[true, true, true, true, true, true, true, true, true, false]) Tell.e (by kernel_rfl) rfl rfl rfl (VF.p (V.build (ds := [I l.start, I l.startTerm, .al 10 none 3 ((([] : List Entry) ++ l.entries).length) Xo3_7_1 0]) rfl rfl rfl rfl (.one rfl rfl rfl (Nat.le_of_ble_eq_true rfl) (.one rfl rfl rfl (Nat.le_of_ble_eq_true rfl) (.one rfl rfl rfl (Nat.le_of_ble_eq_true rfl) (.nil)))))) ?_
    exact RA.to hall (RA.lr (ro3_1111111110 Xo3_4_1 Xo3_7_1) rfl rfl)
  have ro3_1110111100 : ∀ (Xo3_4_1 : Value), ∀ (Xo3_7_1 : Value), RA [] E B all 3 #[true, true, true, false, true, true, true, true, false, false] ⟨12, [(1, .obj b1 ((Log.c l).map .r)), (2, .obj b2 [I 0, I 0, .r (.v (.slice none 0 0))]), (4, I l.start), (5, .pt 1 b1 1), (10, .w (sl 3 Entry.c (([] : List Entry) ++ l.entries)) Xo3_7_1)]⟩ K := by
   intro Xo3_4_1 Xo3_7_1
   refine RA.of hall (RA.stepH (L := [3]) Tell.e (by kernel_rfl) (by simp) (RA.each ?_ (RA.each0)))
   ·skip
    refine RO.v rfl rfl (V.loadPrim (d := I l.startTerm) rfl rfl (.inl rfl) rfl rfl rfl) rfl ?_
    refine RA.first (i := 8) (ls' := #[true, true, true, true, true, true, true, true, true, false]) Tell.e (by kernel_rfl) rfl rfl rfl (VF.p (V.build (ds := [I l.start, I l.startTerm, .al 10 none 3 ((([] : List Entry) ++ l.entries).length) Xo3_7_1 0]) rfl rfl rfl rfl (.one rfl rfl rfl (Nat.le_of_ble_eq_true rfl) (.one rfl rfl rfl (Nat.le_of_ble_eq_true rfl) (.one rfl rfl rfl (Nat.le_of_ble_eq_true rfl) (.nil)))))) ?_
    exact RA.to hall (RA.lr (ro3_1111111110 Xo3_4_1 Xo3_7_1) rfl rfl)
  have ro3_1111111000 : ∀ (Xo3_4_1 : Value), RA [] E B all 3 #[true, true, true, true, true, true, true, false, false, false] ⟨12, [(2, .obj b2 [I 0, I 0, .r (.v (.slice none 0 0))]), (4, I l.start), (6, I l.startTerm), (7, .w (sl 3 Entry.c ([] : List Entry)) Xo3_4_1), (9, .r (sl 3 Entry.c l.entries))]⟩ K := by
   intro Xo3_4_1
   refine RA.of hall (RA.stepH (L := [7]) Tell.e (by kernel_rfl) (by simp) (RA.each ?_ (RA.each0)))
   ·skip
    refine RO.appendSR (c := Entry.c) (l1 := ([] : List Entry)) (l2 := l.entries) rfl rfl rfl rfl rfl rfl rfl rfl rfl rfl .r (by decide) (Nat.le_of_ble_eq_true rfl) Entry.len (fun _ => rfl) rfl (by have h1 := hok.1; simp only [maxLen, List.length_nil]; omega) (by have h1 := hok.1; simp only [maxLen, List.length_nil]; omega) fun Xo3_7_1 => ?_
    refine RA.first (i := 8) (ls' := #[true, true, true, true, true, true, true, true, true, false]) Tell.e (by kernel_rfl) rfl rfl rfl (VF.p (V.build (ds := [I l.start, I l.startTerm, .al 10 none 3 ((([] : List Entry) ++ l.entries).length) Xo3_7_1 0]) rfl rfl rfl rfl (.one rfl rfl rfl (Nat.le_of_ble_eq_true rfl) (.one rfl rfl rfl (Nat.le_of_ble_eq_true rfl) (.one rfl rfl rfl (Nat.le_of_ble_eq_true rfl) (.nil)))))) ?_
    exact RA.to hall (RA.lr (ro3_1111111110 Xo3_4_1 Xo3_7_1) rfl rfl)
  have ro3_1010111100 : ∀ (Xo3_4_1 : Value), ∀ (Xo3_7_1 : Value), RA [] E B all 4 #[true, false, true, false, true, true, true, true, false, false] ⟨12, [(1, .obj b1 ((Log.c l).map .r)), (2, .obj b2 [I 0, I 0, .r (.v (.slice none 0 0))]), (3, .pt 1 b1 0), (5, .pt 1 b1 1), (10, .w (sl 3 Entry.c (([] : List Entry) ++ l.entries)) Xo3_7_1)]⟩ K := by
   intro Xo3_4_1 Xo3_7_1
   refine RA.of hall (RA.stepH (L := [1, 3]) Tell.e (by kernel_rfl) (by simp) (RA.each ?_ (RA.each ?_ (RA.each0))))
   ·skip
    refine RO.v rfl rfl (V.loadPrim (d := I l.start) rfl rfl (.inl rfl) rfl rfl rfl) rfl ?_
    exact RA.to hall (RA.lr (ro3_1110111100 Xo3_4_1 Xo3_7_1) rfl rfl)
   ·skip
    refine RO.v rfl rfl (V.loadPrim (d := I l.startTerm) rfl rfl (.inl rfl) rfl rfl rfl) rfl ?_
    exact RA.to hall (RA.lr (ro3_1011111100 Xo3_4_1 Xo3_7_1) rfl rfl)
  have ro3_1011111000 : ∀ (Xo3_4_1 : Value), RA [] E B all 4 #[true, false, true, true, true, true, true, false, false, false] ⟨12, [(1, .obj b1 ((Log.c l).map .r)), (2, .obj b2 [I 0, I 0, .r (.v (.slice none 0 0))]), (3, .pt 1 b1 0), (6, I l.startTerm), (7, .w (sl 3 Entry.c ([] : List Entry)) Xo3_4_1), (9, .r (sl 3 Entry.c l.entries))]⟩ K := by
   intro Xo3_4_1
   refine RA.of hall (RA.stepH (L := [1, 7]) Tell.e (by kernel_rfl) (by simp) (RA.each ?_ (RA.each ?_ (RA.each0))))
   ·skip
    refine RO.v rfl rfl (V.loadPrim (d := I l.start) rfl rfl (.inl rfl) rfl rfl rfl) rfl ?_
    exact RA.to hall (RA.lr (ro3_1111111000 Xo3_4_1) rfl rfl)
   ·skip
    refine RO.appendSR (c := Entry.c) (l1 := ([] : List Entry)) (l2 := l.entries) rfl rfl rfl rfl rfl rfl rfl rfl rfl rfl .r (by decide) (Nat.le_of_ble_eq_true rfl) Entry.len (fun _ => rfl) rfl (by have h1 := hok.1; simp only [maxLen, List.length_nil]; omega) (by have h1 := hok.1; simp only [maxLen, List.length_nil]; omega) fun Xo3_7_1 => ?_
    exact RA.to hall (RA.lr (ro3_1011111100 Xo3_4_1 Xo3_7_1) rfl rfl)
  have ro3_1110111000 : ∀ (Xo3_4_1 : Value), RA [] E B all 4 #[true, true, true, false, true, true, true, false, false, false] ⟨12, [(1, .obj b1 ((Log.c l).map .r)), (2, .obj b2 [I 0, I 0, .r (.v (.slice none 0 0))]), (4, I l.start), (5, .pt 1 b1 1), (7, .w (sl 3 Entry.c ([] : List Entry)) Xo3_4_1), (9, .r (sl 3 Entry.c l.entries))]⟩ K := by
   intro Xo3_4_1
   refine RA.of hall (RA.stepH (L := [3, 7]) Tell.e (by kernel_rfl) (by simp) (RA.each ?_ (RA.each ?_ (RA.each0))))
   ·skip
    refine RO.v rfl rfl (V.loadPrim (d := I l.startTerm) rfl rfl (.inl rfl) rfl rfl rfl) rfl ?_
    exact RA.to hall (RA.lr (ro3_1111111000 Xo3_4_1) rfl rfl)
   ·skip
    refine RO.appendSR (c := Entry.c) (l1 := ([] : List Entry)) (l2 := l.entries) rfl rfl rfl rfl rfl rfl rfl rfl rfl rfl .r (by decide) (Nat.le_of_ble_eq_true rfl) Entry.len (fun _ => rfl) rfl (by have h1 := hok.1; simp only [maxLen, List.length_nil]; omega) (by have h1 := hok.1; simp only [maxLen, List.length_nil]; omega) fun Xo3_7_1 => ?_
    exact RA.to hall (RA.lr (ro3_1110111100 Xo3_4_1 Xo3_7_1) rfl rfl)
  have ro3_1111011000 : RA [] E B all 4 #[true, true, true, true, false, true, true, false, false, false] ⟨12, [(2, .obj b2 [I 0, I 0, .r (.v (.slice none 0 0))]), (4, I l.start), (6, I l.startTerm), (9, .r (sl 3 Entry.c l.entries))]⟩ K := by
   refine RA.of hall (RA.stepH (L := [4]) Tell.e (by kernel_rfl) (by simp) (RA.each ?_ (RA.each0)))
   ·skip
    refine RO.build0 Entry.c rfl rfl rfl rfl rfl rfl rfl fun Xo3_4_1 => ?_
    exact RA.to hall (RA.lr (ro3_1111111000 Xo3_4_1) rfl rfl)
  have ro3_1111110000 : ∀ (Xo3_4_1 : Value), RA [] E B all 4 #[true, true, true, true, true, true, false, false, false, false] ⟨12, [(1, .obj b1 ((Log.c l).map .r)), (2, .obj b2 [I 0, I 0, .r (.v (.slice none 0 0))]), (4, I l.start), (6, I l.startTerm), (7, .w (sl 3 Entry.c ([] : List Entry)) Xo3_4_1), (8, .pt 1 b1 2)]⟩ K := by
   intro Xo3_4_1
   refine RA.of hall (RA.stepH (L := [6]) Tell.e (by kernel_rfl) (by simp) (RA.each ?_ (RA.each0)))
   ·skip
    refine RO.v rfl rfl (V.loadPrim (d := .r (sl 3 Entry.c l.entries)) rfl rfl (.inr ⟨_, rfl⟩) rfl rfl rfl) rfl ?_
    exact RA.to hall (RA.lr (ro3_1111111000 Xo3_4_1) rfl rfl)
  have ro3_1010111000 : ∀ (Xo3_4_1 : Value), RA [] E B all 5 #[true, false, true, false, true, true, true, false, false, false] ⟨12, [(1, .obj b1 ((Log.c l).map .r)), (2, .obj b2 [I 0, I 0, .r (.v (.slice none 0 0))]), (3, .pt 1 b1 0), (5, .pt 1 b1 1), (7, .w (sl 3 Entry.c ([] : List Entry)) Xo3_4_1), (9, .r (sl 3 Entry.c l.entries))]⟩ K := by
   intro Xo3_4_1
   refine RA.of hall (RA.stepH (L := [1, 3, 7]) Tell.e (by kernel_rfl) (by simp) (RA.each ?_ (RA.each ?_ (RA.each ?_ (RA.each0)))))
   ·skip
    refine RO.v rfl rfl (V.loadPrim (d := I l.start) rfl rfl (.inl rfl) rfl rfl rfl) rfl ?_
    exact RA.to hall (RA.lr (ro3_1110111000 Xo3_4_1) rfl rfl)
   ·skip
    refine RO.v rfl rfl (V.loadPrim (d := I l.startTerm) rfl rfl (.inl rfl) rfl rfl rfl) rfl ?_
    exact RA.to hall (RA.lr (ro3_1011111000 Xo3_4_1) rfl rfl)
   ·skip
    refine RO.appendSR (c := Entry.c) (l1 := ([] : List Entry)) (l2 := l.entries) rfl rfl rfl rfl rfl rfl rfl rfl rfl rfl .r (by decide) (Nat.le_of_ble_eq_true rfl) Entry.len (fun _ => rfl) rfl (by have h1 := hok.1; simp only [maxLen, List.length_nil]; omega) (by have h1 := hok.1; simp only [maxLen, List.length_nil]; omega) fun Xo3_7_1 => ?_
    exact RA.to hall (RA.lr (ro3_1010111100 Xo3_4_1 Xo3_7_1) rfl rfl)
  have ro3_1011011000 : RA [] E B all 5 #[true, false, true, true, false, true, true, false, false, false] ⟨12, [(1, .obj b1 ((Log.c l).map .r)), (2, .obj b2 [I 0, I 0, .r (.v (.slice none 0 0))]), (3, .pt 1 b1 0), (6, I l.startTerm), (9, .r (sl 3 Entry.c l.entries))]⟩ K := by
   refine RA.of hall (RA.stepH (L := [1, 4]) Tell.e (by kernel_rfl) (by simp) (RA.each ?_ (RA.each ?_ (RA.each0))))
   ·skip
    refine RO.v rfl rfl (V.loadPrim (d := I l.start) rfl rfl (.inl rfl) rfl rfl rfl) rfl ?_
    exact RA.to hall (RA.lr ro3_1111011000 rfl rfl)
   ·skip
    refine RO.build0 Entry.c rfl rfl rfl rfl rfl rfl rfl fun Xo3_4_1 => ?_
    exact RA.to hall (RA.lr (ro3_1011111000 Xo3_4_1) rfl rfl)
  have ro3_1011110000 : ∀ (Xo3_4_1 : Value), RA [] E B all 5 #[true, false, true, true, true, true, false, false, false, false] ⟨12, [(1, .obj b1 ((Log.c l).map .r)), (2, .obj b2 [I 0, I 0, .r (.v (.slice none 0 0))]), (3, .pt 1 b1 0), (6, I l.startTerm), (7, .w (sl 3 Entry.c ([] : List Entry)) Xo3_4_1), (8, .pt 1 b1 2)]⟩ K := by
   intro Xo3_4_1
   refine RA.of hall (RA.stepH (L := [1, 6]) Tell.e (by kernel_rfl) (by simp) (RA.each ?_ (RA.each ?_ (RA.each0))))
   ·skip
    refine RO.v rfl rfl (V.loadPrim (d := I l.start) rfl rfl (.inl rfl) rfl rfl rfl) rfl ?_
    exact RA.to hall (RA.lr (ro3_1111110000 Xo3_4_1) rfl rfl)
   ·skip
    refine RO.v rfl rfl (V.loadPrim (d := .r (sl 3 Entry.c l.entries)) rfl rfl (.inr ⟨_, rfl⟩) rfl rfl rfl) rfl ?_
    exact RA.to hall (RA.lr (ro3_1011111000 Xo3_4_1) rfl rfl)
  have ro3_1110011000 : RA [] E B all 5 #[true, true, true, false, false, true, true, false, false, false] ⟨12, [(1, .obj b1 ((Log.c l).map .r)), (2, .obj b2 [I 0, I 0, .r (.v (.slice none 0 0))]), (4, I l.start), (5, .pt 1 b1 1), (9, .r (sl 3 Entry.c l.entries))]⟩ K := by
   refine RA.of hall (RA.stepH (L := [3, 4]) Tell.e (by kernel_rfl) (by simp) (RA.each ?_ (RA.each ?_ (RA.each0))))
   ·skip
    refine RO.v rfl rfl (V.loadPrim (d := I l.startTerm) rfl rfl (.inl rfl) rfl rfl rfl) rfl ?_
    exact RA.to hall (RA.lr ro3_1111011000 rfl rfl)
   ·skip
    refine RO.build0 Entry.c rfl rfl rfl rfl rfl rfl rfl fun Xo3_4_1 => ?_
    exact RA.to hall (RA.lr (ro3_1110111000 Xo3_4_1) rfl rfl)
  have ro3_1110110000 : ∀ (Xo3_4_1 : Value), RA [] E B all 5 #[true, true, true, false, true, true, false, false, false, false] ⟨12, [(1, .obj b1 ((Log.c l).map .r)), (2, .obj b2 [I 0, I 0, .r (.v (.slice none 0 0))]), (4, I l.start), (5, .pt 1 b1 1), (7, .w (sl 3 Entry.c ([] : List Entry)) Xo3_4_1), (8, .pt 1 b1 2)]⟩ K := by
   intro Xo3_4_1
   refine RA.of hall (RA.stepH (L := [3, 6]) Tell.e (by kernel_rfl) (by simp) (RA.each ?_ (RA.each ?_ (RA.each0))))
   ·skip
    refine RO.v rfl rfl (V.loadPrim (d := I l.startTerm) rfl rfl (.inl rfl) rfl rfl rfl) rfl ?_
    exact RA.to hall (RA.lr (ro3_1111110000 Xo3_4_1) rfl rfl)
   ·skip
    refine RO.v rfl rfl (V.loadPrim (d := .r (sl 3 Entry.c l.entries)) rfl rfl (.inr ⟨_, rfl⟩) rfl rfl rfl) rfl ?_
    exact RA.to hall (RA.lr (ro3_1110111000 Xo3_4_1) rfl rfl)
  have ro3_1111010000 : RA [] E B all 5 #[true, true, true, true, false, true, false, false, false, false] ⟨12, [(1, .obj b1 ((Log.c l).map .r)), (2, .obj b2 [I 0, I 0, .r (.v (.slice none 0 0))]), (4, I l.start), (6, I l.startTerm), (8, .pt 1 b1 2)]⟩ K := by
   refine RA.of hall (RA.stepH (L := [4, 6]) Tell.e (by kernel_rfl) (by simp) (RA.each ?_ (RA.each ?_ (RA.each0))))
   ·skip
    refine RO.build0 Entry.c rfl rfl rfl rfl rfl rfl rfl fun Xo3_4_1 => ?_
    exact RA.to hall (RA.lr (ro3_1111110000 Xo3_4_1) rfl rfl)
   ·skip
    refine RO.v rfl rfl (V.loadPrim (d := .r (sl 3 Entry.c l.entries)) rfl rfl (.inr ⟨_, rfl⟩) rfl rfl rfl) rfl ?_
    exact RA.to hall (RA.lr ro3_1111011000 rfl rfl)
  have ro3_1010011000 : RA [] E B all 6 #[true, false, true, false, false, true, true, false, false, false] ⟨12, [(1, .obj b1 ((Log.c l).map .r)), (2, .obj b2 [I 0, I 0, .r (.v (.slice none 0 0))]), (3, .pt 1 b1 0), (5, .pt 1 b1 1), (9, .r (sl 3 Entry.c l.entries))]⟩ K := by
   refine RA.of hall (RA.stepH (L := [1, 3, 4]) Tell.e (by kernel_rfl) (by simp) (RA.each ?_ (RA.each ?_ (RA.each ?_ (RA.each0)))))
   ·skip
    refine RO.v rfl rfl (V.loadPrim (d := I l.start) rfl rfl (.inl rfl) rfl rfl rfl) rfl ?_
    exact RA.to hall (RA.lr ro3_1110011000 rfl rfl)
   ·skip
    refine RO.v rfl rfl (V.loadPrim (d := I l.startTerm) rfl rfl (.inl rfl) rfl rfl rfl) rfl ?_
    exact RA.to hall (RA.lr ro3_1011011000 rfl rfl)
   ·skip
    refine RO.build0 Entry.c rfl rfl rfl rfl rfl rfl rfl fun Xo3_4_1 => ?_
    exact RA.to hall (RA.lr (ro3_1010111000 Xo3_4_1) rfl rfl)
  have ro3_1010110000 : ∀ (Xo3_4_1 : Value), RA [] E B all 6 #[true, false, true, false, true, true, false, false, false, false] ⟨12, [(1, .obj b1 ((Log.c l).map .r)), (2, .obj b2 [I 0, I 0, .r (.v (.slice none 0 0))]), (3, .pt 1 b1 0), (5, .pt 1 b1 1), (7, .w (sl 3 Entry.c ([] : List Entry)) Xo3_4_1), (8, .pt 1 b1 2)]⟩ K := by
   intro Xo3_4_1
   refine RA.of hall (RA.stepH (L := [1, 3, 6]) Tell.e (by kernel_rfl) (by simp) (RA.each ?_ (RA.each ?_ (RA.each ?_ (RA.each0)))))
   ·skip
    refine RO.v rfl rfl (V.loadPrim (d := I l.start) rfl rfl (.inl rfl) rfl rfl rfl) rfl ?_
    exact RA.to hall (RA.lr (ro3_1110110000 Xo3_4_1) rfl rfl)
   ·skip
    refine RO.v rfl rfl (V.loadPrim (d := I l.startTerm) rfl rfl (.inl rfl) rfl rfl rfl) rfl ?_
    exact RA.to hall (RA.lr (ro3_1011110000 Xo3_4_1) rfl rfl)
   ·skip
    refine RO.v rfl rfl (V.loadPrim (d := .r (sl 3 Entry.c l.entries)) rfl rfl (.inr ⟨_, rfl⟩) rfl rfl rfl) rfl ?_
    exact RA.to hall (RA.lr (ro3_1010111000 Xo3_4_1) rfl rfl)
  have ro3_1011010000 : RA [] E B all 6 #[true, false, true, true, false, true, false, false, false, false] ⟨12, [(1, .obj b1 ((Log.c l).map .r)), (2, .obj b2 [I 0, I 0, .r (.v (.slice none 0 0))]), (3, .pt 1 b1 0), (6, I l.startTerm), (8, .pt 1 b1 2)]⟩ K := by
   refine RA.of hall (RA.stepH (L := [1, 4, 6]) Tell.e (by kernel_rfl) (by simp) (RA.each ?_ (RA.each ?_ (RA.each ?_ (RA.each0)))))
   ·skip
    refine RO.v rfl rfl (V.loadPrim (d := I l.start) rfl rfl (.inl rfl) rfl rfl rfl) rfl ?_
    exact RA.to hall (RA.lr ro3_1111010000 rfl rfl)
   ·skip
    refine RO.build0 Entry.c rfl rfl rfl rfl rfl rfl rfl fun Xo3_4_1 => ?_
    exact RA.to hall (RA.lr (ro3_1011110000 Xo3_4_1) rfl rfl)
   ·skip
    refine RO.v rfl rfl (V.loadPrim (d := .r (sl 3 Entry.c l.entries)) rfl rfl (.inr ⟨_, rfl⟩) rfl rfl rfl) rfl ?_
    exact RA.to hall (RA.lr ro3_1011011000 rfl rfl)
  have ro3_1110010000 : RA [] E B all 6 #[true, true, true, false, false, true, false, false, false, false] ⟨12, [(1, .obj b1 ((Log.c l).map .r)), (2, .obj b2 [I 0, I 0, .r (.v (.slice none 0 0))]), (4, I l.start), (5, .pt 1 b1 1), (8, .pt 1 b1 2)]⟩ K := by
   refine RA.of hall (RA.stepH (L := [3, 4, 6]) Tell.e (by kernel_rfl) (by simp) (RA.each ?_ (RA.each ?_ (RA.each ?_ (RA.each0)))))
   ·skip
    refine RO.v rfl rfl (V.loadPrim (d := I l.startTerm) rfl rfl (.inl rfl) rfl rfl rfl) rfl ?_
    exact RA.to hall (RA.lr ro3_1111010000 rfl rfl)
   ·skip
    refine RO.build0 Entry.c rfl rfl rfl rfl rfl rfl rfl fun Xo3_4_1 => ?_
    exact RA.to hall (RA.lr (ro3_1110110000 Xo3_4_1) rfl rfl)
   ·skip
    refine RO.v rfl rfl (V.loadPrim (d := .r (sl 3 Entry.c l.entries)) rfl rfl (.inr ⟨_, rfl⟩) rfl rfl rfl) rfl ?_
    exact RA.to hall (RA.lr ro3_1110011000 rfl rfl)
  have ro3_1010010000 : RA [] E B all 7 #[true, false, true, false, false, true, false, false, false, false] ⟨12, [(1, .obj b1 ((Log.c l).map .r)), (2, .obj b2 [I 0, I 0, .r (.v (.slice none 0 0))]), (3, .pt 1 b1 0), (5, .pt 1 b1 1), (8, .pt 1 b1 2)]⟩ K := by
   refine RA.of hall (RA.stepH (L := [1, 3, 4, 6]) Tell.e (by kernel_rfl) (by simp) (RA.each ?_ (RA.each ?_ (RA.each ?_ (RA.each ?_ (RA.each0))))))
   ·skip
    refine RO.v rfl rfl (V.loadPrim (d := I l.start) rfl rfl (.inl rfl) rfl rfl rfl) rfl ?_
    exact RA.to hall (RA.lr ro3_1110010000 rfl rfl)
   ·skip
    refine RO.v rfl rfl (V.loadPrim (d := I l.startTerm) rfl rfl (.inl rfl) rfl rfl rfl) rfl ?_
    exact RA.to hall (RA.lr ro3_1011010000 rfl rfl)
   ·skip
    refine RO.build0 Entry.c rfl rfl rfl rfl rfl rfl rfl fun Xo3_4_1 => ?_
    exact RA.to hall (RA.lr (ro3_1010110000 Xo3_4_1) rfl rfl)
   ·skip
    refine RO.v rfl rfl (V.loadPrim (d := .r (sl 3 Entry.c l.entries)) rfl rfl (.inr ⟨_, rfl⟩) rfl rfl rfl) rfl ?_
    exact RA.to hall (RA.lr ro3_1010011000 rfl rfl)
  have ro3_S : RA [] E B all 10 #[false, false, false, false, false, false, false, false, false, false] ⟨12, [(1, .obj b1 ((Log.c l).map .r)), (2, .obj b2 [I 0, I 0, .r (.v (.slice none 0 0))])]⟩ K := by
   refine RA.of hall ?_
   refine RA.first (i := 0) (ls' := #[true, false, false, false, false, false, false, false, false, false]) Tell.e (by kernel_rfl) rfl rfl rfl (VF.p (V.field rfl rfl rfl rfl (by decide) rfl)) ?_
   refine RA.first (i := 2) (ls' := #[true, false, true, false, false, false, false, false, false, false]) Tell.e (by kernel_rfl) rfl rfl rfl (VF.p (V.field rfl rfl rfl rfl (by decide) rfl)) ?_
   refine RA.first (i := 5) (ls' := #[true, false, true, false, false, true, false, false, false, false]) Tell.e (by kernel_rfl) rfl rfl rfl (VF.p (V.field rfl rfl rfl rfl (by decide) rfl)) ?_
   exact RA.to hall (RA.lr ro3_1010010000 rfl rfl)
  exact RA.start (by kernel_rfl) (by kernel_rfl) (RA.lr ro3_S rfl rfl)
 ·rintro ⟨Xo3_4_1, Xo3_7_1⟩
  refine CW.ret ?_
  exact Post.one (RV.c (f := fun e => (Log.c e).map .w) (e' := (⟨l.start, l.startTerm, (([] : List Entry) ++ l.entries)⟩ : Log)) rfl rfl rfl rfl (DT.v (DT.v (DT.w DT.e))) (by rfl)) (AOs.a rfl AOs.e)
set_option maxHeartbeats 4000000 in
theorem impl_copyNode_fn (n : Node) (hok : okToNode n) : Eng.Fn E.P 85 [.agg ((Node.c n).map .r)] (.one (.agg ((Node.c n).map .w))) [.agg ((Node.c n).map .r)] := by
 refine Eng.Fn.intro (E := E) (rvs := [.cell 2 47]) Try.func85 rfl rfl rfl (by simp [outSlots, moved, rvSlot, sl]) ?_
 intro B g bo
 refine CW.le [(0, .agg ((Node.c n).map .r))] rfl (Le.of rfl) ?_
 refine CW.seq ?_
 refine CW.region ?_
 refine RW.box (ds := ((Node.c n).map .r)) rfl rfl rfl fun b1 => ?_
 refine RW.alloc (ds := [I 0, I 0, I 0, I 0, I 0, .r (.v (.slice none 0 0)), I 0, I 0, .r (.v (.slice none 0 0)), I 0, I 0, I 0, .r (.v (.slice none 0 0)), .r (.v (.slice none 0 0))]) rfl rfl rfl rfl fun b2 => ?_
 refine RW.nil ?_
 refine CW.le [(1, .obj b1 ((Node.c n).map .r)), (2, .obj b2 [I 0, I 0, I 0, I 0, I 0, .r (.v (.slice none 0 0)), I 0, I 0, .r (.v (.slice none 0 0)), I 0, I 0, I 0, .r (.v (.slice none 0 0)), .r (.v (.slice none 0 0))])] rfl (Le.of rfl) ?_
 refine CW.anyJ (fc := [(2, b2, [.int .i64 0, .int .i64 0, .int .i64 0, .int .i64 0, .int .i64 0, .slice none 0 0, .int .i64 0, .int .i64 0, .slice none 0 0, .int .i64 0, .int .i64 0, .int .i64 0, .slice none 0 0, .slice none 0 0])]) 21 (fun (zz : (Nat → Nat → Value) × (Nat → Nat → Value) × (Nat → Nat → Value)) => match zz with | (go3_2_1, go3_5_1, go3_8_1) => [(1, .obj b1 [I n.id, I n.term_, I n.vote, I n.role, I n.lead, .w (sl 1 cI n.conf) (go3_2_1 0 0), I n.log.start, I n.log.startTerm, .w (sl 3 Entry.c n.log.entries) (go3_5_1 0 2), I n.commit, I n.clock, I n.limit, .w (sl 1 cI n.votes) (go3_8_1 0 0), .r (sl 4 Peer.c n.peers)]), (2, .obj b2 [I 0, I 0, I 0, I 0, I 0, .r (.v (.slice none 0 0)), I 0, I 0, .r (.v (.slice none 0 0)), I 0, I 0, I 0, .r (.v (.slice none 0 0)), .r (.v (.slice none 0 0))])]) (fun all hall K hK => ?_) ?_
 ·skip
  have ro3_111111111111111 : ∀ (go3_2_1 : Nat → Nat → Value), ∀ (go3_5_1 : Nat → Nat → Value), ∀ (go3_8_1 : Nat → Nat → Value), RA [(2, b2, [.int .i64 0, .int .i64 0, .int .i64 0, .int .i64 0, .int .i64 0, .slice none 0 0, .int .i64 0, .int .i64 0, .slice none 0 0, .int .i64 0, .int .i64 0, .int .i64 0, .slice none 0 0, .slice none 0 0])] E B all 0 #[true, true, true, true, true, true, true, true, true, true, true, true, true, true, true] ⟨21, [(1, .obj b1 [I n.id, I n.term_, I n.vote, I n.role, I n.lead, .w (sl 1 cI n.conf) (go3_2_1 0 0), I n.log.start, I n.log.startTerm, .w (sl 3 Entry.c n.log.entries) (go3_5_1 0 2), I n.commit, I n.clock, I n.limit, .w (sl 1 cI n.votes) (go3_8_1 0 0), .r (sl 4 Peer.c n.peers)]), (2, .obj b2 [I 0, I 0, I 0, I 0, I 0, .r (.v (.slice none 0 0)), I 0, I 0, .r (.v (.slice none 0 0)), I 0, I 0, I 0, .r (.v (.slice none 0 0)), .r (.v (.slice none 0 0))])]⟩ K := by
   intro go3_2_1 go3_5_1 go3_8_1
   exact RA.of hall (RA.finH (Tell.c rfl rfl Tell.e) (by kernel_rfl) (hK (go3_2_1, go3_5_1, go3_8_1) _ rfl (Le.of rfl)))
  have ro3_111111111111110 : ∀ (go3_2_1 : Nat → Nat → Value), ∀ (go3_5_1 : Nat → Nat → Value), ∀ (go3_8_1 : Nat → Nat → Value), RA [(2, b2, [.int .i64 0, .int .i64 0, .int .i64 0, .int .i64 0, .int .i64 0, .slice none 0 0, .int .i64 0, .int .i64 0, .slice none 0 0, .int .i64 0, .int .i64 0, .int .i64 0, .slice none 0 0, .slice none 0 0])] E B all 1 #[true, true, true, true, true, true, true, true, true, true, true, true, true, true, false] ⟨21, [(1, .obj b1 [I n.id, I n.term_, I n.vote, I n.role, I n.lead, .w (sl 1 cI n.conf) (go3_2_1 0 0), I n.log.start, I n.log.startTerm, .w (sl 3 Entry.c n.log.entries) (go3_5_1 0 2), I n.commit, I n.clock, I n.limit, .r (sl 1 cI n.votes), .r (sl 4 Peer.c n.peers)]), (2, .obj b2 [I 0, I 0, I 0, I 0, I 0, .r (.v (.slice none 0 0)), I 0, I 0, .r (.v (.slice none 0 0)), I 0, I 0, I 0, .r (.v (.slice none 0 0)), .r (.v (.slice none 0 0))]), (11, .w (sl 1 cI n.votes) (go3_8_1 0 0)), (14, .pt 1 b1 12)]⟩ K := by
   intro go3_2_1 go3_5_1 go3_8_1
   refine RA.of hall (RA.stepH (L := [14]) (Tell.c rfl rfl Tell.e) (by kernel_rfl) (by simp) (RA.each ?_ (RA.each0)))
   ·skip
    refine RO.store (d := .al 11 none 1 n.votes.length (go3_8_1 0 0) 0) rfl rfl rfl rfl rfl rfl rfl rfl rfl (Nat.le_of_ble_eq_true rfl) rfl rfl ?_
    refine RA.le [(1, .obj b1 [I n.id, I n.term_, I n.vote, I n.role, I n.lead, .w (sl 1 cI n.conf) (go3_2_1 0 0), I n.log.start, I n.log.startTerm, .w (sl 3 Entry.c n.log.entries) (go3_5_1 0 2), I n.commit, I n.clock, I n.limit, .al 11 none 1 n.votes.length (go3_8_1 0 0) 0, .r (sl 4 Peer.c n.peers)]), (2, .obj b2 [I 0, I 0, I 0, I 0, I 0, .r (.v (.slice none 0 0)), I 0, I 0, .r (.v (.slice none 0 0)), I 0, I 0, I 0, .r (.v (.slice none 0 0)), .r (.v (.slice none 0 0))]), (11, .w (sl 1 cI n.votes) (go3_8_1 0 0))] rfl (Le.of rfl) ?_
    refine RA.pullT (k := 1) (l := 11) (j := 12) 1 11 12 rfl rfl rfl (by decide) rfl rfl rfl ?_
    refine RA.le [(1, .obj b1 [I n.id, I n.term_, I n.vote, I n.role, I n.lead, .w (sl 1 cI n.conf) (go3_2_1 0 0), I n.log.start, I n.log.startTerm, .w (sl 3 Entry.c n.log.entries) (go3_5_1 0 2), I n.commit, I n.clock, I n.limit, .w (sl 1 cI n.votes) (go3_8_1 0 0), .r (sl 4 Peer.c n.peers)]), (2, .obj b2 [I 0, I 0, I 0, I 0, I 0, .r (.v (.slice none 0 0)), I 0, I 0, .r (.v (.slice none 0 0)), I 0, I 0, I 0, .r (.v (.slice none 0 0)), .r (.v (.slice none 0 0))])] rfl (Le.of rfl) ?_
    exact RA.to hall (RA.lr (ro3_111111111111111 go3_2_1 go3_5_1 go3_8_1) rfl rfl)
  have ro3_111111111111000 : ∀ (go3_2_1 : Nat → Nat → Value), ∀ (go3_5_1 : Nat → Nat → Value), ∀ (go3_8_1 : Nat → Nat → Value), RA [(2, b2, [.int .i64 0, .int .i64 0, .int .i64 0, .int .i64 0, .int .i64 0, .slice none 0 0, .int .i64 0, .int .i64 0, .slice none 0 0, .int .i64 0, .int .i64 0, .int .i64 0, .slice none 0 0, .slice none 0 0])] E B all 3 #[true, true, true, true, true, true, true, true, true, true, true, true, false, false, false] ⟨21, [(1, .obj b1 [I n.id, I n.term_, I n.vote, I n.role, I n.lead, .w (sl 1 cI n.conf) (go3_2_1 0 0), I n.log.start, I n.log.startTerm, .r (sl 3 Entry.c n.log.entries), I n.commit, I n.clock, I n.limit, .r (sl 1 cI n.votes), .r (sl 4 Peer.c n.peers)]), (2, .obj b2 [I 0, I 0, I 0, I 0, I 0, .r (.v (.slice none 0 0)), I 0, I 0, .r (.v (.slice none 0 0)), I 0, I 0, I 0, .r (.v (.slice none 0 0)), .r (.v (.slice none 0 0))]), (8, .agg [I n.log.start, I n.log.startTerm, .w (sl 3 Entry.c n.log.entries) (go3_5_1 0 2)]), (11, .w (sl 1 cI n.votes) (go3_8_1 0 0)), (13, .pt 1 b1 6)]⟩ K := by
   intro go3_2_1 go3_5_1 go3_8_1
   refine RA.of hall (RA.stepH (L := [12]) (Tell.c rfl rfl Tell.e) (by kernel_rfl) (by simp) (RA.each ?_ (RA.each0)))
   ·skip
    refine RO.storeAgg (es := [I n.log.start, I n.log.startTerm, .al 8 (some 2) 3 n.log.entries.length (go3_5_1 0 2) 0]) rfl rfl rfl rfl rfl rfl rfl rfl rfl rfl (Nat.le_of_ble_eq_true rfl) rfl ?_
    refine RA.le [(1, .obj b1 [I n.id, I n.term_, I n.vote, I n.role, I n.lead, .w (sl 1 cI n.conf) (go3_2_1 0 0), I n.log.start, I n.log.startTerm, .al 8 (some 2) 3 n.log.entries.length (go3_5_1 0 2) 0, I n.commit, I n.clock, I n.limit, .r (sl 1 cI n.votes), .r (sl 4 Peer.c n.peers)]), (2, .obj b2 [I 0, I 0, I 0, I 0, I 0, .r (.v (.slice none 0 0)), I 0, I 0, .r (.v (.slice none 0 0)), I 0, I 0, I 0, .r (.v (.slice none 0 0)), .r (.v (.slice none 0 0))]), (8, .agg [I n.log.start, I n.log.startTerm, .w (sl 3 Entry.c n.log.entries) (go3_5_1 0 2)]), (11, .w (sl 1 cI n.votes) (go3_8_1 0 0))] rfl (Le.of rfl) ?_
    refine RA.pullA (k := 1) (l := 8) (j := 8) 1 8 8 rfl rfl rfl (by decide) rfl rfl rfl rfl ?_
    refine RA.le [(1, .obj b1 [I n.id, I n.term_, I n.vote, I n.role, I n.lead, .w (sl 1 cI n.conf) (go3_2_1 0 0), I n.log.start, I n.log.startTerm, .w (sl 3 Entry.c n.log.entries) (go3_5_1 0 2), I n.commit, I n.clock, I n.limit, .r (sl 1 cI n.votes), .r (sl 4 Peer.c n.peers)]), (2, .obj b2 [I 0, I 0, I 0, I 0, I 0, .r (.v (.slice none 0 0)), I 0, I 0, .r (.v (.slice none 0 0)), I 0, I 0, I 0, .r (.v (.slice none 0 0)), .r (.v (.slice none 0 0))]), (11, .w (sl 1 cI n.votes) (go3_8_1 0 0))] rfl (Le.of rfl) ?_
    refine RA.first (i := 13) (ls' := #[true, true, true, true, true, true, true, true, true, true, true, true, true, true, false]) (Tell.c rfl rfl Tell.e) (by kernel_rfl) rfl rfl rfl (VF.p (V.field rfl rfl rfl rfl (by decide) rfl)) ?_
    exact RA.to hall (RA.lr (ro3_111111111111110 go3_2_1 go3_5_1 go3_8_1) rfl rfl)
  have ro3_111111111100000 : ∀ (go3_2_1 : Nat → Nat → Value), ∀ (go3_5_1 : Nat → Nat → Value), ∀ (go3_8_1 : Nat → Nat → Value), RA [(2, b2, [.int .i64 0, .int .i64 0, .int .i64 0, .int .i64 0, .int .i64 0, .slice none 0 0, .int .i64 0, .int .i64 0, .slice none 0 0, .int .i64 0, .int .i64 0, .int .i64 0, .slice none 0 0, .slice none 0 0])] E B all 5 #[true, true, true, true, true, true, true, true, true, true, false, false, false, false, false] ⟨21, [(1, .obj b1 ((Node.c n).map .r)), (2, .obj b2 [I 0, I 0, I 0, I 0, I 0, .r (.v (.slice none 0 0)), I 0, I 0, .r (.v (.slice none 0 0)), I 0, I 0, I 0, .r (.v (.slice none 0 0)), .r (.v (.slice none 0 0))]), (5, .w (sl 1 cI n.conf) (go3_2_1 0 0)), (8, .agg [I n.log.start, I n.log.startTerm, .w (sl 3 Entry.c n.log.entries) (go3_5_1 0 2)]), (11, .w (sl 1 cI n.votes) (go3_8_1 0 0)), (12, .pt 1 b1 5)]⟩ K := by
   intro go3_2_1 go3_5_1 go3_8_1
   refine RA.of hall (RA.stepH (L := [10]) (Tell.c rfl rfl Tell.e) (by kernel_rfl) (by simp) (RA.each ?_ (RA.each0)))
   ·skip
    refine RO.store (d := .al 5 none 1 n.conf.length (go3_2_1 0 0) 0) rfl rfl rfl rfl rfl rfl rfl rfl rfl (Nat.le_of_ble_eq_true rfl) rfl rfl ?_
    refine RA.le [(1, .obj b1 [I n.id, I n.term_, I n.vote, I n.role, I n.lead, .al 5 none 1 n.conf.length (go3_2_1 0 0) 0, I n.log.start, I n.log.startTerm, .r (sl 3 Entry.c n.log.entries), I n.commit, I n.clock, I n.limit, .r (sl 1 cI n.votes), .r (sl 4 Peer.c n.peers)]), (2, .obj b2 [I 0, I 0, I 0, I 0, I 0, .r (.v (.slice none 0 0)), I 0, I 0, .r (.v (.slice none 0 0)), I 0, I 0, I 0, .r (.v (.slice none 0 0)), .r (.v (.slice none 0 0))]), (5, .w (sl 1 cI n.conf) (go3_2_1 0 0)), (8, .agg [I n.log.start, I n.log.startTerm, .w (sl 3 Entry.c n.log.entries) (go3_5_1 0 2)]), (11, .w (sl 1 cI n.votes) (go3_8_1 0 0))] rfl (Le.of rfl) ?_
    refine RA.pullT (k := 1) (l := 5) (j := 5) 1 5 5 rfl rfl rfl (by decide) rfl rfl rfl ?_
    refine RA.le [(1, .obj b1 [I n.id, I n.term_, I n.vote, I n.role, I n.lead, .w (sl 1 cI n.conf) (go3_2_1 0 0), I n.log.start, I n.log.startTerm, .r (sl 3 Entry.c n.log.entries), I n.commit, I n.clock, I n.limit, .r (sl 1 cI n.votes), .r (sl 4 Peer.c n.peers)]), (2, .obj b2 [I 0, I 0, I 0, I 0, I 0, .r (.v (.slice none 0 0)), I 0, I 0, .r (.v (.slice none 0 0)), I 0, I 0, I 0, .r (.v (.slice none 0 0)), .r (.v (.slice none 0 0))]), (8, .agg [I n.log.start, I n.log.startTerm, .w (sl 3 Entry.c n.log.entries) (go3_5_1 0 2)]), (11, .w (sl 1 cI n.votes) (go3_8_1 0 0))] rfl (Le.of rfl) ?_
    refine RA.first (i := 11) (ls' := #[true, true, true, true, true, true, true, true, true, true, true, true, false, false, false]) (Tell.c rfl rfl Tell.e) (by kernel_rfl) rfl rfl rfl (VF.p (V.field rfl rfl rfl rfl (by decide) rfl)) ?_
    exact RA.to hall (RA.lr (ro3_111111111111000 go3_2_1 go3_5_1 go3_8_1) rfl rfl)
  have ro3_111111110100000 : ∀ (go3_2_1 : Nat → Nat → Value), ∀ (go3_5_1 : Nat → Nat → Value), RA [(2, b2, [.int .i64 0, .int .i64 0, .int .i64 0, .int .i64 0, .int .i64 0, .slice none 0 0, .int .i64 0, .int .i64 0, .slice none 0 0, .int .i64 0, .int .i64 0, .int .i64 0, .slice none 0 0, .slice none 0 0])] E B all 6 #[true, true, true, true, true, true, true, true, false, true, false, false, false, false, false] ⟨21, [(1, .obj b1 ((Node.c n).map .r)), (2, .obj b2 [I 0, I 0, I 0, I 0, I 0, .r (.v (.slice none 0 0)), I 0, I 0, .r (.v (.slice none 0 0)), I 0, I 0, I 0, .r (.v (.slice none 0 0)), .r (.v (.slice none 0 0))]), (5, .w (sl 1 cI n.conf) (go3_2_1 0 0)), (8, .agg [I n.log.start, I n.log.startTerm, .w (sl 3 Entry.c n.log.entries) (go3_5_1 0 2)]), (10, .r (sl 1 cI n.votes)), (12, .pt 1 b1 5)]⟩ K := by
   intro go3_2_1 go3_5_1
   refine RA.of hall (RA.stepH (L := [8]) (Tell.c rfl rfl Tell.e) (by kernel_rfl) (by simp) (RA.each ?_ (RA.each0)))
   ·skip
    refine RO.call rfl rfl (impl_copyInts_fn n.votes (by first | exact hok.1.1 | exact hok.2.2.1.1)) rfl (.cons (.one (.r .r)) (.nil)) rfl fun go3_8_1 => ?_
    exact RA.to hall (RA.lr (ro3_111111111100000 go3_2_1 go3_5_1 go3_8_1) rfl rfl)
  have ro3_111110110100000 : ∀ (go3_2_1 : Nat → Nat → Value), RA [(2, b2, [.int .i64 0, .int .i64 0, .int .i64 0, .int .i64 0, .int .i64 0, .slice none 0 0, .int .i64 0, .int .i64 0, .slice none 0 0, .int .i64 0, .int .i64 0, .int .i64 0, .slice none 0 0, .slice none 0 0])] E B all 7 #[true, true, true, true, true, false, true, true, false, true, false, false, false, false, false] ⟨21, [(1, .obj b1 ((Node.c n).map .r)), (2, .obj b2 [I 0, I 0, I 0, I 0, I 0, .r (.v (.slice none 0 0)), I 0, I 0, .r (.v (.slice none 0 0)), I 0, I 0, I 0, .r (.v (.slice none 0 0)), .r (.v (.slice none 0 0))]), (5, .w (sl 1 cI n.conf) (go3_2_1 0 0)), (7, .agg ((Log.c n.log).map .r)), (10, .r (sl 1 cI n.votes)), (12, .pt 1 b1 5)]⟩ K := by
   intro go3_2_1
   refine RA.of hall (RA.stepH (L := [5]) (Tell.c rfl rfl Tell.e) (by kernel_rfl) (by simp) (RA.each ?_ (RA.each0)))
   ·skip
    refine RO.call rfl rfl (impl_copyLog_fn n.log (hok.2.1)) rfl (.cons (.agg (.cons (.r .r) (.cons (.r .r) (.cons (.r .r) (.nil))))) (.nil)) rfl fun go3_5_1 => ?_
    exact RA.to hall (RA.lr (ro3_111111110100000 go3_2_1 go3_5_1) rfl rfl)
  have ro3_111111100000000 : ∀ (go3_2_1 : Nat → Nat → Value), ∀ (go3_5_1 : Nat → Nat → Value), RA [(2, b2, [.int .i64 0, .int .i64 0, .int .i64 0, .int .i64 0, .int .i64 0, .slice none 0 0, .int .i64 0, .int .i64 0, .slice none 0 0, .int .i64 0, .int .i64 0, .int .i64 0, .slice none 0 0, .slice none 0 0])] E B all 8 #[true, true, true, true, true, true, true, false, false, false, false, false, false, false, false] ⟨21, [(1, .obj b1 ((Node.c n).map .r)), (2, .obj b2 [I 0, I 0, I 0, I 0, I 0, .r (.v (.slice none 0 0)), I 0, I 0, .r (.v (.slice none 0 0)), I 0, I 0, I 0, .r (.v (.slice none 0 0)), .r (.v (.slice none 0 0))]), (5, .w (sl 1 cI n.conf) (go3_2_1 0 0)), (8, .agg [I n.log.start, I n.log.startTerm, .w (sl 3 Entry.c n.log.entries) (go3_5_1 0 2)]), (9, .pt 1 b1 12)]⟩ K := by
   intro go3_2_1 go3_5_1
   refine RA.of hall (RA.stepH (L := [7]) (Tell.c rfl rfl Tell.e) (by kernel_rfl) (by simp) (RA.each ?_ (RA.each0)))
   ·skip
    refine RO.v rfl rfl (V.loadPrim (d := .r (sl 1 cI n.votes)) rfl rfl (.inr ⟨_, rfl⟩) rfl rfl rfl) rfl ?_
    refine RA.first (i := 9) (ls' := #[true, true, true, true, true, true, true, true, false, true, false, false, false, false, false]) (Tell.c rfl rfl Tell.e) (by kernel_rfl) rfl rfl rfl (VF.p (V.field rfl rfl rfl rfl (by decide) rfl)) ?_
    exact RA.to hall (RA.lr (ro3_111111110100000 go3_2_1 go3_5_1) rfl rfl)
  have ro3_110110110000000 : RA [(2, b2, [.int .i64 0, .int .i64 0, .int .i64 0, .int .i64 0, .int .i64 0, .slice none 0 0, .int .i64 0, .int .i64 0, .slice none 0 0, .int .i64 0, .int .i64 0, .int .i64 0, .slice none 0 0, .slice none 0 0])] E B all 9 #[true, true, false, true, true, false, true, true, false, false, false, false, false, false, false] ⟨21, [(1, .obj b1 ((Node.c n).map .r)), (2, .obj b2 [I 0, I 0, I 0, I 0, I 0, .r (.v (.slice none 0 0)), I 0, I 0, .r (.v (.slice none 0 0)), I 0, I 0, I 0, .r (.v (.slice none 0 0)), .r (.v (.slice none 0 0))]), (4, .r (sl 1 cI n.conf)), (7, .agg ((Log.c n.log).map .r)), (10, .r (sl 1 cI n.votes))]⟩ K := by
   refine RA.of hall (RA.stepH (L := [2]) (Tell.c rfl rfl Tell.e) (by kernel_rfl) (by simp) (RA.each ?_ (RA.each0)))
   ·skip
    refine RO.call rfl rfl (impl_copyInts_fn n.conf (by first | exact hok.1.1 | exact hok.2.2.1.1)) rfl (.cons (.one (.r .r)) (.nil)) rfl fun go3_2_1 => ?_
    refine RA.first (i := 9) (ls' := #[true, true, true, true, true, false, true, true, false, true, false, false, false, false, false]) (Tell.c rfl rfl Tell.e) (by kernel_rfl) rfl rfl rfl (VF.p (V.field rfl rfl rfl rfl (by decide) rfl)) ?_
    exact RA.to hall (RA.lr (ro3_111110110100000 go3_2_1) rfl rfl)
  have ro3_111100110000000 : ∀ (go3_2_1 : Nat → Nat → Value), RA [(2, b2, [.int .i64 0, .int .i64 0, .int .i64 0, .int .i64 0, .int .i64 0, .slice none 0 0, .int .i64 0, .int .i64 0, .slice none 0 0, .int .i64 0, .int .i64 0, .int .i64 0, .slice none 0 0, .slice none 0 0])] E B all 9 #[true, true, true, true, false, false, true, true, false, false, false, false, false, false, false] ⟨21, [(1, .obj b1 ((Node.c n).map .r)), (2, .obj b2 [I 0, I 0, I 0, I 0, I 0, .r (.v (.slice none 0 0)), I 0, I 0, .r (.v (.slice none 0 0)), I 0, I 0, I 0, .r (.v (.slice none 0 0)), .r (.v (.slice none 0 0))]), (5, .w (sl 1 cI n.conf) (go3_2_1 0 0)), (6, .pt 1 b1 6), (10, .r (sl 1 cI n.votes))]⟩ K := by
   intro go3_2_1
   refine RA.of hall (RA.stepH (L := [4]) (Tell.c rfl rfl Tell.e) (by kernel_rfl) (by simp) (RA.each ?_ (RA.each0)))
   ·skip
    refine RO.v rfl rfl (V.loadAgg rfl rfl rfl rfl rfl (Nat.le_of_ble_eq_true rfl)) rfl ?_
    refine RA.first (i := 9) (ls' := #[true, true, true, true, true, false, true, true, false, true, false, false, false, false, false]) (Tell.c rfl rfl Tell.e) (by kernel_rfl) rfl rfl rfl (VF.p (V.field rfl rfl rfl rfl (by decide) rfl)) ?_
    exact RA.to hall (RA.lr (ro3_111110110100000 go3_2_1) rfl rfl)
  have ro3_111110100000000 : ∀ (go3_2_1 : Nat → Nat → Value), RA [(2, b2, [.int .i64 0, .int .i64 0, .int .i64 0, .int .i64 0, .int .i64 0, .slice none 0 0, .int .i64 0, .int .i64 0, .slice none 0 0, .int .i64 0, .int .i64 0, .int .i64 0, .slice none 0 0, .slice none 0 0])] E B all 9 #[true, true, true, true, true, false, true, false, false, false, false, false, false, false, false] ⟨21, [(1, .obj b1 ((Node.c n).map .r)), (2, .obj b2 [I 0, I 0, I 0, I 0, I 0, .r (.v (.slice none 0 0)), I 0, I 0, .r (.v (.slice none 0 0)), I 0, I 0, I 0, .r (.v (.slice none 0 0)), .r (.v (.slice none 0 0))]), (5, .w (sl 1 cI n.conf) (go3_2_1 0 0)), (7, .agg ((Log.c n.log).map .r)), (9, .pt 1 b1 12)]⟩ K := by
   intro go3_2_1
   refine RA.of hall (RA.stepH (L := [5, 7]) (Tell.c rfl rfl Tell.e) (by kernel_rfl) (by simp) (RA.each ?_ (RA.each ?_ (RA.each0))))
   ·skip
    refine RO.call rfl rfl (impl_copyLog_fn n.log (hok.2.1)) rfl (.cons (.agg (.cons (.r .r) (.cons (.r .r) (.cons (.r .r) (.nil))))) (.nil)) rfl fun go3_5_1 => ?_
    exact RA.to hall (RA.lr (ro3_111111100000000 go3_2_1 go3_5_1) rfl rfl)
   ·skip
    refine RO.v rfl rfl (V.loadPrim (d := .r (sl 1 cI n.votes)) rfl rfl (.inr ⟨_, rfl⟩) rfl rfl rfl) rfl ?_
    refine RA.first (i := 9) (ls' := #[true, true, true, true, true, false, true, true, false, true, false, false, false, false, false]) (Tell.c rfl rfl Tell.e) (by kernel_rfl) rfl rfl rfl (VF.p (V.field rfl rfl rfl rfl (by decide) rfl)) ?_
    exact RA.to hall (RA.lr (ro3_111110110100000 go3_2_1) rfl rfl)
  have ro3_100110110000000 : RA [(2, b2, [.int .i64 0, .int .i64 0, .int .i64 0, .int .i64 0, .int .i64 0, .slice none 0 0, .int .i64 0, .int .i64 0, .slice none 0 0, .int .i64 0, .int .i64 0, .int .i64 0, .slice none 0 0, .slice none 0 0])] E B all 10 #[true, false, false, true, true, false, true, true, false, false, false, false, false, false, false] ⟨21, [(1, .obj b1 ((Node.c n).map .r)), (2, .obj b2 [I 0, I 0, I 0, I 0, I 0, .r (.v (.slice none 0 0)), I 0, I 0, .r (.v (.slice none 0 0)), I 0, I 0, I 0, .r (.v (.slice none 0 0)), .r (.v (.slice none 0 0))]), (3, .pt 1 b1 5), (7, .agg ((Log.c n.log).map .r)), (10, .r (sl 1 cI n.votes))]⟩ K := by
   refine RA.of hall (RA.stepH (L := [1]) (Tell.c rfl rfl Tell.e) (by kernel_rfl) (by simp) (RA.each ?_ (RA.each0)))
   ·skip
    refine RO.v rfl rfl (V.loadPrim (d := .r (sl 1 cI n.conf)) rfl rfl (.inr ⟨_, rfl⟩) rfl rfl rfl) rfl ?_
    exact RA.to hall (RA.lr ro3_110110110000000 rfl rfl)
  have ro3_110100110000000 : RA [(2, b2, [.int .i64 0, .int .i64 0, .int .i64 0, .int .i64 0, .int .i64 0, .slice none 0 0, .int .i64 0, .int .i64 0, .slice none 0 0, .int .i64 0, .int .i64 0, .int .i64 0, .slice none 0 0, .slice none 0 0])] E B all 10 #[true, true, false, true, false, false, true, true, false, false, false, false, false, false, false] ⟨21, [(1, .obj b1 ((Node.c n).map .r)), (2, .obj b2 [I 0, I 0, I 0, I 0, I 0, .r (.v (.slice none 0 0)), I 0, I 0, .r (.v (.slice none 0 0)), I 0, I 0, I 0, .r (.v (.slice none 0 0)), .r (.v (.slice none 0 0))]), (4, .r (sl 1 cI n.conf)), (6, .pt 1 b1 6), (10, .r (sl 1 cI n.votes))]⟩ K := by
   refine RA.of hall (RA.stepH (L := [2, 4]) (Tell.c rfl rfl Tell.e) (by kernel_rfl) (by simp) (RA.each ?_ (RA.each ?_ (RA.each0))))
   ·skip
    refine RO.call rfl rfl (impl_copyInts_fn n.conf (by first | exact hok.1.1 | exact hok.2.2.1.1)) rfl (.cons (.one (.r .r)) (.nil)) rfl fun go3_2_1 => ?_
    exact RA.to hall (RA.lr (ro3_111100110000000 go3_2_1) rfl rfl)
   ·skip
    refine RO.v rfl rfl (V.loadAgg rfl rfl rfl rfl rfl (Nat.le_of_ble_eq_true rfl)) rfl ?_
    exact RA.to hall (RA.lr ro3_110110110000000 rfl rfl)
  have ro3_110110100000000 : RA [(2, b2, [.int .i64 0, .int .i64 0, .int .i64 0, .int .i64 0, .int .i64 0, .slice none 0 0, .int .i64 0, .int .i64 0, .slice none 0 0, .int .i64 0, .int .i64 0, .int .i64 0, .slice none 0 0, .slice none 0 0])] E B all 10 #[true, true, false, true, true, false, true, false, false, false, false, false, false, false, false] ⟨21, [(1, .obj b1 ((Node.c n).map .r)), (2, .obj b2 [I 0, I 0, I 0, I 0, I 0, .r (.v (.slice none 0 0)), I 0, I 0, .r (.v (.slice none 0 0)), I 0, I 0, I 0, .r (.v (.slice none 0 0)), .r (.v (.slice none 0 0))]), (4, .r (sl 1 cI n.conf)), (7, .agg ((Log.c n.log).map .r)), (9, .pt 1 b1 12)]⟩ K := by
   refine RA.of hall (RA.stepH (L := [2, 7]) (Tell.c rfl rfl Tell.e) (by kernel_rfl) (by simp) (RA.each ?_ (RA.each ?_ (RA.each0))))
   ·skip
    refine RO.call rfl rfl (impl_copyInts_fn n.conf (by first | exact hok.1.1 | exact hok.2.2.1.1)) rfl (.cons (.one (.r .r)) (.nil)) rfl fun go3_2_1 => ?_
    exact RA.to hall (RA.lr (ro3_111110100000000 go3_2_1) rfl rfl)
   ·skip
    refine RO.v rfl rfl (V.loadPrim (d := .r (sl 1 cI n.votes)) rfl rfl (.inr ⟨_, rfl⟩) rfl rfl rfl) rfl ?_
    exact RA.to hall (RA.lr ro3_110110110000000 rfl rfl)
  have ro3_111100100000000 : ∀ (go3_2_1 : Nat → Nat → Value), RA [(2, b2, [.int .i64 0, .int .i64 0, .int .i64 0, .int .i64 0, .int .i64 0, .slice none 0 0, .int .i64 0, .int .i64 0, .slice none 0 0, .int .i64 0, .int .i64 0, .int .i64 0, .slice none 0 0, .slice none 0 0])] E B all 10 #[true, true, true, true, false, false, true, false, false, false, false, false, false, false, false] ⟨21, [(1, .obj b1 ((Node.c n).map .r)), (2, .obj b2 [I 0, I 0, I 0, I 0, I 0, .r (.v (.slice none 0 0)), I 0, I 0, .r (.v (.slice none 0 0)), I 0, I 0, I 0, .r (.v (.slice none 0 0)), .r (.v (.slice none 0 0))]), (5, .w (sl 1 cI n.conf) (go3_2_1 0 0)), (6, .pt 1 b1 6), (9, .pt 1 b1 12)]⟩ K := by
   intro go3_2_1
   refine RA.of hall (RA.stepH (L := [4, 7]) (Tell.c rfl rfl Tell.e) (by kernel_rfl) (by simp) (RA.each ?_ (RA.each ?_ (RA.each0))))
   ·skip
    refine RO.v rfl rfl (V.loadAgg rfl rfl rfl rfl rfl (Nat.le_of_ble_eq_true rfl)) rfl ?_
    exact RA.to hall (RA.lr (ro3_111110100000000 go3_2_1) rfl rfl)
   ·skip
    refine RO.v rfl rfl (V.loadPrim (d := .r (sl 1 cI n.votes)) rfl rfl (.inr ⟨_, rfl⟩) rfl rfl rfl) rfl ?_
    exact RA.to hall (RA.lr (ro3_111100110000000 go3_2_1) rfl rfl)
  have ro3_100100110000000 : RA [(2, b2, [.int .i64 0, .int .i64 0, .int .i64 0, .int .i64 0, .int .i64 0, .slice none 0 0, .int .i64 0, .int .i64 0, .slice none 0 0, .int .i64 0, .int .i64 0, .int .i64 0, .slice none 0 0, .slice none 0 0])] E B all 11 #[true, false, false, true, false, false, true, true, false, false, false, false, false, false, false] ⟨21, [(1, .obj b1 ((Node.c n).map .r)), (2, .obj b2 [I 0, I 0, I 0, I 0, I 0, .r (.v (.slice none 0 0)), I 0, I 0, .r (.v (.slice none 0 0)), I 0, I 0, I 0, .r (.v (.slice none 0 0)), .r (.v (.slice none 0 0))]), (3, .pt 1 b1 5), (6, .pt 1 b1 6), (10, .r (sl 1 cI n.votes))]⟩ K := by
   refine RA.of hall (RA.stepH (L := [1, 4]) (Tell.c rfl rfl Tell.e) (by kernel_rfl) (by simp) (RA.each ?_ (RA.each ?_ (RA.each0))))
   ·skip
    refine RO.v rfl rfl (V.loadPrim (d := .r (sl 1 cI n.conf)) rfl rfl (.inr ⟨_, rfl⟩) rfl rfl rfl) rfl ?_
    exact RA.to hall (RA.lr ro3_110100110000000 rfl rfl)
   ·skip
    refine RO.v rfl rfl (V.loadAgg rfl rfl rfl rfl rfl (Nat.le_of_ble_eq_true rfl)) rfl ?_
    exact RA.to hall (RA.lr ro3_100110110000000 rfl rfl)
  have ro3_100110100000000 : RA [(2, b2, [.int .i64 0, .int .i64 0, .int .i64 0, .int .i64 0, .int .i64 0, .slice none 0 0, .int .i64 0, .int .i64 0, .slice none 0 0, .int .i64 0, .int .i64 0, .int .i64 0, .slice none 0 0, .slice none 0 0])] E B all 11 #[true, false, false, true, true, false, true, false, false, false, false, false, false, false, false] ⟨21, [(1, .obj b1 ((Node.c n).map .r)), (2, .obj b2 [I 0, I 0, I 0, I 0, I 0, .r (.v (.slice none 0 0)), I 0, I 0, .r (.v (.slice none 0 0)), I 0, I 0, I 0, .r (.v (.slice none 0 0)), .r (.v (.slice none 0 0))]), (3, .pt 1 b1 5), (7, .agg ((Log.c n.log).map .r)), (9, .pt 1 b1 12)]⟩ K := by
   refine RA.of hall (RA.stepH (L := [1, 7]) (Tell.c rfl rfl Tell.e) (by kernel_rfl) (by simp) (RA.each ?_ (RA.each ?_ (RA.each0))))
   ·skip
    refine RO.v rfl rfl (V.loadPrim (d := .r (sl 1 cI n.conf)) rfl rfl (.inr ⟨_, rfl⟩) rfl rfl rfl) rfl ?_
    exact RA.to hall (RA.lr ro3_110110100000000 rfl rfl)
   ·skip
    refine RO.v rfl rfl (V.loadPrim (d := .r (sl 1 cI n.votes)) rfl rfl (.inr ⟨_, rfl⟩) rfl rfl rfl) rfl ?_
    exact RA.to hall (RA.lr ro3_100110110000000 rfl rfl)
  have ro3_110100100000000 : RA [(2, b2, [.int .i64 0, .int .i64 0, .int .i64 0, .int .i64 0, .int .i64 0, .slice none 0 0, .int .i64 0, .int .i64 0, .slice none 0 0, .int .i64 0, .int .i64 0, .int .i64 0, .slice none 0 0, .slice none 0 0])] E B all 11 #[true, true, false, true, false, false, true, false, false, false, false, false, false, false, false] ⟨21, [(1, .obj b1 ((Node.c n).map .r)), (2, .obj b2 [I 0, I 0, I 0, I 0, I 0, .r (.v (.slice none 0 0)), I 0, I 0, .r (.v (.slice none 0 0)), I 0, I 0, I 0, .r (.v (.slice none 0 0)), .r (.v (.slice none 0 0))]), (4, .r (sl 1 cI n.conf)), (6, .pt 1 b1 6), (9, .pt 1 b1 12)]⟩ K := by
   refine RA.of hall (RA.stepH (L := [2, 4, 7]) (Tell.c rfl rfl Tell.e) (by kernel_rfl) (by simp) (RA.each ?_ (RA.each ?_ (RA.each ?_ (RA.each0)))))
   ·skip
    refine RO.call rfl rfl (impl_copyInts_fn n.conf (by first | exact hok.1.1 | exact hok.2.2.1.1)) rfl (.cons (.one (.r .r)) (.nil)) rfl fun go3_2_1 => ?_
    exact RA.to hall (RA.lr (ro3_111100100000000 go3_2_1) rfl rfl)
   ·skip
    refine RO.v rfl rfl (V.loadAgg rfl rfl rfl rfl rfl (Nat.le_of_ble_eq_true rfl)) rfl ?_
    exact RA.to hall (RA.lr ro3_110110100000000 rfl rfl)
   ·skip
    refine RO.v rfl rfl (V.loadPrim (d := .r (sl 1 cI n.votes)) rfl rfl (.inr ⟨_, rfl⟩) rfl rfl rfl) rfl ?_
    exact RA.to hall (RA.lr ro3_110100110000000 rfl rfl)
  have ro3_100100100000000 : RA [(2, b2, [.int .i64 0, .int .i64 0, .int .i64 0, .int .i64 0, .int .i64 0, .slice none 0 0, .int .i64 0, .int .i64 0, .slice none 0 0, .int .i64 0, .int .i64 0, .int .i64 0, .slice none 0 0, .slice none 0 0])] E B all 12 #[true, false, false, true, false, false, true, false, false, false, false, false, false, false, false] ⟨21, [(1, .obj b1 ((Node.c n).map .r)), (2, .obj b2 [I 0, I 0, I 0, I 0, I 0, .r (.v (.slice none 0 0)), I 0, I 0, .r (.v (.slice none 0 0)), I 0, I 0, I 0, .r (.v (.slice none 0 0)), .r (.v (.slice none 0 0))]), (3, .pt 1 b1 5), (6, .pt 1 b1 6), (9, .pt 1 b1 12)]⟩ K := by
   refine RA.of hall (RA.stepH (L := [1, 4, 7]) (Tell.c rfl rfl Tell.e) (by kernel_rfl) (by simp) (RA.each ?_ (RA.each ?_ (RA.each ?_ (RA.each0)))))
   ·skip
    refine RO.v rfl rfl (V.loadPrim (d := .r (sl 1 cI n.conf)) rfl rfl (.inr ⟨_, rfl⟩) rfl rfl rfl) rfl ?_
    exact RA.to hall (RA.lr ro3_110100100000000 rfl rfl)
   ·skip
    refine RO.v rfl rfl (V.loadAgg rfl rfl rfl rfl rfl (Nat.le_of_ble_eq_true rfl)) rfl ?_
    exact RA.to hall (RA.lr ro3_100110100000000 rfl rfl)
   ·skip
    refine RO.v rfl rfl (V.loadPrim (d := .r (sl 1 cI n.votes)) rfl rfl (.inr ⟨_, rfl⟩) rfl rfl rfl) rfl ?_
    exact RA.to hall (RA.lr ro3_100100110000000 rfl rfl)
  have ro3_S : RA [(2, b2, [.int .i64 0, .int .i64 0, .int .i64 0, .int .i64 0, .int .i64 0, .slice none 0 0, .int .i64 0, .int .i64 0, .slice none 0 0, .int .i64 0, .int .i64 0, .int .i64 0, .slice none 0 0, .slice none 0 0])] E B all 15 #[false, false, false, false, false, false, false, false, false, false, false, false, false, false, false] ⟨21, [(1, .obj b1 ((Node.c n).map .r)), (2, .obj b2 [I 0, I 0, I 0, I 0, I 0, .r (.v (.slice none 0 0)), I 0, I 0, .r (.v (.slice none 0 0)), I 0, I 0, I 0, .r (.v (.slice none 0 0)), .r (.v (.slice none 0 0))])]⟩ K := by
   refine RA.of hall ?_
   refine RA.first (i := 0) (ls' := #[true, false, false, false, false, false, false, false, false, false, false, false, false, false, false]) (Tell.c rfl rfl Tell.e) (by kernel_rfl) rfl rfl rfl (VF.p (V.field rfl rfl rfl rfl (by decide) rfl)) ?_
   refine RA.first (i := 3) (ls' := #[true, false, false, true, false, false, false, false, false, false, false, false, false, false, false]) (Tell.c rfl rfl Tell.e) (by kernel_rfl) rfl rfl rfl (VF.p (V.field rfl rfl rfl rfl (by decide) rfl)) ?_
   refine RA.first (i := 6) (ls' := #[true, false, false, true, false, false, true, false, false, false, false, false, false, false, false]) (Tell.c rfl rfl Tell.e) (by kernel_rfl) rfl rfl rfl (VF.p (V.field rfl rfl rfl rfl (by decide) rfl)) ?_
   exact RA.to hall (RA.lr ro3_100100100000000 rfl rfl)
  exact RA.start (by kernel_rfl) (by kernel_rfl) (RA.lr ro3_S rfl rfl)
 ·rintro ⟨go3_2_1, go3_5_1, go3_8_1⟩
  refine CW.seq ?_
  refine CW.region ?_
  refine RW.build0 Peer.c rfl rfl rfl rfl rfl fun X4 => ?_
  refine RW.v rfl (V.field rfl rfl rfl rfl (by decide) rfl) ?_
  refine RW.v rfl (V.loadPrim (d := .r (sl 4 Peer.c n.peers)) rfl rfl (.inr ⟨_, rfl⟩) rfl rfl rfl) ?_
  refine RW.appendSR (c := Peer.c) (l1 := ([] : List Peer)) (l2 := n.peers) rfl rfl rfl rfl rfl rfl rfl rfl .r (by decide) (Nat.le_of_ble_eq_true rfl) Peer.len (fun _ => rfl) rfl (by have h1 := hok.1.1; have h2 := hok.2.1.1; have h3 := hok.2.2.1.1; have h4 := hok.2.2.2.1; simp only [maxLen, List.length_nil]; omega) (by have h1 := hok.1.1; have h2 := hok.2.1.1; have h3 := hok.2.2.1.1; have h4 := hok.2.2.2.1; simp only [maxLen, List.length_nil]; omega) fun X5 => ?_
  refine RW.v rfl (V.field rfl rfl rfl rfl (by decide) rfl) ?_
  refine RW.store (d := .al 18 none 4 ((([] : List Peer) ++ n.peers).length) X5 0) rfl rfl rfl rfl rfl rfl rfl (Nat.le_of_ble_eq_true rfl) rfl rfl ?_
  refine RW.le [(1, .obj b1 [I n.id, I n.term_, I n.vote, I n.role, I n.lead, .w (sl 1 cI n.conf) (go3_2_1 0 0), I n.log.start, I n.log.startTerm, .w (sl 3 Entry.c n.log.entries) (go3_5_1 0 2), I n.commit, I n.clock, I n.limit, .w (sl 1 cI n.votes) (go3_8_1 0 0), .al 18 none 4 ((([] : List Peer) ++ n.peers).length) X5 0]), (2, .obj b2 [I 0, I 0, I 0, I 0, I 0, .r (.v (.slice none 0 0)), I 0, I 0, .r (.v (.slice none 0 0)), I 0, I 0, I 0, .r (.v (.slice none 0 0)), .r (.v (.slice none 0 0))]), (18, .w (sl 4 Peer.c (([] : List Peer) ++ n.peers)) X5)] rfl (Le.of rfl) ?_
  refine RW.pullT (k := 1) (l := 18) (j := 13) 1 18 13 rfl rfl rfl (by decide) rfl rfl rfl ?_
  refine RW.le [(1, .obj b1 [I n.id, I n.term_, I n.vote, I n.role, I n.lead, .w (sl 1 cI n.conf) (go3_2_1 0 0), I n.log.start, I n.log.startTerm, .w (sl 3 Entry.c n.log.entries) (go3_5_1 0 2), I n.commit, I n.clock, I n.limit, .w (sl 1 cI n.votes) (go3_8_1 0 0), .w (sl 4 Peer.c (([] : List Peer) ++ n.peers)) X5]), (2, .obj b2 [I 0, I 0, I 0, I 0, I 0, .r (.v (.slice none 0 0)), I 0, I 0, .r (.v (.slice none 0 0)), I 0, I 0, I 0, .r (.v (.slice none 0 0)), .r (.v (.slice none 0 0))])] rfl (Le.of rfl) ?_
  refine RW.nil ?_
  refine CW.le [(1, .obj b1 [I n.id, I n.term_, I n.vote, I n.role, I n.lead, .w (sl 1 cI n.conf) (go3_2_1 0 0), I n.log.start, I n.log.startTerm, .w (sl 3 Entry.c n.log.entries) (go3_5_1 0 2), I n.commit, I n.clock, I n.limit, .w (sl 1 cI n.votes) (go3_8_1 0 0), .w (sl 4 Peer.c (([] : List Peer) ++ n.peers)) X5]), (2, .obj b2 [I 0, I 0, I 0, I 0, I 0, .r (.v (.slice none 0 0)), I 0, I 0, .r (.v (.slice none 0 0)), I 0, I 0, I 0, .r (.v (.slice none 0 0)), .r (.v (.slice none 0 0))])] rfl (Le.of rfl) ?_
  refine CW.seq ?_
  refine CW.region ?_
  refine RW.v rfl (V.loadAgg rfl rfl rfl rfl rfl (Nat.le_of_ble_eq_true rfl)) ?_
  refine RW.storeAgg (es := [I n.id, I n.term_, I n.vote, I n.role, I n.lead, .al 1 (some 5) 1 n.conf.length (go3_2_1 0 0) 0, I n.log.start, I n.log.startTerm, .al 1 (some 8) 3 n.log.entries.length (go3_5_1 0 2) 0, I n.commit, I n.clock, I n.limit, .al 1 (some 12) 1 n.votes.length (go3_8_1 0 0) 0, .al 1 (some 13) 4 ((([] : List Peer) ++ n.peers).length) X5 0]) rfl rfl rfl rfl rfl rfl rfl rfl (Nat.le_of_ble_eq_true rfl) rfl ?_
  refine RW.le [(1, .obj b1 [I n.id, I n.term_, I n.vote, I n.role, I n.lead, .w (sl 1 cI n.conf) (go3_2_1 0 0), I n.log.start, I n.log.startTerm, .w (sl 3 Entry.c n.log.entries) (go3_5_1 0 2), I n.commit, I n.clock, I n.limit, .w (sl 1 cI n.votes) (go3_8_1 0 0), .w (sl 4 Peer.c (([] : List Peer) ++ n.peers)) X5]), (2, .obj b2 [I n.id, I n.term_, I n.vote, I n.role, I n.lead, .al 1 (some 5) 1 n.conf.length (go3_2_1 0 0) 0, I n.log.start, I n.log.startTerm, .al 1 (some 8) 3 n.log.entries.length (go3_5_1 0 2) 0, I n.commit, I n.clock, I n.limit, .al 1 (some 12) 1 n.votes.length (go3_8_1 0 0) 0, .al 1 (some 13) 4 ((([] : List Peer) ++ n.peers).length) X5 0])] rfl (Le.of rfl) ?_
  refine RW.pullO (k := 2) (l := 1) (j := 5) 2 1 5 rfl rfl rfl (by decide) rfl rfl rfl rfl ?_
  refine RW.le [(1, .obj b1 [I n.id, I n.term_, I n.vote, I n.role, I n.lead, .u, I n.log.start, I n.log.startTerm, .w (sl 3 Entry.c n.log.entries) (go3_5_1 0 2), I n.commit, I n.clock, I n.limit, .w (sl 1 cI n.votes) (go3_8_1 0 0), .w (sl 4 Peer.c (([] : List Peer) ++ n.peers)) X5]), (2, .obj b2 [I n.id, I n.term_, I n.vote, I n.role, I n.lead, .w (sl 1 cI n.conf) (go3_2_1 0 0), I n.log.start, I n.log.startTerm, .al 1 (some 8) 3 n.log.entries.length (go3_5_1 0 2) 0, I n.commit, I n.clock, I n.limit, .al 1 (some 12) 1 n.votes.length (go3_8_1 0 0) 0, .al 1 (some 13) 4 ((([] : List Peer) ++ n.peers).length) X5 0])] rfl (Le.of rfl) ?_
  refine RW.pullO (k := 2) (l := 1) (j := 8) 2 1 8 rfl rfl rfl (by decide) rfl rfl rfl rfl ?_
  refine RW.le [(1, .obj b1 [I n.id, I n.term_, I n.vote, I n.role, I n.lead, .u, I n.log.start, I n.log.startTerm, .u, I n.commit, I n.clock, I n.limit, .w (sl 1 cI n.votes) (go3_8_1 0 0), .w (sl 4 Peer.c (([] : List Peer) ++ n.peers)) X5]), (2, .obj b2 [I n.id, I n.term_, I n.vote, I n.role, I n.lead, .w (sl 1 cI n.conf) (go3_2_1 0 0), I n.log.start, I n.log.startTerm, .w (sl 3 Entry.c n.log.entries) (go3_5_1 0 2), I n.commit, I n.clock, I n.limit, .al 1 (some 12) 1 n.votes.length (go3_8_1 0 0) 0, .al 1 (some 13) 4 ((([] : List Peer) ++ n.peers).length) X5 0])] rfl (Le.of rfl) ?_
  refine RW.pullO (k := 2) (l := 1) (j := 12) 2 1 12 rfl rfl rfl (by decide) rfl rfl rfl rfl ?_
  refine RW.le [(1, .obj b1 [I n.id, I n.term_, I n.vote, I n.role, I n.lead, .u, I n.log.start, I n.log.startTerm, .u, I n.commit, I n.clock, I n.limit, .u, .w (sl 4 Peer.c (([] : List Peer) ++ n.peers)) X5]), (2, .obj b2 [I n.id, I n.term_, I n.vote, I n.role, I n.lead, .w (sl 1 cI n.conf) (go3_2_1 0 0), I n.log.start, I n.log.startTerm, .w (sl 3 Entry.c n.log.entries) (go3_5_1 0 2), I n.commit, I n.clock, I n.limit, .w (sl 1 cI n.votes) (go3_8_1 0 0), .al 1 (some 13) 4 ((([] : List Peer) ++ n.peers).length) X5 0])] rfl (Le.of rfl) ?_
  refine RW.pullO (k := 2) (l := 1) (j := 13) 2 1 13 rfl rfl rfl (by decide) rfl rfl rfl rfl ?_
  refine RW.le [(2, .obj b2 [I n.id, I n.term_, I n.vote, I n.role, I n.lead, .w (sl 1 cI n.conf) (go3_2_1 0 0), I n.log.start, I n.log.startTerm, .w (sl 3 Entry.c n.log.entries) (go3_5_1 0 2), I n.commit, I n.clock, I n.limit, .w (sl 1 cI n.votes) (go3_8_1 0 0), .w (sl 4 Peer.c (([] : List Peer) ++ n.peers)) X5])] rfl (Le.of rfl) ?_
  refine RW.nil ?_
  refine CW.le [(2, .obj b2 [I n.id, I n.term_, I n.vote, I n.role, I n.lead, .w (sl 1 cI n.conf) (go3_2_1 0 0), I n.log.start, I n.log.startTerm, .w (sl 3 Entry.c n.log.entries) (go3_5_1 0 2), I n.commit, I n.clock, I n.limit, .w (sl 1 cI n.votes) (go3_8_1 0 0), .w (sl 4 Peer.c (([] : List Peer) ++ n.peers)) X5])] rfl (Le.of rfl) ?_
  refine CW.ret ?_
  exact Post.one (RV.c (f := fun e => (Node.c e).map .w) (e' := (⟨n.id, n.term_, n.vote, n.role, n.lead, n.conf, n.log, n.commit, n.clock, n.limit, n.votes, (([] : List Peer) ++ n.peers)⟩ : Node)) rfl rfl rfl rfl (DT.v (DT.v (DT.v (DT.v (DT.v (DT.w (DT.v (DT.v (DT.w (DT.v (DT.v (DT.v (DT.w (DT.w DT.e)))))))))))))) (by rfl)) (AOs.a rfl AOs.e)
set_option maxHeartbeats 4000000 in
theorem impl_ConfAt_fn (n : Node) (idx : Int) (hok : okToNode n) : Eng.Fn E.P 45 [.agg ((Node.c n).map .r), .one (.r (.v (.int .i64 idx)))] (.one (.one (.w (sl 1 cI ((lastC n idx).2))))) [.agg ((Node.c n).map .r), .one (.r (.v (.int .i64 idx)))] := by
 refine Eng.Fn.intro (E := E) (rvs := [.tmp 4]) Try.func45 rfl rfl rfl (by simp [outSlots, moved, rvSlot, sl]) ?_
 intro B g bo
 refine CW.le [(0, .agg ((Node.c n).map .r)), (1, I idx)] rfl (Le.of rfl) ?_
 refine CW.seq ?_
 refine CW.region ?_
 refine RW.box (ds := ((Node.c n).map .r)) rfl rfl rfl fun b1 => ?_
 refine RW.v rfl (V.as (d := .r (.v (.slice none 0 0))) rfl rfl) ?_
 refine RW.nil ?_
 refine CW.le [(1, I idx), (2, .obj b1 ((Node.c n).map .r))] rfl (Le.of rfl) ?_
 refine CW.seq ?_
 refine CW.region ?_
 refine RW.v rfl (V.loadAgg rfl rfl rfl rfl rfl (Nat.le_of_ble_eq_true rfl)) ?_
 refine RW.v rfl (V.mv (d := I idx) rfl rfl) ?_
 refine RW.call rfl (impl_lastConf_fn n idx hok) rfl (.cons (.agg (.cons (.r .r) (.cons (.r .r) (.cons (.r .r) (.cons (.r .r) (.cons (.r .r) (.cons (.r .r) (.cons (.r .r) (.cons (.r .r) (.cons (.r .r) (.cons (.r .r) (.cons (.r .r) (.cons (.r .r) (.cons (.r .r) (.cons (.r .r) (.nil)))))))))))))))) (.cons (.one (.r .r)) (.nil))) fun g2 => ?_
 refine RW.moveMove rfl rfl rfl (by decide) (Nat.le_of_ble_eq_true rfl) (Nat.le_of_ble_eq_true rfl) ?_
 refine RW.extract (d := I ((lastC n idx).1)) rfl rfl rfl (by decide) (Nat.le_of_ble_eq_true rfl) rfl rfl ?_
 refine RW.extract (d := .w (sl 1 cI ((lastC n idx).2)) (g2 1 0)) rfl rfl rfl (by decide) (Nat.le_of_ble_eq_true rfl) rfl rfl ?_
 refine RW.v rfl (V.as (d := I ((lastC n idx).1)) rfl rfl) ?_
 refine RW.assignMove rfl rfl rfl (by decide) (Nat.le_of_ble_eq_true rfl) (Nat.le_of_ble_eq_true rfl) ?_
 refine RW.nil ?_
 refine CW.le [(6, .w (sl 1 cI ((lastC n idx).2)) (g2 1 0))] rfl (Le.of rfl) ?_
 refine CW.seq ?_
 refine CW.region ?_
 refine RW.v rfl (V.mv (d := .al 6 none 1 (((lastC n idx).2).length) (g2 1 0) 0) rfl rfl) ?_
 refine RW.v rfl (V.as (d := .al 6 none 1 (((lastC n idx).2).length) (g2 1 0) 0) rfl rfl) ?_
 refine RW.pullS 4 6 (by decide) rfl rfl ?_
 refine RW.nil ?_
 refine CW.le [(4, .w (sl 1 cI ((lastC n idx).2)) (g2 1 0))] rfl (Le.of rfl) ?_
 refine CW.ret ?_
 exact Post.one (RV.w rfl (by rfl)) (AOs.a rfl (AOs.r AOs.e))
set_option maxHeartbeats 4000000 in
theorem impl_Settle_fn (n : Node) (i : Int) (hok : okToNode n) : Eng.Fn E.P 32 [.agg ((Node.c n).map .r), .one (.r (.v (.int .i64 i)))] (.tup [.agg ((Node.c ((settle n i).1)).map .w), .one (.w (.v (.bool ((settle n i).2))))]) [.agg ((Node.c n).map .r), .one (.r (.v (.int .i64 i)))] := by
 refine Eng.Fn.intro (E := E) (rvs := [.cell 4 47, .tmp 5]) Try.func32 rfl rfl rfl (by simp [outSlots, moved, rvSlot, sl]) ?_
 intro B g bo
 refine CW.le [(0, .agg ((Node.c n).map .r)), (1, I i)] rfl (Le.of rfl) ?_
 refine CW.seq ?_
 refine CW.region ?_
 refine RW.box (ds := ((Node.c n).map .r)) rfl rfl rfl fun b1 => ?_
 refine RW.alloc (ds := [I 0, I 0, I 0, I 0, I 0, .r (.v (.slice none 0 0)), I 0, I 0, .r (.v (.slice none 0 0)), I 0, I 0, I 0, .r (.v (.slice none 0 0)), .r (.v (.slice none 0 0))]) rfl rfl rfl rfl fun b2 => ?_
 refine RW.v rfl (V.as (d := Bo false) rfl rfl) ?_
 refine RW.nil ?_
 refine CW.le [(1, I i), (2, .obj b1 ((Node.c n).map .r)), (4, .obj b2 [I 0, I 0, I 0, I 0, I 0, .r (.v (.slice none 0 0)), I 0, I 0, .r (.v (.slice none 0 0)), I 0, I 0, I 0, .r (.v (.slice none 0 0)), .r (.v (.slice none 0 0))])] rfl (Le.of rfl) ?_
 refine CW.seq ?_
 refine CW.seqJ 37 (fun (v3 : Bool) => [(1, I i), (2, .obj b1 ((Node.c n).map .r)), (4, .obj b2 [I 0, I 0, I 0, I 0, I 0, .r (.v (.slice none 0 0)), I 0, I 0, .r (.v (.slice none 0 0)), I 0, I 0, I 0, .r (.v (.slice none 0 0)), .r (.v (.slice none 0 0))]), (19, Bo v3)]) (fun v3 => v3 = ((!(nodeOk n)) || (!(inR i n.log.start n.commit)))) ?_ ?_
 ·refine CW.region ?_
  refine RW.v rfl (V.loadAgg rfl rfl rfl rfl rfl (Nat.le_of_ble_eq_true rfl)) ?_
  refine RW.call rfl (impl_NodeOk_fn n hok) rfl (.cons (.agg (.cons (.r .r) (.cons (.r .r) (.cons (.r .r) (.cons (.r .r) (.cons (.r .r) (.cons (.r .r) (.cons (.r .r) (.cons (.r .r) (.cons (.r .r) (.cons (.r .r) (.cons (.r .r) (.cons (.r .r) (.cons (.r .r) (.cons (.r .r) (.nil)))))))))))))))) (.nil)) fun g4 => ?_
  refine RW.v rfl (V.not rfl rfl) ?_
  refine RW.v rfl (V.mv (d := Bo (!(nodeOk n))) rfl rfl) ?_
  refine RW.gv rfl rfl rfl rfl (fun h5 => V.mv (d := I i) rfl rfl) (fun h5 => ?_) (fun h5 => ?_)
  ·skip
   refine RW.gt rfl rfl rfl rfl (V.field rfl rfl rfl rfl (by decide) rfl) ?_
   refine RW.gt rfl rfl rfl rfl (V.field rfl rfl rfl rfl (by decide) rfl) ?_
   refine RW.gt rfl rfl rfl rfl (V.loadPrim (d := I n.log.start) rfl rfl (.inl rfl) rfl rfl rfl) ?_
   refine RW.gt rfl rfl rfl rfl (V.field rfl rfl rfl rfl (by decide) rfl) ?_
   refine RW.gt rfl rfl rfl rfl (V.loadPrim (d := I n.commit) rfl rfl (.inl rfl) rfl rfl rfl) ?_
   refine RW.gcall rfl rfl rfl rfl (impl_within_fn i n.log.start n.commit) rfl (.cons (.one (.r .r)) (.cons (.one (.r .r)) (.cons (.one (.r .r)) (.nil)))) fun g6 => ?_
   refine RW.gt rfl rfl rfl rfl (V.not rfl rfl) ?_
   refine RW.v rfl (V.pickF (d := Bo (!(inR i n.log.start n.commit))) rfl rfl rfl) ?_
   refine RW.nil ?_
   exact ⟨_, by first | rfl | (simp_all; done) | (simp_all; omega) | grind, rfl, Le.c rfl <| Le.c rfl <| Le.c rfl <| Le.c rfl <| Le.e⟩
  ·skip
   refine RW.guardF rfl rfl rfl rfl ?_
   refine RW.guardF rfl rfl rfl rfl ?_
   refine RW.guardF rfl rfl rfl rfl ?_
   refine RW.guardF rfl rfl rfl rfl ?_
   refine RW.guardF rfl rfl rfl rfl ?_
   refine RW.guardF rfl rfl rfl rfl ?_
   refine RW.guardF rfl rfl rfl rfl ?_
   refine RW.v rfl (V.pickT (d := Bo true) rfl rfl rfl) ?_
   refine RW.nil ?_
   exact ⟨_, by first | rfl | (simp_all; done) | (simp_all; omega) | grind, rfl, Le.c rfl <| Le.c rfl <| Le.c rfl <| Le.c rfl <| Le.e⟩
 ·intro v3 hv7
  refine CW.cond rfl (fun h8 => ?_) (fun h8 => ?_)
  ·skip
   have hno : settle n i = (Node.z, false) := settle_no (by rw [← hv7]; exact h8)
   refine CW.seq ?_
   refine CW.region ?_
   refine RW.v rfl (V.build (ds := [I 0, I 0, I 0, I 0, I 0, .r (.v (.slice none 0 0)), I 0, I 0, .r (.v (.slice none 0 0)), I 0, I 0, I 0, .r (.v (.slice none 0 0)), .r (.v (.slice none 0 0))]) rfl rfl rfl rfl (.nil)) ?_
   refine RW.storeAgg (es := [I 0, I 0, I 0, I 0, I 0, .r (.v (.slice none 0 0)), I 0, I 0, .r (.v (.slice none 0 0)), I 0, I 0, I 0, .r (.v (.slice none 0 0)), .r (.v (.slice none 0 0))]) rfl rfl rfl rfl rfl rfl rfl rfl (Nat.le_of_ble_eq_true rfl) rfl ?_
   refine RW.v rfl (V.as (d := Bo false) rfl rfl) ?_
   refine RW.nil ?_
   refine CW.le [(4, .obj b2 [I 0, I 0, I 0, I 0, I 0, .r (.v (.slice none 0 0)), I 0, I 0, .r (.v (.slice none 0 0)), I 0, I 0, I 0, .r (.v (.slice none 0 0)), .r (.v (.slice none 0 0))]), (5, Bo false)] rfl (Le.of rfl) ?_
   refine CW.ret ?_
   exact Post.tup (by decide) (RVs.c (RV.c (f := fun e => (Node.c e).map .w) (e' := (⟨0, 0, 0, 0, 0, [], (⟨0, 0, []⟩ : Log), 0, 0, 0, [], []⟩ : Node)) rfl rfl rfl rfl (DT.v (DT.v (DT.v (DT.v (DT.v (DT.n (DT.v (DT.v (DT.n (DT.v (DT.v (DT.v (DT.n (DT.n DT.e)))))))))))))) (by rw [hno]; rfl)) (RVs.c (RV.b rfl (by rw [hno])) RVs.e)) (AOs.a rfl (AOs.r AOs.e))
  ·skip
   have hn : nodeOk n = true := by rw [hv7] at h8; simp at h8; exact h8.1
   have hin : inR i n.log.start n.commit = true := by rw [hv7] at h8; simp at h8; exact h8.2
   obtain ⟨hl, hs, hi, hi2⟩ := settle_in hn hin
   refine CW.skip ?_
   refine CW.le [(1, I i), (2, .obj b1 ((Node.c n).map .r)), (4, .obj b2 [I 0, I 0, I 0, I 0, I 0, .r (.v (.slice none 0 0)), I 0, I 0, .r (.v (.slice none 0 0)), I 0, I 0, I 0, .r (.v (.slice none 0 0)), .r (.v (.slice none 0 0))])] rfl (Le.of rfl) ?_
   refine CW.seq ?_
   refine CW.region ?_
   refine RW.v rfl (V.loadAgg rfl rfl rfl rfl rfl (Nat.le_of_ble_eq_true rfl)) ?_
   refine RW.call rfl (impl_copyNode_fn n hok) rfl (.cons (.agg (.cons (.r .r) (.cons (.r .r) (.cons (.r .r) (.cons (.r .r) (.cons (.r .r) (.cons (.r .r) (.cons (.r .r) (.cons (.r .r) (.cons (.r .r) (.cons (.r .r) (.cons (.r .r) (.cons (.r .r) (.cons (.r .r) (.cons (.r .r) (.nil)))))))))))))))) (.nil)) fun g9 => ?_
   refine RW.alloc (ds := [I 0, I 0, I 0, I 0, I 0, .r (.v (.slice none 0 0)), I 0, I 0, .r (.v (.slice none 0 0)), I 0, I 0, I 0, .r (.v (.slice none 0 0)), .r (.v (.slice none 0 0))]) rfl rfl rfl rfl fun b10 => ?_
   refine RW.storeAgg (es := [I n.id, I n.term_, I n.vote, I n.role, I n.lead, .al 22 (some 5) 1 n.conf.length (g9 0 5) 0, I n.log.start, I n.log.startTerm, .al 22 (some 8) 3 n.log.entries.length (g9 0 8) 0, I n.commit, I n.clock, I n.limit, .al 22 (some 12) 1 n.votes.length (g9 0 12) 0, .al 22 (some 13) 4 n.peers.length (g9 0 13) 0]) rfl rfl rfl rfl rfl rfl rfl rfl (Nat.le_of_ble_eq_true rfl) rfl ?_
   refine RW.le [(1, I i), (2, .obj b1 ((Node.c n).map .r)), (4, .obj b2 [I 0, I 0, I 0, I 0, I 0, .r (.v (.slice none 0 0)), I 0, I 0, .r (.v (.slice none 0 0)), I 0, I 0, I 0, .r (.v (.slice none 0 0)), .r (.v (.slice none 0 0))]), (6, .obj b10 [I n.id, I n.term_, I n.vote, I n.role, I n.lead, .al 22 (some 5) 1 n.conf.length (g9 0 5) 0, I n.log.start, I n.log.startTerm, .al 22 (some 8) 3 n.log.entries.length (g9 0 8) 0, I n.commit, I n.clock, I n.limit, .al 22 (some 12) 1 n.votes.length (g9 0 12) 0, .al 22 (some 13) 4 n.peers.length (g9 0 13) 0]), (22, .agg [I n.id, I n.term_, I n.vote, I n.role, I n.lead, .w (sl 1 cI n.conf) (g9 0 5), I n.log.start, I n.log.startTerm, .w (sl 3 Entry.c n.log.entries) (g9 0 8), I n.commit, I n.clock, I n.limit, .w (sl 1 cI n.votes) (g9 0 12), .w (sl 4 Peer.c n.peers) (g9 0 13)])] rfl (Le.of rfl) ?_
   refine RW.pullA (k := 6) (l := 22) (j := 5) 6 22 5 rfl rfl rfl (by decide) rfl rfl rfl rfl ?_
   refine RW.le [(1, I i), (2, .obj b1 ((Node.c n).map .r)), (4, .obj b2 [I 0, I 0, I 0, I 0, I 0, .r (.v (.slice none 0 0)), I 0, I 0, .r (.v (.slice none 0 0)), I 0, I 0, I 0, .r (.v (.slice none 0 0)), .r (.v (.slice none 0 0))]), (6, .obj b10 [I n.id, I n.term_, I n.vote, I n.role, I n.lead, .w (sl 1 cI n.conf) (g9 0 5), I n.log.start, I n.log.startTerm, .al 22 (some 8) 3 n.log.entries.length (g9 0 8) 0, I n.commit, I n.clock, I n.limit, .al 22 (some 12) 1 n.votes.length (g9 0 12) 0, .al 22 (some 13) 4 n.peers.length (g9 0 13) 0]), (22, .agg [I n.id, I n.term_, I n.vote, I n.role, I n.lead, .u, I n.log.start, I n.log.startTerm, .w (sl 3 Entry.c n.log.entries) (g9 0 8), I n.commit, I n.clock, I n.limit, .w (sl 1 cI n.votes) (g9 0 12), .w (sl 4 Peer.c n.peers) (g9 0 13)])] rfl (Le.of rfl) ?_
   refine RW.pullA (k := 6) (l := 22) (j := 8) 6 22 8 rfl rfl rfl (by decide) rfl rfl rfl rfl ?_
   refine RW.le [(1, I i), (2, .obj b1 ((Node.c n).map .r)), (4, .obj b2 [I 0, I 0, I 0, I 0, I 0, .r (.v (.slice none 0 0)), I 0, I 0, .r (.v (.slice none 0 0)), I 0, I 0, I 0, .r (.v (.slice none 0 0)), .r (.v (.slice none 0 0))]), (6, .obj b10 [I n.id, I n.term_, I n.vote, I n.role, I n.lead, .w (sl 1 cI n.conf) (g9 0 5), I n.log.start, I n.log.startTerm, .w (sl 3 Entry.c n.log.entries) (g9 0 8), I n.commit, I n.clock, I n.limit, .al 22 (some 12) 1 n.votes.length (g9 0 12) 0, .al 22 (some 13) 4 n.peers.length (g9 0 13) 0]), (22, .agg [I n.id, I n.term_, I n.vote, I n.role, I n.lead, .u, I n.log.start, I n.log.startTerm, .u, I n.commit, I n.clock, I n.limit, .w (sl 1 cI n.votes) (g9 0 12), .w (sl 4 Peer.c n.peers) (g9 0 13)])] rfl (Le.of rfl) ?_
   refine RW.pullA (k := 6) (l := 22) (j := 12) 6 22 12 rfl rfl rfl (by decide) rfl rfl rfl rfl ?_
   refine RW.le [(1, I i), (2, .obj b1 ((Node.c n).map .r)), (4, .obj b2 [I 0, I 0, I 0, I 0, I 0, .r (.v (.slice none 0 0)), I 0, I 0, .r (.v (.slice none 0 0)), I 0, I 0, I 0, .r (.v (.slice none 0 0)), .r (.v (.slice none 0 0))]), (6, .obj b10 [I n.id, I n.term_, I n.vote, I n.role, I n.lead, .w (sl 1 cI n.conf) (g9 0 5), I n.log.start, I n.log.startTerm, .w (sl 3 Entry.c n.log.entries) (g9 0 8), I n.commit, I n.clock, I n.limit, .w (sl 1 cI n.votes) (g9 0 12), .al 22 (some 13) 4 n.peers.length (g9 0 13) 0]), (22, .agg [I n.id, I n.term_, I n.vote, I n.role, I n.lead, .u, I n.log.start, I n.log.startTerm, .u, I n.commit, I n.clock, I n.limit, .u, .w (sl 4 Peer.c n.peers) (g9 0 13)])] rfl (Le.of rfl) ?_
   refine RW.pullA (k := 6) (l := 22) (j := 13) 6 22 13 rfl rfl rfl (by decide) rfl rfl rfl rfl ?_
   refine RW.le [(1, I i), (2, .obj b1 ((Node.c n).map .r)), (4, .obj b2 [I 0, I 0, I 0, I 0, I 0, .r (.v (.slice none 0 0)), I 0, I 0, .r (.v (.slice none 0 0)), I 0, I 0, I 0, .r (.v (.slice none 0 0)), .r (.v (.slice none 0 0))]), (6, .obj b10 [I n.id, I n.term_, I n.vote, I n.role, I n.lead, .w (sl 1 cI n.conf) (g9 0 5), I n.log.start, I n.log.startTerm, .w (sl 3 Entry.c n.log.entries) (g9 0 8), I n.commit, I n.clock, I n.limit, .w (sl 1 cI n.votes) (g9 0 12), .w (sl 4 Peer.c n.peers) (g9 0 13)])] rfl (Le.of rfl) ?_
   refine RW.nil ?_
   refine CW.le [(1, I i), (2, .obj b1 ((Node.c n).map .r)), (4, .obj b2 [I 0, I 0, I 0, I 0, I 0, .r (.v (.slice none 0 0)), I 0, I 0, .r (.v (.slice none 0 0)), I 0, I 0, I 0, .r (.v (.slice none 0 0)), .r (.v (.slice none 0 0))]), (6, .obj b10 [I n.id, I n.term_, I n.vote, I n.role, I n.lead, .w (sl 1 cI n.conf) (g9 0 5), I n.log.start, I n.log.startTerm, .w (sl 3 Entry.c n.log.entries) (g9 0 8), I n.commit, I n.clock, I n.limit, .w (sl 1 cI n.votes) (g9 0 12), .w (sl 4 Peer.c n.peers) (g9 0 13)])] rfl (Le.of rfl) ?_
   refine CW.anyJ (fc := [(4, b2, [.int .i64 0, .int .i64 0, .int .i64 0, .int .i64 0, .int .i64 0, .slice none 0 0, .int .i64 0, .int .i64 0, .slice none 0 0, .int .i64 0, .int .i64 0, .int .i64 0, .slice none 0 0, .slice none 0 0])]) 37 (fun (zz : (Nat → Nat → Value) × (Nat → Nat → Value)) => match zz with | (go11_6_1, go11_7_1) => [(1, I i), (2, .obj b1 ((Node.c n).map .r)), (4, .obj b2 [I 0, I 0, I 0, I 0, I 0, .r (.v (.slice none 0 0)), I 0, I 0, .r (.v (.slice none 0 0)), I 0, I 0, I 0, .r (.v (.slice none 0 0)), .r (.v (.slice none 0 0))]), (6, .obj b10 [I n.id, I n.term_, I n.vote, I n.role, I n.lead, .w (sl 1 cI n.conf) (g9 0 5), I ((logBehind n.log i (logTerm n.log i)).start), I ((logBehind n.log i (logTerm n.log i)).startTerm), .w (sl 3 Entry.c ((logBehind n.log i (logTerm n.log i)).entries)) (go11_7_1 0 2), I n.commit, I n.clock, I n.limit, .w (sl 1 cI n.votes) (g9 0 12), .w (sl 4 Peer.c n.peers) (g9 0 13)])]) (fun all hall K hK => ?_) ?_
   ·skip
    have ro11_1111111111 : ∀ (go11_6_1 : Nat → Nat → Value), ∀ (go11_7_1 : Nat → Nat → Value), RA [(4, b2, [.int .i64 0, .int .i64 0, .int .i64 0, .int .i64 0, .int .i64 0, .slice none 0 0, .int .i64 0, .int .i64 0, .slice none 0 0, .int .i64 0, .int .i64 0, .int .i64 0, .slice none 0 0, .slice none 0 0])] E B all 0 #[true, true, true, true, true, true, true, true, true, true] ⟨37, [(1, I i), (2, .obj b1 ((Node.c n).map .r)), (4, .obj b2 [I 0, I 0, I 0, I 0, I 0, .r (.v (.slice none 0 0)), I 0, I 0, .r (.v (.slice none 0 0)), I 0, I 0, I 0, .r (.v (.slice none 0 0)), .r (.v (.slice none 0 0))]), (6, .obj b10 [I n.id, I n.term_, I n.vote, I n.role, I n.lead, .w (sl 1 cI n.conf) (g9 0 5), I ((logBehind n.log i (logTerm n.log i)).start), I ((logBehind n.log i (logTerm n.log i)).startTerm), .w (sl 3 Entry.c ((logBehind n.log i (logTerm n.log i)).entries)) (go11_7_1 0 2), I n.commit, I n.clock, I n.limit, .w (sl 1 cI n.votes) (g9 0 12), .w (sl 4 Peer.c n.peers) (g9 0 13)])]⟩ K := by
     intro go11_6_1 go11_7_1
     exact RA.of hall (RA.finH (Tell.c rfl rfl Tell.e) (by kernel_rfl) (hK (go11_6_1, go11_7_1) _ rfl (Le.of rfl)))
    have ro11_1111111110 : ∀ (go11_6_1 : Nat → Nat → Value), ∀ (go11_7_1 : Nat → Nat → Value), RA [(4, b2, [.int .i64 0, .int .i64 0, .int .i64 0, .int .i64 0, .int .i64 0, .slice none 0 0, .int .i64 0, .int .i64 0, .slice none 0 0, .int .i64 0, .int .i64 0, .int .i64 0, .slice none 0 0, .slice none 0 0])] E B all 1 #[true, true, true, true, true, true, true, true, true, false] ⟨37, [(1, I i), (2, .obj b1 ((Node.c n).map .r)), (4, .obj b2 [I 0, I 0, I 0, I 0, I 0, .r (.v (.slice none 0 0)), I 0, I 0, .r (.v (.slice none 0 0)), I 0, I 0, I 0, .r (.v (.slice none 0 0)), .r (.v (.slice none 0 0))]), (6, .obj b10 [I n.id, I n.term_, I n.vote, I n.role, I n.lead, .w (sl 1 cI n.conf) (g9 0 5), I n.log.start, I n.log.startTerm, .w (sl 3 Entry.c n.log.entries) (g9 0 8), I n.commit, I n.clock, I n.limit, .w (sl 1 cI n.votes) (g9 0 12), .w (sl 4 Peer.c n.peers) (g9 0 13)]), (30, .agg [I ((logBehind n.log i (logTerm n.log i)).start), I ((logBehind n.log i (logTerm n.log i)).startTerm), .w (sl 3 Entry.c ((logBehind n.log i (logTerm n.log i)).entries)) (go11_7_1 0 2)]), (31, .pt 6 b10 6)]⟩ K := by
     intro go11_6_1 go11_7_1
     refine RA.of hall (RA.stepH (L := [9]) (Tell.c rfl rfl Tell.e) (by kernel_rfl) (by simp) (RA.each ?_ (RA.each0)))
     ·skip
      refine RO.storeAgg (es := [I ((logBehind n.log i (logTerm n.log i)).start), I ((logBehind n.log i (logTerm n.log i)).startTerm), .al 30 (some 2) 3 (((logBehind n.log i (logTerm n.log i)).entries).length) (go11_7_1 0 2) 0]) rfl rfl rfl rfl rfl rfl rfl rfl rfl rfl (Nat.le_of_ble_eq_true rfl) rfl ?_
      refine RA.le [(1, I i), (2, .obj b1 ((Node.c n).map .r)), (4, .obj b2 [I 0, I 0, I 0, I 0, I 0, .r (.v (.slice none 0 0)), I 0, I 0, .r (.v (.slice none 0 0)), I 0, I 0, I 0, .r (.v (.slice none 0 0)), .r (.v (.slice none 0 0))]), (6, .obj b10 [I n.id, I n.term_, I n.vote, I n.role, I n.lead, .w (sl 1 cI n.conf) (g9 0 5), I ((logBehind n.log i (logTerm n.log i)).start), I ((logBehind n.log i (logTerm n.log i)).startTerm), .al 30 (some 2) 3 (((logBehind n.log i (logTerm n.log i)).entries).length) (go11_7_1 0 2) 0, I n.commit, I n.clock, I n.limit, .w (sl 1 cI n.votes) (g9 0 12), .w (sl 4 Peer.c n.peers) (g9 0 13)]), (30, .agg [I ((logBehind n.log i (logTerm n.log i)).start), I ((logBehind n.log i (logTerm n.log i)).startTerm), .w (sl 3 Entry.c ((logBehind n.log i (logTerm n.log i)).entries)) (go11_7_1 0 2)])] rfl (Le.of rfl) ?_
      refine RA.pullA (k := 6) (l := 30) (j := 8) 6 30 8 rfl rfl rfl (by decide) rfl rfl rfl rfl ?_
      refine RA.le [(1, I i), (2, .obj b1 ((Node.c n).map .r)), (4, .obj b2 [I 0, I 0, I 0, I 0, I 0, .r (.v (.slice none 0 0)), I 0, I 0, .r (.v (.slice none 0 0)), I 0, I 0, I 0, .r (.v (.slice none 0 0)), .r (.v (.slice none 0 0))]), (6, .obj b10 [I n.id, I n.term_, I n.vote, I n.role, I n.lead, .w (sl 1 cI n.conf) (g9 0 5), I ((logBehind n.log i (logTerm n.log i)).start), I ((logBehind n.log i (logTerm n.log i)).startTerm), .w (sl 3 Entry.c ((logBehind n.log i (logTerm n.log i)).entries)) (go11_7_1 0 2), I n.commit, I n.clock, I n.limit, .w (sl 1 cI n.votes) (g9 0 12), .w (sl 4 Peer.c n.peers) (g9 0 13)])] rfl (Le.of rfl) ?_
      exact RA.to hall (RA.lr (ro11_1111111111 go11_6_1 go11_7_1) rfl rfl)
    have ro11_1111111000 : ∀ (go11_6_1 : Nat → Nat → Value), RA [(4, b2, [.int .i64 0, .int .i64 0, .int .i64 0, .int .i64 0, .int .i64 0, .slice none 0 0, .int .i64 0, .int .i64 0, .slice none 0 0, .int .i64 0, .int .i64 0, .int .i64 0, .slice none 0 0, .slice none 0 0])] E B all 3 #[true, true, true, true, true, true, true, false, false, false] ⟨37, [(1, I i), (2, .obj b1 ((Node.c n).map .r)), (4, .obj b2 [I 0, I 0, I 0, I 0, I 0, .r (.v (.slice none 0 0)), I 0, I 0, .r (.v (.slice none 0 0)), I 0, I 0, I 0, .r (.v (.slice none 0 0)), .r (.v (.slice none 0 0))]), (6, .obj b10 [I n.id, I n.term_, I n.vote, I n.role, I n.lead, .w (sl 1 cI n.conf) (g9 0 5), I n.log.start, I n.log.startTerm, .w (sl 3 Entry.c n.log.entries) (g9 0 8), I n.commit, I n.clock, I n.limit, .w (sl 1 cI n.votes) (g9 0 12), .w (sl 4 Peer.c n.peers) (g9 0 13)]), (24, .agg ((Log.c n.log).map .r)), (25, I i), (29, I (logTerm n.log i))]⟩ K := by
     intro go11_6_1
     refine RA.of hall (RA.stepH (L := [7]) (Tell.c rfl rfl Tell.e) (by kernel_rfl) (by simp) (RA.each ?_ (RA.each0)))
     ·skip
      refine RO.call rfl rfl (impl_LogBehind_fn n.log i (logTerm n.log i) (hok.2.1) hi) rfl (.cons (.agg (.cons (.r .r) (.cons (.r .r) (.cons (.r .r) (.nil))))) (.cons (.one (.r .r)) (.cons (.one (.r .r)) (.nil)))) rfl fun go11_7_1 => ?_
      refine RA.first (i := 8) (ls' := #[true, true, true, true, true, true, true, true, true, false]) (Tell.c rfl rfl Tell.e) (by kernel_rfl) rfl rfl rfl (VF.p (V.field rfl rfl rfl rfl (by decide) rfl)) ?_
      exact RA.to hall (RA.lr (ro11_1111111110 go11_6_1 go11_7_1) rfl rfl)
    have ro11_1011111000 : ∀ (go11_6_1 : Nat → Nat → Value), RA [(4, b2, [.int .i64 0, .int .i64 0, .int .i64 0, .int .i64 0, .int .i64 0, .slice none 0 0, .int .i64 0, .int .i64 0, .slice none 0 0, .int .i64 0, .int .i64 0, .int .i64 0, .slice none 0 0, .slice none 0 0])] E B all 4 #[true, false, true, true, true, true, true, false, false, false] ⟨37, [(1, I i), (2, .obj b1 ((Node.c n).map .r)), (4, .obj b2 [I 0, I 0, I 0, I 0, I 0, .r (.v (.slice none 0 0)), I 0, I 0, .r (.v (.slice none 0 0)), I 0, I 0, I 0, .r (.v (.slice none 0 0)), .r (.v (.slice none 0 0))]), (6, .obj b10 [I n.id, I n.term_, I n.vote, I n.role, I n.lead, .w (sl 1 cI n.conf) (g9 0 5), I n.log.start, I n.log.startTerm, .w (sl 3 Entry.c n.log.entries) (g9 0 8), I n.commit, I n.clock, I n.limit, .w (sl 1 cI n.votes) (g9 0 12), .w (sl 4 Peer.c n.peers) (g9 0 13)]), (23, .pt 2 b1 6), (25, I i), (29, I (logTerm n.log i))]⟩ K := by
     intro go11_6_1
     refine RA.of hall (RA.stepH (L := [1]) (Tell.c rfl rfl Tell.e) (by kernel_rfl) (by simp) (RA.each ?_ (RA.each0)))
     ·skip
      refine RO.v rfl rfl (V.loadAgg rfl rfl rfl rfl rfl (Nat.le_of_ble_eq_true rfl)) rfl ?_
      exact RA.to hall (RA.lr (ro11_1111111000 go11_6_1) rfl rfl)
    have ro11_1111110000 : RA [(4, b2, [.int .i64 0, .int .i64 0, .int .i64 0, .int .i64 0, .int .i64 0, .slice none 0 0, .int .i64 0, .int .i64 0, .slice none 0 0, .int .i64 0, .int .i64 0, .int .i64 0, .slice none 0 0, .slice none 0 0])] E B all 4 #[true, true, true, true, true, true, false, false, false, false] ⟨37, [(1, I i), (2, .obj b1 ((Node.c n).map .r)), (4, .obj b2 [I 0, I 0, I 0, I 0, I 0, .r (.v (.slice none 0 0)), I 0, I 0, .r (.v (.slice none 0 0)), I 0, I 0, I 0, .r (.v (.slice none 0 0)), .r (.v (.slice none 0 0))]), (6, .obj b10 [I n.id, I n.term_, I n.vote, I n.role, I n.lead, .w (sl 1 cI n.conf) (g9 0 5), I n.log.start, I n.log.startTerm, .w (sl 3 Entry.c n.log.entries) (g9 0 8), I n.commit, I n.clock, I n.limit, .w (sl 1 cI n.votes) (g9 0 12), .w (sl 4 Peer.c n.peers) (g9 0 13)]), (24, .agg ((Log.c n.log).map .r)), (25, I i), (27, .agg ((Log.c n.log).map .r)), (28, I i)]⟩ K := by
     refine RA.of hall (RA.stepH (L := [6]) (Tell.c rfl rfl Tell.e) (by kernel_rfl) (by simp) (RA.each ?_ (RA.each0)))
     ·skip
      refine RO.call rfl rfl (impl_LogTerm_fn n.log i hs hi) rfl (.cons (.agg (.cons (.r .r) (.cons (.r .r) (.cons (.r .r) (.nil))))) (.cons (.one (.r .r)) (.nil))) rfl fun go11_6_1 => ?_
      exact RA.to hall (RA.lr (ro11_1111111000 go11_6_1) rfl rfl)
    have ro11_1011110000 : RA [(4, b2, [.int .i64 0, .int .i64 0, .int .i64 0, .int .i64 0, .int .i64 0, .slice none 0 0, .int .i64 0, .int .i64 0, .slice none 0 0, .int .i64 0, .int .i64 0, .int .i64 0, .slice none 0 0, .slice none 0 0])] E B all 5 #[true, false, true, true, true, true, false, false, false, false] ⟨37, [(1, I i), (2, .obj b1 ((Node.c n).map .r)), (4, .obj b2 [I 0, I 0, I 0, I 0, I 0, .r (.v (.slice none 0 0)), I 0, I 0, .r (.v (.slice none 0 0)), I 0, I 0, I 0, .r (.v (.slice none 0 0)), .r (.v (.slice none 0 0))]), (6, .obj b10 [I n.id, I n.term_, I n.vote, I n.role, I n.lead, .w (sl 1 cI n.conf) (g9 0 5), I n.log.start, I n.log.startTerm, .w (sl 3 Entry.c n.log.entries) (g9 0 8), I n.commit, I n.clock, I n.limit, .w (sl 1 cI n.votes) (g9 0 12), .w (sl 4 Peer.c n.peers) (g9 0 13)]), (23, .pt 2 b1 6), (25, I i), (27, .agg ((Log.c n.log).map .r)), (28, I i)]⟩ K := by
     refine RA.of hall (RA.stepH (L := [1, 6]) (Tell.c rfl rfl Tell.e) (by kernel_rfl) (by simp) (RA.each ?_ (RA.each ?_ (RA.each0))))
     ·skip
      refine RO.v rfl rfl (V.loadAgg rfl rfl rfl rfl rfl (Nat.le_of_ble_eq_true rfl)) rfl ?_
      exact RA.to hall (RA.lr ro11_1111110000 rfl rfl)
     ·skip
      refine RO.call rfl rfl (impl_LogTerm_fn n.log i hs hi) rfl (.cons (.agg (.cons (.r .r) (.cons (.r .r) (.cons (.r .r) (.nil))))) (.cons (.one (.r .r)) (.nil))) rfl fun go11_6_1 => ?_
      exact RA.to hall (RA.lr (ro11_1011111000 go11_6_1) rfl rfl)
    have ro11_1111010000 : RA [(4, b2, [.int .i64 0, .int .i64 0, .int .i64 0, .int .i64 0, .int .i64 0, .slice none 0 0, .int .i64 0, .int .i64 0, .slice none 0 0, .int .i64 0, .int .i64 0, .int .i64 0, .slice none 0 0, .slice none 0 0])] E B all 5 #[true, true, true, true, false, true, false, false, false, false] ⟨37, [(1, I i), (2, .obj b1 ((Node.c n).map .r)), (4, .obj b2 [I 0, I 0, I 0, I 0, I 0, .r (.v (.slice none 0 0)), I 0, I 0, .r (.v (.slice none 0 0)), I 0, I 0, I 0, .r (.v (.slice none 0 0)), .r (.v (.slice none 0 0))]), (6, .obj b10 [I n.id, I n.term_, I n.vote, I n.role, I n.lead, .w (sl 1 cI n.conf) (g9 0 5), I n.log.start, I n.log.startTerm, .w (sl 3 Entry.c n.log.entries) (g9 0 8), I n.commit, I n.clock, I n.limit, .w (sl 1 cI n.votes) (g9 0 12), .w (sl 4 Peer.c n.peers) (g9 0 13)]), (24, .agg ((Log.c n.log).map .r)), (25, I i), (26, .pt 2 b1 6), (28, I i)]⟩ K := by
     refine RA.of hall (RA.stepH (L := [4]) (Tell.c rfl rfl Tell.e) (by kernel_rfl) (by simp) (RA.each ?_ (RA.each0)))
     ·skip
      refine RO.v rfl rfl (V.loadAgg rfl rfl rfl rfl rfl (Nat.le_of_ble_eq_true rfl)) rfl ?_
      exact RA.to hall (RA.lr ro11_1111110000 rfl rfl)
    have ro11_1011010000 : RA [(4, b2, [.int .i64 0, .int .i64 0, .int .i64 0, .int .i64 0, .int .i64 0, .slice none 0 0, .int .i64 0, .int .i64 0, .slice none 0 0, .int .i64 0, .int .i64 0, .int .i64 0, .slice none 0 0, .slice none 0 0])] E B all 6 #[true, false, true, true, false, true, false, false, false, false] ⟨37, [(1, I i), (2, .obj b1 ((Node.c n).map .r)), (4, .obj b2 [I 0, I 0, I 0, I 0, I 0, .r (.v (.slice none 0 0)), I 0, I 0, .r (.v (.slice none 0 0)), I 0, I 0, I 0, .r (.v (.slice none 0 0)), .r (.v (.slice none 0 0))]), (6, .obj b10 [I n.id, I n.term_, I n.vote, I n.role, I n.lead, .w (sl 1 cI n.conf) (g9 0 5), I n.log.start, I n.log.startTerm, .w (sl 3 Entry.c n.log.entries) (g9 0 8), I n.commit, I n.clock, I n.limit, .w (sl 1 cI n.votes) (g9 0 12), .w (sl 4 Peer.c n.peers) (g9 0 13)]), (23, .pt 2 b1 6), (25, I i), (26, .pt 2 b1 6), (28, I i)]⟩ K := by
     refine RA.of hall (RA.stepH (L := [1, 4]) (Tell.c rfl rfl Tell.e) (by kernel_rfl) (by simp) (RA.each ?_ (RA.each ?_ (RA.each0))))
     ·skip
      refine RO.v rfl rfl (V.loadAgg rfl rfl rfl rfl rfl (Nat.le_of_ble_eq_true rfl)) rfl ?_
      exact RA.to hall (RA.lr ro11_1111010000 rfl rfl)
     ·skip
      refine RO.v rfl rfl (V.loadAgg rfl rfl rfl rfl rfl (Nat.le_of_ble_eq_true rfl)) rfl ?_
      exact RA.to hall (RA.lr ro11_1011110000 rfl rfl)
    have ro11_S : RA [(4, b2, [.int .i64 0, .int .i64 0, .int .i64 0, .int .i64 0, .int .i64 0, .slice none 0 0, .int .i64 0, .int .i64 0, .slice none 0 0, .int .i64 0, .int .i64 0, .int .i64 0, .slice none 0 0, .slice none 0 0])] E B all 10 #[false, false, false, false, false, false, false, false, false, false] ⟨37, [(1, I i), (2, .obj b1 ((Node.c n).map .r)), (4, .obj b2 [I 0, I 0, I 0, I 0, I 0, .r (.v (.slice none 0 0)), I 0, I 0, .r (.v (.slice none 0 0)), I 0, I 0, I 0, .r (.v (.slice none 0 0)), .r (.v (.slice none 0 0))]), (6, .obj b10 [I n.id, I n.term_, I n.vote, I n.role, I n.lead, .w (sl 1 cI n.conf) (g9 0 5), I n.log.start, I n.log.startTerm, .w (sl 3 Entry.c n.log.entries) (g9 0 8), I n.commit, I n.clock, I n.limit, .w (sl 1 cI n.votes) (g9 0 12), .w (sl 4 Peer.c n.peers) (g9 0 13)])]⟩ K := by
     refine RA.of hall ?_
     refine RA.first (i := 0) (ls' := #[true, false, false, false, false, false, false, false, false, false]) (Tell.c rfl rfl Tell.e) (by kernel_rfl) rfl rfl rfl (VF.p (V.field rfl rfl rfl rfl (by decide) rfl)) ?_
     refine RA.first (i := 2) (ls' := #[true, false, true, false, false, false, false, false, false, false]) (Tell.c rfl rfl Tell.e) (by kernel_rfl) rfl rfl rfl (VF.p (V.mv (d := I i) rfl rfl)) ?_
     refine RA.first (i := 3) (ls' := #[true, false, true, true, false, false, false, false, false, false]) (Tell.c rfl rfl Tell.e) (by kernel_rfl) rfl rfl rfl (VF.p (V.field rfl rfl rfl rfl (by decide) rfl)) ?_
     refine RA.first (i := 5) (ls' := #[true, false, true, true, false, true, false, false, false, false]) (Tell.c rfl rfl Tell.e) (by kernel_rfl) rfl rfl rfl (VF.p (V.mv (d := I i) rfl rfl)) ?_
     exact RA.to hall (RA.lr ro11_1011010000 rfl rfl)
    exact RA.start (by kernel_rfl) (by kernel_rfl) (RA.lr ro11_S rfl rfl)
   ·rintro ⟨go11_6_1, go11_7_1⟩
    refine CW.seq ?_
    refine CW.region ?_
    refine RW.v rfl (V.loadAgg rfl rfl rfl rfl rfl (Nat.le_of_ble_eq_true rfl)) ?_
    refine RW.v rfl (V.mv (d := I i) rfl rfl) ?_
    refine RW.call rfl (impl_ConfAt_fn n i hok) rfl (.cons (.agg (.cons (.r .r) (.cons (.r .r) (.cons (.r .r) (.cons (.r .r) (.cons (.r .r) (.cons (.r .r) (.cons (.r .r) (.cons (.r .r) (.cons (.r .r) (.cons (.r .r) (.cons (.r .r) (.cons (.r .r) (.cons (.r .r) (.cons (.r .r) (.nil)))))))))))))))) (.cons (.one (.r .r)) (.nil))) fun g12 => ?_
    refine RW.v rfl (V.field rfl rfl rfl rfl (by decide) rfl) ?_
    refine RW.store (d := .al 34 none 1 (((lastC n i).2).length) (g12 0 0) 0) rfl rfl rfl rfl rfl rfl rfl (Nat.le_of_ble_eq_true rfl) rfl rfl ?_
    refine RW.le [(4, .obj b2 [I 0, I 0, I 0, I 0, I 0, .r (.v (.slice none 0 0)), I 0, I 0, .r (.v (.slice none 0 0)), I 0, I 0, I 0, .r (.v (.slice none 0 0)), .r (.v (.slice none 0 0))]), (6, .obj b10 [I n.id, I n.term_, I n.vote, I n.role, I n.lead, .al 34 none 1 (((lastC n i).2).length) (g12 0 0) 0, I ((logBehind n.log i (logTerm n.log i)).start), I ((logBehind n.log i (logTerm n.log i)).startTerm), .w (sl 3 Entry.c ((logBehind n.log i (logTerm n.log i)).entries)) (go11_7_1 0 2), I n.commit, I n.clock, I n.limit, .w (sl 1 cI n.votes) (g9 0 12), .w (sl 4 Peer.c n.peers) (g9 0 13)]), (34, .w (sl 1 cI ((lastC n i).2)) (g12 0 0))] rfl (Le.of rfl) ?_
    refine RW.pullT (k := 6) (l := 34) (j := 5) 6 34 5 rfl rfl rfl (by decide) rfl rfl rfl ?_
    refine RW.le [(4, .obj b2 [I 0, I 0, I 0, I 0, I 0, .r (.v (.slice none 0 0)), I 0, I 0, .r (.v (.slice none 0 0)), I 0, I 0, I 0, .r (.v (.slice none 0 0)), .r (.v (.slice none 0 0))]), (6, .obj b10 [I n.id, I n.term_, I n.vote, I n.role, I n.lead, .w (sl 1 cI ((lastC n i).2)) (g12 0 0), I ((logBehind n.log i (logTerm n.log i)).start), I ((logBehind n.log i (logTerm n.log i)).startTerm), .w (sl 3 Entry.c ((logBehind n.log i (logTerm n.log i)).entries)) (go11_7_1 0 2), I n.commit, I n.clock, I n.limit, .w (sl 1 cI n.votes) (g9 0 12), .w (sl 4 Peer.c n.peers) (g9 0 13)])] rfl (Le.of rfl) ?_
    refine RW.nil ?_
    refine CW.le [(4, .obj b2 [I 0, I 0, I 0, I 0, I 0, .r (.v (.slice none 0 0)), I 0, I 0, .r (.v (.slice none 0 0)), I 0, I 0, I 0, .r (.v (.slice none 0 0)), .r (.v (.slice none 0 0))]), (6, .obj b10 [I n.id, I n.term_, I n.vote, I n.role, I n.lead, .w (sl 1 cI ((lastC n i).2)) (g12 0 0), I ((logBehind n.log i (logTerm n.log i)).start), I ((logBehind n.log i (logTerm n.log i)).startTerm), .w (sl 3 Entry.c ((logBehind n.log i (logTerm n.log i)).entries)) (go11_7_1 0 2), I n.commit, I n.clock, I n.limit, .w (sl 1 cI n.votes) (g9 0 12), .w (sl 4 Peer.c n.peers) (g9 0 13)])] rfl (Le.of rfl) ?_
    refine CW.seq ?_
    refine CW.region ?_
    refine RW.v rfl (V.loadAgg rfl rfl rfl rfl rfl (Nat.le_of_ble_eq_true rfl)) ?_
    refine RW.storeAgg (es := [I n.id, I n.term_, I n.vote, I n.role, I n.lead, .al 6 (some 5) 1 (((lastC n i).2).length) (g12 0 0) 0, I ((logBehind n.log i (logTerm n.log i)).start), I ((logBehind n.log i (logTerm n.log i)).startTerm), .al 6 (some 8) 3 (((logBehind n.log i (logTerm n.log i)).entries).length) (go11_7_1 0 2) 0, I n.commit, I n.clock, I n.limit, .al 6 (some 12) 1 n.votes.length (g9 0 12) 0, .al 6 (some 13) 4 n.peers.length (g9 0 13) 0]) rfl rfl rfl rfl rfl rfl rfl rfl (Nat.le_of_ble_eq_true rfl) rfl ?_
    refine RW.le [(4, .obj b2 [I n.id, I n.term_, I n.vote, I n.role, I n.lead, .al 6 (some 5) 1 (((lastC n i).2).length) (g12 0 0) 0, I ((logBehind n.log i (logTerm n.log i)).start), I ((logBehind n.log i (logTerm n.log i)).startTerm), .al 6 (some 8) 3 (((logBehind n.log i (logTerm n.log i)).entries).length) (go11_7_1 0 2) 0, I n.commit, I n.clock, I n.limit, .al 6 (some 12) 1 n.votes.length (g9 0 12) 0, .al 6 (some 13) 4 n.peers.length (g9 0 13) 0]), (6, .obj b10 [I n.id, I n.term_, I n.vote, I n.role, I n.lead, .w (sl 1 cI ((lastC n i).2)) (g12 0 0), I ((logBehind n.log i (logTerm n.log i)).start), I ((logBehind n.log i (logTerm n.log i)).startTerm), .w (sl 3 Entry.c ((logBehind n.log i (logTerm n.log i)).entries)) (go11_7_1 0 2), I n.commit, I n.clock, I n.limit, .w (sl 1 cI n.votes) (g9 0 12), .w (sl 4 Peer.c n.peers) (g9 0 13)])] rfl (Le.of rfl) ?_
    refine RW.pullO (k := 4) (l := 6) (j := 5) 4 6 5 rfl rfl rfl (by decide) rfl rfl rfl rfl ?_
    refine RW.le [(4, .obj b2 [I n.id, I n.term_, I n.vote, I n.role, I n.lead, .w (sl 1 cI ((lastC n i).2)) (g12 0 0), I ((logBehind n.log i (logTerm n.log i)).start), I ((logBehind n.log i (logTerm n.log i)).startTerm), .al 6 (some 8) 3 (((logBehind n.log i (logTerm n.log i)).entries).length) (go11_7_1 0 2) 0, I n.commit, I n.clock, I n.limit, .al 6 (some 12) 1 n.votes.length (g9 0 12) 0, .al 6 (some 13) 4 n.peers.length (g9 0 13) 0]), (6, .obj b10 [I n.id, I n.term_, I n.vote, I n.role, I n.lead, .u, I ((logBehind n.log i (logTerm n.log i)).start), I ((logBehind n.log i (logTerm n.log i)).startTerm), .w (sl 3 Entry.c ((logBehind n.log i (logTerm n.log i)).entries)) (go11_7_1 0 2), I n.commit, I n.clock, I n.limit, .w (sl 1 cI n.votes) (g9 0 12), .w (sl 4 Peer.c n.peers) (g9 0 13)])] rfl (Le.of rfl) ?_
    refine RW.pullO (k := 4) (l := 6) (j := 8) 4 6 8 rfl rfl rfl (by decide) rfl rfl rfl rfl ?_
    refine RW.le [(4, .obj b2 [I n.id, I n.term_, I n.vote, I n.role, I n.lead, .w (sl 1 cI ((lastC n i).2)) (g12 0 0), I ((logBehind n.log i (logTerm n.log i)).start), I ((logBehind n.log i (logTerm n.log i)).startTerm), .w (sl 3 Entry.c ((logBehind n.log i (logTerm n.log i)).entries)) (go11_7_1 0 2), I n.commit, I n.clock, I n.limit, .al 6 (some 12) 1 n.votes.length (g9 0 12) 0, .al 6 (some 13) 4 n.peers.length (g9 0 13) 0]), (6, .obj b10 [I n.id, I n.term_, I n.vote, I n.role, I n.lead, .u, I ((logBehind n.log i (logTerm n.log i)).start), I ((logBehind n.log i (logTerm n.log i)).startTerm), .u, I n.commit, I n.clock, I n.limit, .w (sl 1 cI n.votes) (g9 0 12), .w (sl 4 Peer.c n.peers) (g9 0 13)])] rfl (Le.of rfl) ?_
    refine RW.pullO (k := 4) (l := 6) (j := 12) 4 6 12 rfl rfl rfl (by decide) rfl rfl rfl rfl ?_
    refine RW.le [(4, .obj b2 [I n.id, I n.term_, I n.vote, I n.role, I n.lead, .w (sl 1 cI ((lastC n i).2)) (g12 0 0), I ((logBehind n.log i (logTerm n.log i)).start), I ((logBehind n.log i (logTerm n.log i)).startTerm), .w (sl 3 Entry.c ((logBehind n.log i (logTerm n.log i)).entries)) (go11_7_1 0 2), I n.commit, I n.clock, I n.limit, .w (sl 1 cI n.votes) (g9 0 12), .al 6 (some 13) 4 n.peers.length (g9 0 13) 0]), (6, .obj b10 [I n.id, I n.term_, I n.vote, I n.role, I n.lead, .u, I ((logBehind n.log i (logTerm n.log i)).start), I ((logBehind n.log i (logTerm n.log i)).startTerm), .u, I n.commit, I n.clock, I n.limit, .u, .w (sl 4 Peer.c n.peers) (g9 0 13)])] rfl (Le.of rfl) ?_
    refine RW.pullO (k := 4) (l := 6) (j := 13) 4 6 13 rfl rfl rfl (by decide) rfl rfl rfl rfl ?_
    refine RW.le [(4, .obj b2 [I n.id, I n.term_, I n.vote, I n.role, I n.lead, .w (sl 1 cI ((lastC n i).2)) (g12 0 0), I ((logBehind n.log i (logTerm n.log i)).start), I ((logBehind n.log i (logTerm n.log i)).startTerm), .w (sl 3 Entry.c ((logBehind n.log i (logTerm n.log i)).entries)) (go11_7_1 0 2), I n.commit, I n.clock, I n.limit, .w (sl 1 cI n.votes) (g9 0 12), .w (sl 4 Peer.c n.peers) (g9 0 13)]), (6, .obj b10 [I n.id, I n.term_, I n.vote, I n.role, I n.lead, .u, I ((logBehind n.log i (logTerm n.log i)).start), I ((logBehind n.log i (logTerm n.log i)).startTerm), .u, I n.commit, I n.clock, I n.limit, .u, .u])] rfl (Le.of rfl) ?_
    refine RW.v rfl (V.as (d := Bo true) rfl rfl) ?_
    refine RW.nil ?_
    refine CW.le [(4, .obj b2 [I n.id, I n.term_, I n.vote, I n.role, I n.lead, .w (sl 1 cI ((lastC n i).2)) (g12 0 0), I ((logBehind n.log i (logTerm n.log i)).start), I ((logBehind n.log i (logTerm n.log i)).startTerm), .w (sl 3 Entry.c ((logBehind n.log i (logTerm n.log i)).entries)) (go11_7_1 0 2), I n.commit, I n.clock, I n.limit, .w (sl 1 cI n.votes) (g9 0 12), .w (sl 4 Peer.c n.peers) (g9 0 13)]), (5, Bo true)] rfl (Le.of rfl) ?_
    refine CW.ret ?_
    exact Post.tup (by decide) (RVs.c (RV.c (f := fun e => (Node.c e).map .w) (e' := (⟨n.id, n.term_, n.vote, n.role, n.lead, (lastC n i).2, (logBehind n.log i (logTerm n.log i)), n.commit, n.clock, n.limit, n.votes, n.peers⟩ : Node)) rfl rfl rfl rfl (DT.v (DT.v (DT.v (DT.v (DT.v (DT.w (DT.v (DT.v (DT.w (DT.v (DT.v (DT.v (DT.w (DT.w DT.e)))))))))))))) (by rw [settle_yes hn hin, conf_at_eq hl hi2])) (RVs.c (RV.b rfl (by rw [settle_yes hn hin])) RVs.e)) (AOs.a rfl (AOs.r AOs.e))
set_option maxHeartbeats 4000000 in
theorem impl_NodeNew_fn (i : Int) (c : List Int) (hm : c.length ≤ 1048576) : Eng.Fn E.P 26 [.one (.r (.v (.int .i64 i))), .one (.r (sl 1 cI c))] (.tup [.agg ((Node.c ((nodeNew i c).1)).map .w), .one (.w (.v (.bool ((nodeNew i c).2))))]) [.one (.r (.v (.int .i64 i))), .one (.r (sl 1 cI c))] := by
 refine Eng.Fn.intro (E := E) (rvs := [.cell 4 47, .tmp 5]) Try.func26 rfl rfl rfl (by simp [outSlots, moved, rvSlot, sl]) ?_
 intro B g bo
 refine CW.bound (x := .tmp 1) (n := c.length) (AsT.r) (fun hl1 => ?_)
 refine CW.le [(0, I i), (1, .r (sl 1 cI c))] rfl (Le.of rfl) ?_
 refine CW.seq ?_
 refine CW.region ?_
 refine RW.alloc (ds := [I 0, I 0, I 0, I 0, I 0, .r (.v (.slice none 0 0)), I 0, I 0, .r (.v (.slice none 0 0)), I 0, I 0, I 0, .r (.v (.slice none 0 0)), .r (.v (.slice none 0 0))]) rfl rfl rfl rfl fun b1 => ?_
 refine RW.v rfl (V.as (d := Bo false) rfl rfl) ?_
 refine RW.nil ?_
 refine CW.le [(0, I i), (1, .r (sl 1 cI c)), (4, .obj b1 [I 0, I 0, I 0, I 0, I 0, .r (.v (.slice none 0 0)), I 0, I 0, .r (.v (.slice none 0 0)), I 0, I 0, I 0, .r (.v (.slice none 0 0)), .r (.v (.slice none 0 0))])] rfl (Le.of rfl) ?_
 refine CW.seq ?_
 refine CW.region ?_
 refine RW.v rfl (V.mv (d := I i) rfl rfl) ?_
 refine RW.v rfl (V.mv (d := .r (sl 1 cI c)) rfl rfl) ?_
 refine RW.call rfl (impl_copyInts_fn c hm) rfl (.cons (.one (.r .r)) (.nil)) fun g2 => ?_
 refine RW.v rfl (V.build (ds := [I i, I 0, I 0, I 0, I 0, .al 9 none 1 c.length (g2 0 0) 0, I 0, I 0, .r (.v (.slice none 0 0)), I 0, I 0, I 20, .r (.v (.slice none 0 0)), .r (.v (.slice none 0 0))]) rfl rfl rfl rfl (.one rfl rfl rfl (Nat.le_of_ble_eq_true rfl) (.one rfl rfl rfl (Nat.le_of_ble_eq_true rfl) (.one rfl rfl rfl (Nat.le_of_ble_eq_true rfl) (.nil))))) ?_
 refine RW.alloc (ds := [I 0, I 0, I 0, I 0, I 0, .r (.v (.slice none 0 0)), I 0, I 0, .r (.v (.slice none 0 0)), I 0, I 0, I 0, .r (.v (.slice none 0 0)), .r (.v (.slice none 0 0))]) rfl rfl rfl rfl fun b3 => ?_
 refine RW.storeAgg (es := [I i, I 0, I 0, I 0, I 0, .al 9 none 1 c.length (g2 0 0) 0, I 0, I 0, .r (.v (.slice none 0 0)), I 0, I 0, I 20, .r (.v (.slice none 0 0)), .r (.v (.slice none 0 0))]) rfl rfl rfl rfl rfl rfl rfl rfl (Nat.le_of_ble_eq_true rfl) rfl ?_
 refine RW.le [(4, .obj b1 [I 0, I 0, I 0, I 0, I 0, .r (.v (.slice none 0 0)), I 0, I 0, .r (.v (.slice none 0 0)), I 0, I 0, I 0, .r (.v (.slice none 0 0)), .r (.v (.slice none 0 0))]), (6, .obj b3 [I i, I 0, I 0, I 0, I 0, .al 9 none 1 c.length (g2 0 0) 0, I 0, I 0, .r (.v (.slice none 0 0)), I 0, I 0, I 20, .r (.v (.slice none 0 0)), .r (.v (.slice none 0 0))]), (9, .w (sl 1 cI c) (g2 0 0))] rfl (Le.of rfl) ?_
 refine RW.pullT (k := 6) (l := 9) (j := 5) 6 9 5 rfl rfl rfl (by decide) rfl rfl rfl ?_
 refine RW.le [(4, .obj b1 [I 0, I 0, I 0, I 0, I 0, .r (.v (.slice none 0 0)), I 0, I 0, .r (.v (.slice none 0 0)), I 0, I 0, I 0, .r (.v (.slice none 0 0)), .r (.v (.slice none 0 0))]), (6, .obj b3 [I i, I 0, I 0, I 0, I 0, .w (sl 1 cI c) (g2 0 0), I 0, I 0, .r (.v (.slice none 0 0)), I 0, I 0, I 20, .r (.v (.slice none 0 0)), .r (.v (.slice none 0 0))])] rfl (Le.of rfl) ?_
 refine RW.nil ?_
 refine CW.le [(4, .obj b1 [I 0, I 0, I 0, I 0, I 0, .r (.v (.slice none 0 0)), I 0, I 0, .r (.v (.slice none 0 0)), I 0, I 0, I 0, .r (.v (.slice none 0 0)), .r (.v (.slice none 0 0))]), (6, .obj b3 [I i, I 0, I 0, I 0, I 0, .w (sl 1 cI c) (g2 0 0), I 0, I 0, .r (.v (.slice none 0 0)), I 0, I 0, I 20, .r (.v (.slice none 0 0)), .r (.v (.slice none 0 0))])] rfl (Le.of rfl) ?_
 refine CW.seq ?_
 refine CW.seq ?_
 refine CW.region ?_
 refine RW.v rfl (V.loadAgg rfl rfl rfl rfl rfl (Nat.le_of_ble_eq_true rfl)) ?_
 refine RW.callOwn rfl (impl_NodeOk_fn (⟨i, 0, 0, 0, 0, c, (⟨0, 0, []⟩ : Log), 0, 0, 20, [], []⟩ : Node) (okNodeOf hm)) rfl (.cons (.agg (.cons (.r .r) (.cons (.r .r) (.cons (.r .r) (.cons (.r .r) (.cons (.r .r) (.cons (.r (.alo (k := none) (i := 6) (j := 5) (sz := 1) (V := (g2 0 0)) rfl rfl rfl nofun)) (.cons (.r .r) (.cons (.r .r) (.cons (.r .nil) (.cons (.r .r) (.cons (.r .r) (.cons (.r .r) (.cons (.r .nil) (.cons (.r .nil) (.nil)))))))))))))))) (.nil)) rfl fun g4 => ?_
 refine RW.v rfl (V.not rfl rfl) ?_
 refine RW.nil ?_
 refine CW.le [(4, .obj b1 [I 0, I 0, I 0, I 0, I 0, .r (.v (.slice none 0 0)), I 0, I 0, .r (.v (.slice none 0 0)), I 0, I 0, I 0, .r (.v (.slice none 0 0)), .r (.v (.slice none 0 0))]), (6, .obj b3 [I i, I 0, I 0, I 0, I 0, .w (sl 1 cI c) (g2 0 0), I 0, I 0, .r (.v (.slice none 0 0)), I 0, I 0, I 20, .r (.v (.slice none 0 0)), .r (.v (.slice none 0 0))]), (13, Bo (!(nodeOk (⟨i, 0, 0, 0, 0, c, (⟨0, 0, []⟩ : Log), 0, 0, 20, [], []⟩ : Node))))] rfl (Le.of rfl) ?_
 refine CW.cond rfl (fun h5 => ?_) (fun h5 => ?_)
 ·skip
  refine CW.seq ?_
  refine CW.region ?_
  refine RW.v rfl (V.build (ds := [I 0, I 0, I 0, I 0, I 0, .r (.v (.slice none 0 0)), I 0, I 0, .r (.v (.slice none 0 0)), I 0, I 0, I 0, .r (.v (.slice none 0 0)), .r (.v (.slice none 0 0))]) rfl rfl rfl rfl (.nil)) ?_
  refine RW.storeAgg (es := [I 0, I 0, I 0, I 0, I 0, .r (.v (.slice none 0 0)), I 0, I 0, .r (.v (.slice none 0 0)), I 0, I 0, I 0, .r (.v (.slice none 0 0)), .r (.v (.slice none 0 0))]) rfl rfl rfl rfl rfl rfl rfl rfl (Nat.le_of_ble_eq_true rfl) rfl ?_
  refine RW.v rfl (V.as (d := Bo false) rfl rfl) ?_
  refine RW.nil ?_
  refine CW.le [(4, .obj b1 [I 0, I 0, I 0, I 0, I 0, .r (.v (.slice none 0 0)), I 0, I 0, .r (.v (.slice none 0 0)), I 0, I 0, I 0, .r (.v (.slice none 0 0)), .r (.v (.slice none 0 0))]), (5, Bo false)] rfl (Le.of rfl) ?_
  refine CW.ret ?_
  exact Post.tup (by decide) (RVs.c (RV.c (f := fun e => (Node.c e).map .w) (e' := (⟨0, 0, 0, 0, 0, [], (⟨0, 0, []⟩ : Log), 0, 0, 0, [], []⟩ : Node)) rfl rfl rfl rfl (DT.v (DT.v (DT.v (DT.v (DT.v (DT.n (DT.v (DT.v (DT.n (DT.v (DT.v (DT.v (DT.n (DT.n DT.e)))))))))))))) (by simp_all [nodeNew, nodeOf, Node.z, Log.z])) (RVs.c (RV.b rfl (by simp_all [nodeNew, nodeOf, Node.z, Log.z])) RVs.e)) (AOs.r (AOs.r AOs.e))
 ·skip
  refine CW.skip ?_
  refine CW.le [(4, .obj b1 [I 0, I 0, I 0, I 0, I 0, .r (.v (.slice none 0 0)), I 0, I 0, .r (.v (.slice none 0 0)), I 0, I 0, I 0, .r (.v (.slice none 0 0)), .r (.v (.slice none 0 0))]), (6, .obj b3 [I i, I 0, I 0, I 0, I 0, .w (sl 1 cI c) (g2 0 0), I 0, I 0, .r (.v (.slice none 0 0)), I 0, I 0, I 20, .r (.v (.slice none 0 0)), .r (.v (.slice none 0 0))])] rfl (Le.of rfl) ?_
  refine CW.seq ?_
  refine CW.region ?_
  refine RW.v rfl (V.loadAgg rfl rfl rfl rfl rfl (Nat.le_of_ble_eq_true rfl)) ?_
  refine RW.storeAgg (es := [I i, I 0, I 0, I 0, I 0, .al 6 (some 5) 1 c.length (g2 0 0) 0, I 0, I 0, .r (.v (.slice none 0 0)), I 0, I 0, I 20, .r (.v (.slice none 0 0)), .r (.v (.slice none 0 0))]) rfl rfl rfl rfl rfl rfl rfl rfl (Nat.le_of_ble_eq_true rfl) rfl ?_
  refine RW.le [(4, .obj b1 [I i, I 0, I 0, I 0, I 0, .al 6 (some 5) 1 c.length (g2 0 0) 0, I 0, I 0, .r (.v (.slice none 0 0)), I 0, I 0, I 20, .r (.v (.slice none 0 0)), .r (.v (.slice none 0 0))]), (6, .obj b3 [I i, I 0, I 0, I 0, I 0, .w (sl 1 cI c) (g2 0 0), I 0, I 0, .r (.v (.slice none 0 0)), I 0, I 0, I 20, .r (.v (.slice none 0 0)), .r (.v (.slice none 0 0))])] rfl (Le.of rfl) ?_
  refine RW.pullO (k := 4) (l := 6) (j := 5) 4 6 5 rfl rfl rfl (by decide) rfl rfl rfl rfl ?_
  refine RW.le [(4, .obj b1 [I i, I 0, I 0, I 0, I 0, .w (sl 1 cI c) (g2 0 0), I 0, I 0, .r (.v (.slice none 0 0)), I 0, I 0, I 20, .r (.v (.slice none 0 0)), .r (.v (.slice none 0 0))])] rfl (Le.of rfl) ?_
  refine RW.v rfl (V.as (d := Bo true) rfl rfl) ?_
  refine RW.nil ?_
  refine CW.le [(4, .obj b1 [I i, I 0, I 0, I 0, I 0, .w (sl 1 cI c) (g2 0 0), I 0, I 0, .r (.v (.slice none 0 0)), I 0, I 0, I 20, .r (.v (.slice none 0 0)), .r (.v (.slice none 0 0))]), (5, Bo true)] rfl (Le.of rfl) ?_
  refine CW.ret ?_
  exact Post.tup (by decide) (RVs.c (RV.c (f := fun e => (Node.c e).map .w) (e' := (⟨i, 0, 0, 0, 0, c, (⟨0, 0, []⟩ : Log), 0, 0, 20, [], []⟩ : Node)) rfl rfl rfl rfl (DT.v (DT.v (DT.v (DT.v (DT.v (DT.w (DT.v (DT.v (DT.n (DT.v (DT.v (DT.v (DT.n (DT.n DT.e)))))))))))))) (by simp_all [nodeNew, nodeOf, Node.z, Log.z])) (RVs.c (RV.b rfl (by simp_all [nodeNew, nodeOf, Node.z, Log.z])) RVs.e)) (AOs.r (AOs.r AOs.e))
set_option maxHeartbeats 4000000 in
theorem slices_Index___int_int__fn (a : List Int) (n : Int) : Eng.Fn E.P 134 [.one (.r (sl 1 cI a)), .one (.r (.v (.int .i64 n)))] (.one (.one (.w (.v (.int .i64 (idxF (fun y => n == y) a)))))) [.one (.r (sl 1 cI a)), .one (.r (.v (.int .i64 n)))] := by
 refine Eng.Fn.intro (E := E) (rvs := [.tmp 4]) Try.func134 rfl rfl rfl (by simp [outSlots, moved, rvSlot, sl]) ?_
 intro B g bo
 refine CW.bound (x := .tmp 0) (n := a.length) (AsT.r) (fun hl0 => ?_)
 refine CW.le [(0, .r (sl 1 cI a)), (1, I n)] rfl (Le.of rfl) ?_
 refine CW.seq ?_
 refine CW.region ?_
 refine RW.v rfl (V.as (d := I 0) rfl rfl) ?_
 refine RW.nil ?_
 refine CW.le [(0, .r (sl 1 cI a)), (1, I n)] rfl (Le.of rfl) ?_
 refine CW.seq ?_
 refine CW.seq ?_
 refine CW.region ?_
 refine RW.v rfl (V.mv (d := .r (sl 1 cI a)) rfl rfl) ?_
 refine RW.v rfl (V.lenT (n := a.length) rfl rfl rfl .r) ?_
 refine RW.v rfl (V.mv (d := I 0) rfl rfl) ?_
 refine RW.nil ?_
 refine CW.le [(0, .r (sl 1 cI a)), (1, I n), (7, I (a.length : Int)), (8, I 0)] rfl (Le.of rfl) ?_
 refine CW.block ?_
 refine CW.loopI 19 (fun (i : Nat) => [(0, .r (sl 1 cI a)), (1, I n), (7, I (a.length : Int)), (8, I (i : Int))]) (fun (i : Nat) => i ≤ a.length ∧ (a.take i).any (fun y => n == y) = false) (fun (i : Nat) => a.length - i) 0 rfl (Le.c rfl <| Le.c rfl <| Le.c rfl <| Le.c rfl <| Le.e) ⟨by omega, by simp⟩ ?_
 rintro i ⟨hb, hr⟩
 refine CW.seq ?_
 refine CW.region ?_
 refine RW.v rfl (V.cmpInt rfl rfl rfl rfl) ?_
 refine RW.nil ?_
 refine CW.le [(0, .r (sl 1 cI a)), (1, I n), (7, I (a.length : Int)), (8, I (i : Int)), (9, Bo (decide ((i : Int) < (a.length : Int))))] rfl (Le.of rfl) ?_
 refine CW.seq ?_
 refine CW.cond rfl (fun h1 => ?_) (fun h1 => ?_)
 ·skip
  have hii : i < a.length := by have := h1; simp at this; first | exact this | omega | (simp; done) | (simp; omega)
  obtain ⟨ei, hei⟩ : ∃ e, a[i]? = some e := ⟨_, List.getElem?_eq_getElem hii⟩
  have hdi := drop_get hei
  refine CW.skip ?_
  refine CW.le [(0, .r (sl 1 cI a)), (1, I n), (7, I (a.length : Int)), (8, I (i : Int))] rfl (Le.of rfl) ?_
  refine CW.seq ?_
  refine CW.block ?_
  refine CW.seq ?_
  refine CW.region ?_
  refine RW.v rfl (V.mv (d := I (i : Int)) rfl rfl) ?_
  refine RW.v rfl (V.as (d := I (i : Int)) rfl rfl) ?_
  refine RW.nil ?_
  refine CW.le [(0, .r (sl 1 cI a)), (1, I n), (5, I (i : Int)), (7, I (a.length : Int)), (8, I (i : Int))] rfl (Le.of rfl) ?_
  refine CW.seq ?_
  refine CW.region ?_
  refine RW.v rfl (V.mv (d := I n) rfl rfl) ?_
  refine RW.v rfl (V.mv (d := .r (sl 1 cI a)) rfl rfl) ?_
  refine RW.v rfl (V.mv (d := I (i : Int)) rfl rfl) ?_
  refine RW.v rfl (V.indexS rfl rfl rfl rfl rfl rfl cI.len hei) ?_
  refine RW.v rfl (V.loadPrimR (t0 := .v (.int .i64 ei)) rfl rfl (.inl rfl) rfl rfl) ?_
  refine RW.v rfl (V.cmpInt rfl rfl rfl rfl) ?_
  refine RW.nil ?_
  refine CW.le [(0, .r (sl 1 cI a)), (1, I n), (5, I (i : Int)), (7, I (a.length : Int)), (8, I (i : Int)), (16, Bo (n == ei))] rfl (Le.of rfl) ?_
  refine CW.cond rfl (fun h2 => ?_) (fun h2 => ?_)
  ·skip
   refine CW.seq ?_
   refine CW.region ?_
   refine RW.v rfl (V.mv (d := I (i : Int)) rfl rfl) ?_
   refine RW.v rfl (V.as (d := I (i : Int)) rfl rfl) ?_
   refine RW.nil ?_
   refine CW.le [(4, I (i : Int))] rfl (Le.of rfl) ?_
   refine CW.ret ?_
   exact Post.one (RV.i rfl (by exact idxF_at hr hei h2)) (AOs.r (AOs.r AOs.e))
  ·skip
   refine CW.skip ?_
   refine CW.le [(0, .r (sl 1 cI a)), (1, I n), (7, I (a.length : Int)), (8, I (i : Int))] rfl (Le.of rfl) ?_
   refine CW.region ?_
   refine RW.v rfl (V.inc rfl rfl rfl hii hl0) ?_
   refine RW.v rfl (V.mv (d := I ((i + 1 : Nat) : Int)) rfl rfl) ?_
   refine RW.nil ?_
   exact ⟨i + 1, by omega, ⟨by omega, any_snoc hr hei h2⟩, rfl, Le.c rfl <| Le.c rfl <| Le.c rfl <| Le.c rfl <| Le.e⟩
 ·skip
  have hii : a.length ≤ i := by have := h1; simp at this; first | exact this | omega | (simp; done) | (simp; omega)
  have hdi : a.drop i = [] := List.drop_eq_nil_of_le hii
  refine CW.exit ?_
  refine CW.le [] rfl (Le.of rfl) ?_
  refine CW.seq ?_
  refine CW.region ?_
  refine RW.v rfl (V.as (d := I (-1)) rfl rfl) ?_
  refine RW.nil ?_
  refine CW.le [(4, I (-1))] rfl (Le.of rfl) ?_
  refine CW.ret ?_
  exact Post.one (RV.i rfl (by exact idxF_no hr hii)) (AOs.r (AOs.r AOs.e))
set_option maxHeartbeats 4000000 in
theorem slices_Contains___int_int__fn (a : List Int) (n : Int) : Eng.Fn E.P 108 [.one (.r (sl 1 cI a)), .one (.r (.v (.int .i64 n)))] (.one (.one (.w (.v (.bool (hasI a n)))))) [.one (.r (sl 1 cI a)), .one (.r (.v (.int .i64 n)))] := by
 refine Eng.Fn.intro (E := E) (rvs := [.tmp 4]) Try.func108 rfl rfl rfl (by simp [outSlots, moved, rvSlot, sl]) ?_
 intro B g bo
 refine CW.bound (x := .tmp 0) (n := a.length) (AsT.r) (fun hl0 => ?_)
 refine CW.le [(0, .r (sl 1 cI a)), (1, I n)] rfl (Le.of rfl) ?_
 refine CW.seq ?_
 refine CW.region ?_
 refine RW.v rfl (V.as (d := Bo false) rfl rfl) ?_
 refine RW.nil ?_
 refine CW.le [(0, .r (sl 1 cI a)), (1, I n)] rfl (Le.of rfl) ?_
 refine CW.seq ?_
 refine CW.region ?_
 refine RW.v rfl (V.mv (d := .r (sl 1 cI a)) rfl rfl) ?_
 refine RW.v rfl (V.mv (d := I n) rfl rfl) ?_
 refine RW.call rfl (slices_Index___int_int__fn a n) rfl (.cons (.one (.r .r)) (.cons (.one (.r .r)) (.nil))) fun g1 => ?_
 refine RW.v rfl (V.cmpInt rfl rfl rfl rfl) ?_
 refine RW.v rfl (V.as (d := Bo (decide ((idxF (fun y => n == y) a) ≥ 0))) rfl rfl) ?_
 refine RW.nil ?_
 refine CW.le [(4, Bo (decide ((idxF (fun y => n == y) a) ≥ 0)))] rfl (Le.of rfl) ?_
 refine CW.ret ?_
 exact Post.one (RV.b rfl (by exact hasI_idx a n)) (AOs.r (AOs.r AOs.e))
set_option maxHeartbeats 4000000 in
theorem impl_Most_fn (a : List Int) (l : List Int) : Eng.Fn E.P 131 [.one (.r (sl 1 cI a)), .one (.r (sl 1 cI l))] (.one (.one (.w (.v (.bool (most a l)))))) [.one (.r (sl 1 cI a)), .one (.r (sl 1 cI l))] := by
 refine Eng.Fn.intro (E := E) (rvs := [.tmp 4]) Try.func131 rfl rfl rfl (by simp [outSlots, moved, rvSlot, sl]) ?_
 intro B g bo
 refine CW.bound (x := .tmp 0) (n := a.length) (AsT.r) (fun hl0 => ?_)
 refine CW.bound (x := .tmp 1) (n := l.length) (AsT.r) (fun hl1 => ?_)
 refine CW.le [(0, .r (sl 1 cI a)), (1, .r (sl 1 cI l))] rfl (Le.of rfl) ?_
 refine CW.seq ?_
 refine CW.region ?_
 refine RW.v rfl (V.as (d := Bo false) rfl rfl) ?_
 refine RW.nil ?_
 refine CW.le [(0, .r (sl 1 cI a)), (1, .r (sl 1 cI l))] rfl (Le.of rfl) ?_
 refine CW.seq ?_
 refine CW.region ?_
 refine RW.v rfl (V.as (d := I 0) rfl rfl) ?_
 refine RW.nil ?_
 refine CW.le [(0, .r (sl 1 cI a)), (1, .r (sl 1 cI l)), (5, I 0)] rfl (Le.of rfl) ?_
 refine CW.seq ?_
 refine CW.seq ?_
 refine CW.region ?_
 refine RW.v rfl (V.mv (d := .r (sl 1 cI a)) rfl rfl) ?_
 refine RW.v rfl (V.lenT (n := a.length) rfl rfl rfl .r) ?_
 refine RW.v rfl (V.mv (d := I 0) rfl rfl) ?_
 refine RW.nil ?_
 refine CW.le [(0, .r (sl 1 cI a)), (1, .r (sl 1 cI l)), (5, I 0), (8, .r (sl 1 cI a)), (9, I (a.length : Int)), (10, I 0)] rfl (Le.of rfl) ?_
 refine CW.block ?_
 refine CW.loopI 29 (fun (zz : Nat × Int) => match zz with | (i, c) => [(0, .r (sl 1 cI a)), (1, .r (sl 1 cI l)), (5, I c), (8, .r (sl 1 cI a)), (9, I (a.length : Int)), (10, I (i : Int))]) (fun (zz : Nat × Int) => match zz with | (i, c) => i ≤ a.length ∧ mostGo l (a.drop i) c = mostGo l a 0) (fun (zz : Nat × Int) => match zz with | (i, c) => a.length - i) (0, _) rfl (Le.c rfl <| Le.c rfl <| Le.c rfl <| Le.c rfl <| Le.c rfl <| Le.c rfl <| Le.e) ⟨by omega, by simp⟩ ?_
 rintro ⟨i, c⟩ ⟨hb, hr⟩
 refine CW.seq ?_
 refine CW.region ?_
 refine RW.v rfl (V.cmpInt rfl rfl rfl rfl) ?_
 refine RW.nil ?_
 refine CW.le [(0, .r (sl 1 cI a)), (1, .r (sl 1 cI l)), (5, I c), (8, .r (sl 1 cI a)), (9, I (a.length : Int)), (10, I (i : Int)), (11, Bo (decide ((i : Int) < (a.length : Int))))] rfl (Le.of rfl) ?_
 refine CW.seq ?_
 refine CW.cond rfl (fun h1 => ?_) (fun h1 => ?_)
 ·skip
  have hii : i < a.length := by have := h1; simp at this; first | exact this | omega | (simp; done) | (simp; omega)
  obtain ⟨ei, hei⟩ : ∃ e, a[i]? = some e := ⟨_, List.getElem?_eq_getElem hii⟩
  have hdi := drop_get hei
  refine CW.skip ?_
  refine CW.le [(0, .r (sl 1 cI a)), (1, .r (sl 1 cI l)), (5, I c), (8, .r (sl 1 cI a)), (9, I (a.length : Int)), (10, I (i : Int))] rfl (Le.of rfl) ?_
  refine CW.seq ?_
  refine CW.block ?_
  refine CW.seq ?_
  refine CW.region ?_
  refine RW.v rfl (V.indexS rfl rfl rfl rfl rfl rfl cI.len hei) ?_
  refine RW.v rfl (V.loadPrimR (t0 := .v (.int .i64 ei)) rfl rfl (.inl rfl) rfl rfl) ?_
  refine RW.v rfl (V.as (d := I ei) rfl rfl) ?_
  refine RW.nil ?_
  refine CW.le [(0, .r (sl 1 cI a)), (1, .r (sl 1 cI l)), (5, I c), (7, I ei), (8, .r (sl 1 cI a)), (9, I (a.length : Int)), (10, I (i : Int))] rfl (Le.of rfl) ?_
  refine CW.seq ?_
  refine CW.region ?_
  refine RW.v rfl (V.mv (d := .r (sl 1 cI l)) rfl rfl) ?_
  refine RW.v rfl (V.mv (d := I ei) rfl rfl) ?_
  refine RW.call rfl (slices_Contains___int_int__fn l ei) rfl (.cons (.one (.r .r)) (.cons (.one (.r .r)) (.nil))) fun g2 => ?_
  refine RW.nil ?_
  refine CW.le [(0, .r (sl 1 cI a)), (1, .r (sl 1 cI l)), (5, I c), (8, .r (sl 1 cI a)), (9, I (a.length : Int)), (10, I (i : Int)), (16, Bo (hasI l ei))] rfl (Le.of rfl) ?_
  refine CW.cond rfl (fun h3 => ?_) (fun h3 => ?_)
  ·skip
   refine CW.region ?_
   refine RW.v rfl (V.mv (d := I c) rfl rfl) ?_
   refine RW.v rfl (V.arInt rfl rfl rfl rfl) ?_
   refine RW.v rfl (V.as (d := I (IntKind.i64.wrap (c + 1))) rfl rfl) ?_
   refine RW.nil ?_
   refine CW.le [(0, .r (sl 1 cI a)), (1, .r (sl 1 cI l)), (5, I (IntKind.i64.wrap (c + 1))), (8, .r (sl 1 cI a)), (9, I (a.length : Int)), (10, I (i : Int))] rfl (Le.of rfl) ?_
   refine CW.region ?_
   refine RW.v rfl (V.inc rfl rfl rfl hii hl0) ?_
   refine RW.v rfl (V.mv (d := I ((i + 1 : Nat) : Int)) rfl rfl) ?_
   refine RW.nil ?_
   exact ⟨(i + 1, _), by simp only []; omega, ⟨by omega, by rw [← hr, hdi, mostGo]; simp_all⟩, rfl, Le.c rfl <| Le.c rfl <| Le.c rfl <| Le.c rfl <| Le.c rfl <| Le.c rfl <| Le.e⟩
  ·skip
   refine CW.skip ?_
   refine CW.le [(0, .r (sl 1 cI a)), (1, .r (sl 1 cI l)), (5, I c), (8, .r (sl 1 cI a)), (9, I (a.length : Int)), (10, I (i : Int))] rfl (Le.of rfl) ?_
   refine CW.region ?_
   refine RW.v rfl (V.inc rfl rfl rfl hii hl0) ?_
   refine RW.v rfl (V.mv (d := I ((i + 1 : Nat) : Int)) rfl rfl) ?_
   refine RW.nil ?_
   exact ⟨(i + 1, _), by simp only []; omega, ⟨by omega, by rw [← hr, hdi, mostGo]; simp_all⟩, rfl, Le.c rfl <| Le.c rfl <| Le.c rfl <| Le.c rfl <| Le.c rfl <| Le.c rfl <| Le.e⟩
 ·skip
  have hii : a.length ≤ i := by have := h1; simp at this; first | exact this | omega | (simp; done) | (simp; omega)
  have hdi : a.drop i = [] := List.drop_eq_nil_of_le hii
  refine CW.exit ?_
  refine CW.le [(0, .r (sl 1 cI a)), (5, I c)] rfl (Le.of rfl) ?_
  refine CW.seqJ 29 (fun (v4 : Bool) => [(4, Bo v4)]) (fun v4 => v4 = ((confOk a) && decide ((IntKind.i64.wrap (2 * c)) > (a.length : Int)))) ?_ ?_
  ·refine CW.region ?_
   refine RW.v rfl (V.mv (d := .r (sl 1 cI a)) rfl rfl) ?_
   refine RW.call rfl (impl_ConfOk_fn a) rfl (.cons (.one (.r .r)) (.nil)) fun g5 => ?_
   refine RW.v rfl (V.mv (d := Bo (confOk a)) rfl rfl) ?_
   refine RW.gv rfl rfl rfl rfl (fun h6 => V.mv (d := I c) rfl rfl) (fun h6 => ?_) (fun h6 => ?_)
   ·skip
    refine RW.gt rfl rfl rfl rfl (V.arInt rfl rfl rfl rfl) ?_
    refine RW.gt rfl rfl rfl rfl (V.mv (d := .r (sl 1 cI a)) rfl rfl) ?_
    refine RW.gt rfl rfl rfl rfl (V.lenT (n := a.length) rfl rfl rfl .r) ?_
    refine RW.gt rfl rfl rfl rfl (V.cmpInt rfl rfl rfl rfl) ?_
    refine RW.v rfl (V.pickT (d := Bo (decide ((IntKind.i64.wrap (2 * c)) > (a.length : Int)))) rfl rfl rfl) ?_
    refine RW.v rfl (V.as (d := Bo (decide ((IntKind.i64.wrap (2 * c)) > (a.length : Int)))) rfl rfl) ?_
    refine RW.nil ?_
    exact ⟨_, by first | rfl | (simp_all; done) | (simp_all; omega) | grind, rfl, Le.c rfl <| Le.e⟩
   ·skip
    refine RW.guardF rfl rfl rfl rfl ?_
    refine RW.guardF rfl rfl rfl rfl ?_
    refine RW.guardF rfl rfl rfl rfl ?_
    refine RW.guardF rfl rfl rfl rfl ?_
    refine RW.v rfl (V.pickF (d := Bo false) rfl rfl rfl) ?_
    refine RW.v rfl (V.as (d := Bo false) rfl rfl) ?_
    refine RW.nil ?_
    exact ⟨_, by first | rfl | (simp_all; done) | (simp_all; omega) | grind, rfl, Le.c rfl <| Le.e⟩
  ·intro v4 hv7
   refine CW.ret ?_
   exact Post.one (RV.b rfl (by simp_all [most, mostGo])) (AOs.r (AOs.r AOs.e))
end Go.Proofs.Ytbiocicogminlaa.Y
