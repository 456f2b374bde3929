import Derived.Test.YtbiocicogminlaaPu
import Derived.Test.YtbiocicogminlaaProg
namespace Go.Proofs.Ytbiocicogminlaa.Y
open Go Go.RowKit Go.Eng Go.Proofs
def tl : List (Nat × TyI) := [
(3, ⟨1, 8, [.int .i64 0], .prim⟩),
(4, ⟨1, 1, [.bool false], .prim⟩),
(5, ⟨1, 1, [.int .u8 0], .prim⟩),
(9, ⟨1, 16, [.string ⟨#[]⟩], .prim⟩),
(24, ⟨1, 24, [.slice none 0 0], .slice 81⟩),
(34, ⟨1, 24, [.slice none 0 0], .slice 3⟩),
(35, ⟨1, 24, [.slice none 0 0], .slice 77⟩),
(37, ⟨3, 40, [.int .i64 0, .int .i64 0, .slice none 0 0], .agg [(0, 3, 1), (1, 3, 1), (2, 35, 1)]⟩),
(38, ⟨1, 24, [.slice none 0 0], .slice 139⟩),
(40, ⟨14, 176, [.int .i64 0, .int .i64 0, .int .i64 0, .int .i64 0, .int .i64 0, .slice none 0 0, .int .i64 0, .int .i64 0, .slice none 0 0, .int .i64 0, .int .i64 0, .int .i64 0, .slice none 0 0, .slice none 0 0], .agg [(0, 3, 1), (1, 3, 1), (2, 3, 1), (3, 3, 1), (4, 3, 1), (5, 34, 1), (6, 37, 3), (9, 3, 1), (10, 3, 1), (11, 3, 1), (12, 34, 1), (13, 38, 1)]⟩),
(44, ⟨3, 40, [.int .i64 0, .int .i64 0, .slice none 0 0], .agg [(0, 3, 1), (1, 3, 1), (2, 24, 1)]⟩),
(45, ⟨1, 24, [.slice none 0 0], .slice 98⟩),
(47, ⟨14, 176, [.int .i64 0, .int .i64 0, .int .i64 0, .int .i64 0, .int .i64 0, .slice none 0 0, .int .i64 0, .int .i64 0, .slice none 0 0, .int .i64 0, .int .i64 0, .int .i64 0, .slice none 0 0, .slice none 0 0], .agg [(0, 3, 1), (1, 3, 1), (2, 3, 1), (3, 3, 1), (4, 3, 1), (5, 34, 1), (6, 44, 3), (9, 3, 1), (10, 3, 1), (11, 3, 1), (12, 34, 1), (13, 45, 1)]⟩),
(68, ⟨1, 24, [.slice none 0 0], .slice 5⟩),
(77, ⟨3, 32, [.int .i64 0, .int .i64 0, .string ⟨#[]⟩], .agg [(0, 3, 1), (1, 3, 1), (2, 9, 1)]⟩),
(81, ⟨3, 32, [.int .i64 0, .int .i64 0, .string ⟨#[]⟩], .agg [(0, 3, 1), (1, 3, 1), (2, 9, 1)]⟩),
(98, ⟨4, 32, [.int .i64 0, .int .i64 0, .int .i64 0, .int .i64 0], .agg [(0, 3, 1), (1, 3, 1), (2, 3, 1), (3, 3, 1)]⟩),
(139, ⟨4, 32, [.int .i64 0, .int .i64 0, .int .i64 0, .int .i64 0], .agg [(0, 3, 1), (1, 3, 1), (2, 3, 1), (3, 3, 1)]⟩)]
theorem tl_ok : ∀ p ∈ tl, tyI Try.prog p.1 = some p.2 := by
  refine List.forall_mem_cons.2 ⟨by kernel_rfl, ?_⟩
  refine List.forall_mem_cons.2 ⟨by kernel_rfl, ?_⟩
  refine List.forall_mem_cons.2 ⟨by kernel_rfl, ?_⟩
  refine List.forall_mem_cons.2 ⟨by kernel_rfl, ?_⟩
  refine List.forall_mem_cons.2 ⟨by kernel_rfl, ?_⟩
  refine List.forall_mem_cons.2 ⟨by kernel_rfl, ?_⟩
  refine List.forall_mem_cons.2 ⟨by kernel_rfl, ?_⟩
  refine List.forall_mem_cons.2 ⟨by kernel_rfl, ?_⟩
  refine List.forall_mem_cons.2 ⟨by kernel_rfl, ?_⟩
  refine List.forall_mem_cons.2 ⟨by kernel_rfl, ?_⟩
  refine List.forall_mem_cons.2 ⟨by kernel_rfl, ?_⟩
  refine List.forall_mem_cons.2 ⟨by kernel_rfl, ?_⟩
  refine List.forall_mem_cons.2 ⟨by kernel_rfl, ?_⟩
  refine List.forall_mem_cons.2 ⟨by kernel_rfl, ?_⟩
  refine List.forall_mem_cons.2 ⟨by kernel_rfl, ?_⟩
  refine List.forall_mem_cons.2 ⟨by kernel_rfl, ?_⟩
  refine List.forall_mem_cons.2 ⟨by kernel_rfl, ?_⟩
  refine List.forall_mem_cons.2 ⟨by kernel_rfl, ?_⟩
  exact fun _ h => by cases h
noncomputable def E : Env := ⟨Try.prog, lk tl, fun t i h => tl_ok (t, i) (lk_mem _ _ _ h), by kernel_rfl⟩
set_option maxHeartbeats 4000000 in
theorem impl_within_fn (n : Int) (x : Int) (y : Int) : Eng.Fn E.P 70 [.one (.r (.v (.int .i64 n))), .one (.r (.v (.int .i64 x))), .one (.r (.v (.int .i64 y)))] (.one (.one (.w (.v (.bool (inR n x y)))))) [.one (.r (.v (.int .i64 n))), .one (.r (.v (.int .i64 x))), .one (.r (.v (.int .i64 y)))] := by
 refine Eng.Fn.intro (E := E) (rvs := [.tmp 6]) Try.func70 rfl rfl rfl (by simp [outSlots, moved, rvSlot, sl]) ?_
 intro B g bo
 refine CW.le [(0, I n), (1, I x), (2, I y)] rfl (Le.of rfl) ?_
 refine CW.seq ?_
 refine CW.region ?_
 refine RW.v rfl (V.as (d := Bo false) rfl rfl) ?_
 refine RW.nil ?_
 refine CW.le [(0, I n), (1, I x), (2, I y)] rfl (Le.of rfl) ?_
 refine CW.seqJ 15 (fun (v1 : Bool) => [(6, Bo v1)]) (fun v1 => v1 = (decide (n ≥ x) && decide (n ≤ y))) ?_ ?_
 ·refine CW.region ?_
  refine RW.v rfl (V.mv (d := I n) rfl rfl) ?_
  refine RW.v rfl (V.mv (d := I x) rfl rfl) ?_
  refine RW.v rfl (V.cmpInt rfl rfl rfl rfl) ?_
  refine RW.v rfl (V.mv (d := Bo (decide (n ≥ x))) rfl rfl) ?_
  refine RW.gv rfl rfl rfl rfl (fun h2 => V.mv (d := I n) rfl rfl) (fun h2 => ?_) (fun h2 => ?_)
  ·skip
   refine RW.gt rfl rfl rfl rfl (V.mv (d := I y) rfl rfl) ?_
   refine RW.gt rfl rfl rfl rfl (V.cmpInt rfl rfl rfl rfl) ?_
   refine RW.v rfl (V.pickT (d := Bo (decide (n ≤ y))) rfl rfl rfl) ?_
   refine RW.v rfl (V.as (d := Bo (decide (n ≤ y))) rfl rfl) ?_
   refine RW.nil ?_
   exact ⟨_, by first | rfl | (simp_all; done) | (simp_all; omega) | grind, rfl, Le.c rfl <| Le.e⟩
  ·skip
   refine RW.guardF rfl rfl rfl rfl ?_
   refine RW.guardF rfl rfl rfl rfl ?_
   refine RW.v rfl (V.pickF (d := Bo false) rfl rfl rfl) ?_
   refine RW.v rfl (V.as (d := Bo false) rfl rfl) ?_
   refine RW.nil ?_
   exact ⟨_, by first | rfl | (simp_all; done) | (simp_all; omega) | grind, rfl, Le.c rfl <| Le.e⟩
 ·intro v1 hv3
  refine CW.ret ?_
  exact Post.one (RV.b rfl (by simp_all [inR])) (AOs.r (AOs.r (AOs.r AOs.e)))
set_option maxHeartbeats 4000000 in
theorem spec_l01In_fn (n : Int) (x : Int) (y : Int) : Eng.Fn E.P 56 [.one (.r (.v (.int .i64 n))), .one (.r (.v (.int .i64 x))), .one (.r (.v (.int .i64 y)))] (.one (.one (.w (.v (.bool (inR n x y)))))) [.one (.r (.v (.int .i64 n))), .one (.r (.v (.int .i64 x))), .one (.r (.v (.int .i64 y)))] := by
 refine Eng.Fn.intro (E := E) (rvs := [.tmp 6]) Try.func56 rfl rfl rfl (by simp [outSlots, moved, rvSlot, sl]) ?_
 intro B g bo
 refine CW.le [(0, I n), (1, I x), (2, I y)] rfl (Le.of rfl) ?_
 refine CW.seq ?_
 refine CW.region ?_
 refine RW.v rfl (V.as (d := Bo false) rfl rfl) ?_
 refine RW.nil ?_
 refine CW.le [(0, I n), (1, I x), (2, I y)] rfl (Le.of rfl) ?_
 refine CW.seqJ 15 (fun (v1 : Bool) => [(6, Bo v1)]) (fun v1 => v1 = (decide (n ≥ x) && decide (n ≤ y))) ?_ ?_
 ·refine CW.region ?_
  refine RW.v rfl (V.mv (d := I n) rfl rfl) ?_
  refine RW.v rfl (V.mv (d := I x) rfl rfl) ?_
  refine RW.v rfl (V.cmpInt rfl rfl rfl rfl) ?_
  refine RW.v rfl (V.mv (d := Bo (decide (n ≥ x))) rfl rfl) ?_
  refine RW.gv rfl rfl rfl rfl (fun h2 => V.mv (d := I n) rfl rfl) (fun h2 => ?_) (fun h2 => ?_)
  ·skip
   refine RW.gt rfl rfl rfl rfl (V.mv (d := I y) rfl rfl) ?_
   refine RW.gt rfl rfl rfl rfl (V.cmpInt rfl rfl rfl rfl) ?_
   refine RW.v rfl (V.pickT (d := Bo (decide (n ≤ y))) rfl rfl rfl) ?_
   refine RW.v rfl (V.as (d := Bo (decide (n ≤ y))) rfl rfl) ?_
   refine RW.nil ?_
   exact ⟨_, by first | rfl | (simp_all; done) | (simp_all; omega) | grind, rfl, Le.c rfl <| Le.e⟩
  ·skip
   refine RW.guardF rfl rfl rfl rfl ?_
   refine RW.guardF rfl rfl rfl rfl ?_
   refine RW.v rfl (V.pickF (d := Bo false) rfl rfl rfl) ?_
   refine RW.v rfl (V.as (d := Bo false) rfl rfl) ?_
   refine RW.nil ?_
   exact ⟨_, by first | rfl | (simp_all; done) | (simp_all; omega) | grind, rfl, Le.c rfl <| Le.e⟩
 ·intro v1 hv3
  refine CW.ret ?_
  exact Post.one (RV.b rfl (by simp_all [inR])) (AOs.r (AOs.r (AOs.r AOs.e)))
set_option maxHeartbeats 4000000 in
theorem impl_isNode_fn (n : Int) : Eng.Fn E.P 66 [.one (.r (.v (.int .i64 n)))] (.one (.one (.w (.v (.bool (inR n 1 4)))))) [.one (.r (.v (.int .i64 n)))] := by
 refine Eng.Fn.intro (E := E) (rvs := [.tmp 2]) Try.func66 rfl rfl rfl (by simp [outSlots, moved, rvSlot, sl]) ?_
 intro B g bo
 refine CW.le [(0, I n)] rfl (Le.of rfl) ?_
 refine CW.seq ?_
 refine CW.region ?_
 refine RW.v rfl (V.as (d := Bo false) rfl rfl) ?_
 refine RW.nil ?_
 refine CW.le [(0, I n)] rfl (Le.of rfl) ?_
 refine CW.seq ?_
 refine CW.region ?_
 refine RW.v rfl (V.mv (d := I n) rfl rfl) ?_
 refine RW.call rfl (impl_within_fn n 1 4) rfl (.cons (.one (.r .r)) (.cons (.one (.r .r)) (.cons (.one (.r .r)) (.nil)))) fun g1 => ?_
 refine RW.v rfl (V.as (d := Bo (inR n 1 4)) rfl rfl) ?_
 refine RW.nil ?_
 refine CW.le [(2, Bo (inR n 1 4))] rfl (Le.of rfl) ?_
 refine CW.ret ?_
 exact Post.one (RV.b rfl (by rfl)) (AOs.r AOs.e)
set_option maxHeartbeats 4000000 in
theorem impl_nodesOk_fn (a : List Int) : Eng.Fn E.P 71 [.one (.r (sl 1 cI a))] (.one (.one (.w (.v (.bool (riseOk 1 4 none a)))))) [.one (.r (sl 1 cI a))] := by
 refine Eng.Fn.intro (E := E) (rvs := [.tmp 2]) Try.func71 rfl rfl rfl (by simp [outSlots, moved, rvSlot, sl]) ?_
 intro B g bo
 refine CW.bound (x := .tmp 0) (n := a.length) (AsT.r) (fun hl0 => ?_)
 refine CW.le [(0, .r (sl 1 cI a))] rfl (Le.of rfl) ?_
 refine CW.seq ?_
 refine CW.region ?_
 refine RW.v rfl (V.as (d := Bo false) rfl rfl) ?_
 refine RW.nil ?_
 refine CW.le [(0, .r (sl 1 cI a))] rfl (Le.of rfl) ?_
 refine CW.seq ?_
 refine CW.seq ?_
 refine CW.region ?_
 refine RW.v rfl (V.mv (d := .r (sl 1 cI a)) rfl rfl) ?_
 refine RW.v rfl (V.lenT (n := a.length) rfl rfl rfl .r) ?_
 refine RW.v rfl (V.mv (d := I 0) rfl rfl) ?_
 refine RW.nil ?_
 refine CW.le [(0, .r (sl 1 cI a)), (5, .r (sl 1 cI a)), (6, I (a.length : Int)), (7, I 0)] rfl (Le.of rfl) ?_
 refine CW.block ?_
 refine CW.loopI 29 (fun (i : Nat) => [(0, .r (sl 1 cI a)), (5, .r (sl 1 cI a)), (6, I (a.length : Int)), (7, I (i : Int))]) (fun (i : Nat) => i ≤ a.length ∧ riseOk 1 4 (prevI a i) (a.drop i) = riseOk 1 4 none a) (fun (i : Nat) => a.length - i) 0 rfl (Le.c rfl <| Le.c rfl <| Le.c rfl <| Le.c rfl <| Le.e) ⟨by omega, by simp [prevI]⟩ ?_
 rintro i ⟨hb, hr⟩
 refine CW.seq ?_
 refine CW.region ?_
 refine RW.v rfl (V.cmpInt rfl rfl rfl rfl) ?_
 refine RW.nil ?_
 refine CW.le [(0, .r (sl 1 cI a)), (5, .r (sl 1 cI a)), (6, I (a.length : Int)), (7, I (i : Int)), (8, Bo (decide ((i : Int) < (a.length : Int))))] rfl (Le.of rfl) ?_
 refine CW.seq ?_
 refine CW.cond rfl (fun h1 => ?_) (fun h1 => ?_)
 ·skip
  have hii : i < a.length := by have := h1; simp at this; first | exact this | omega | (simp; done) | (simp; omega)
  obtain ⟨ei, hei⟩ : ∃ e, a[i]? = some e := ⟨_, List.getElem?_eq_getElem hii⟩
  have hdi := drop_get hei
  refine CW.skip ?_
  refine CW.le [(0, .r (sl 1 cI a)), (5, .r (sl 1 cI a)), (6, I (a.length : Int)), (7, I (i : Int))] rfl (Le.of rfl) ?_
  refine CW.seq ?_
  refine CW.block ?_
  refine CW.seq ?_
  refine CW.region ?_
  refine RW.v rfl (V.mv (d := I (i : Int)) rfl rfl) ?_
  refine RW.v rfl (V.indexS rfl rfl rfl rfl rfl rfl cI.len hei) ?_
  refine RW.v rfl (V.loadPrimR (t0 := .v (.int .i64 ei)) rfl rfl (.inl rfl) rfl rfl) ?_
  refine RW.v rfl (V.as (d := I (i : Int)) rfl rfl) ?_
  refine RW.v rfl (V.as (d := I ei) rfl rfl) ?_
  refine RW.nil ?_
  refine CW.le [(0, .r (sl 1 cI a)), (3, I (i : Int)), (4, I ei), (5, .r (sl 1 cI a)), (6, I (a.length : Int)), (7, I (i : Int))] rfl (Le.of rfl) ?_
  refine CW.seqJ 29 (fun (v2 : Bool) => [(0, .r (sl 1 cI a)), (5, .r (sl 1 cI a)), (6, I (a.length : Int)), (7, I (i : Int)), (27, Bo v2)]) (fun v2 => v2 = ((!(inR ei 1 4)) || (decide ((i : Int) > 0) && decide ((a.getD (i - 1) 0) ≥ ei)))) ?_ ?_
  ·refine CW.region ?_
   refine RW.v rfl (V.mv (d := I ei) rfl rfl) ?_
   refine RW.call rfl (impl_isNode_fn ei) rfl (.cons (.one (.r .r)) (.nil)) fun g3 => ?_
   refine RW.v rfl (V.not rfl rfl) ?_
   refine RW.v rfl (V.mv (d := Bo (!(inR ei 1 4))) rfl rfl) ?_
   refine RW.gv rfl rfl rfl rfl (fun h4 => V.mv (d := I (i : Int)) rfl rfl) (fun h4 => ?_) (fun h4 => ?_)
   ·skip
    refine RW.gt rfl rfl rfl rfl (V.cmpInt rfl rfl rfl rfl) ?_
    refine RW.gt rfl rfl rfl rfl (V.mv (d := Bo (decide ((i : Int) > 0))) rfl rfl) ?_
    refine RW.gv rfl rfl rfl rfl (fun h5 => V.mv (d := .r (sl 1 cI a)) rfl rfl) (fun h5 => ?_) (fun h5 => ?_)
    ·skip
     refine RW.gt rfl rfl rfl rfl (V.mv (d := I (i : Int)) rfl rfl) ?_
     refine RW.gt rfl rfl rfl rfl (V.dec (m := i) rfl rfl rfl (by have := h5; simp at this; omega) (by omega)) ?_
     refine RW.gt rfl rfl rfl rfl (V.indexS rfl rfl rfl rfl rfl rfl cI.len (getD_some (l := a) (j := i - 1) (z := 0) (by omega))) ?_
     refine RW.gt rfl rfl rfl rfl (V.loadPrimR (t0 := .v (.int .i64 (a.getD (i - 1) 0))) rfl rfl (.inl rfl) rfl rfl) ?_
     refine RW.gt rfl rfl rfl rfl (V.mv (d := I ei) rfl rfl) ?_
     refine RW.gt rfl rfl rfl rfl (V.cmpInt rfl rfl rfl rfl) ?_
     refine RW.gt rfl rfl rfl rfl (V.pickT (d := Bo (decide ((a.getD (i - 1) 0) ≥ ei))) rfl rfl rfl) ?_
     refine RW.v rfl (V.pickF (d := Bo (decide ((a.getD (i - 1) 0) ≥ ei))) rfl rfl rfl) ?_
     refine RW.nil ?_
     exact ⟨_, by first | rfl | (simp_all; done) | (simp_all; omega) | grind, rfl, Le.c rfl <| Le.c rfl <| Le.c rfl <| Le.c rfl <| Le.c rfl <| Le.e⟩
    ·skip
     refine RW.guardF rfl rfl rfl rfl ?_
     refine RW.guardF rfl rfl rfl rfl ?_
     refine RW.guardF rfl rfl rfl rfl ?_
     refine RW.guardF rfl rfl rfl rfl ?_
     refine RW.guardF rfl rfl rfl rfl ?_
     refine RW.guardF rfl rfl rfl rfl ?_
     refine RW.gt rfl rfl rfl rfl (V.pickF (d := Bo false) rfl rfl rfl) ?_
     refine RW.v rfl (V.pickF (d := Bo false) rfl rfl rfl) ?_
     refine RW.nil ?_
     exact ⟨_, by first | rfl | (simp_all; done) | (simp_all; omega) | grind, rfl, Le.c rfl <| Le.c rfl <| Le.c rfl <| Le.c rfl <| Le.c rfl <| Le.e⟩
   ·skip
    refine RW.guardF rfl rfl rfl rfl ?_
    refine RW.guardF rfl rfl rfl rfl ?_
    refine RW.guardU rfl rfl rfl rfl ?_
    refine RW.guardU rfl rfl rfl rfl ?_
    refine RW.guardU rfl rfl rfl rfl ?_
    refine RW.guardU rfl rfl rfl rfl ?_
    refine RW.guardU rfl rfl rfl rfl ?_
    refine RW.guardU rfl rfl rfl rfl ?_
    refine RW.guardU rfl rfl rfl rfl ?_
    refine RW.guardF rfl rfl rfl rfl ?_
    refine RW.v rfl (V.pickT (d := Bo true) rfl rfl rfl) ?_
    refine RW.nil ?_
    exact ⟨_, by first | rfl | (simp_all; done) | (simp_all; omega) | grind, rfl, Le.c rfl <| Le.c rfl <| Le.c rfl <| Le.c rfl <| Le.c rfl <| Le.e⟩
  ·intro v2 hv6
   refine CW.cond rfl (fun h7 => ?_) (fun h7 => ?_)
   ·skip
    refine CW.seq ?_
    refine CW.region ?_
    refine RW.v rfl (V.as (d := Bo false) rfl rfl) ?_
    refine RW.nil ?_
    refine CW.le [(2, Bo false)] rfl (Le.of rfl) ?_
    refine CW.ret ?_
    exact Post.one (RV.b rfl (by rw [← hr, hdi, riseOk_cons]; grind [prevI])) (AOs.r AOs.e)
   ·skip
    refine CW.skip ?_
    refine CW.le [(0, .r (sl 1 cI a)), (5, .r (sl 1 cI a)), (6, I (a.length : Int)), (7, I (i : Int))] rfl (Le.of rfl) ?_
    refine CW.region ?_
    refine RW.v rfl (V.inc rfl rfl rfl hii hl0) ?_
    refine RW.v rfl (V.mv (d := I ((i + 1 : Nat) : Int)) rfl rfl) ?_
    refine RW.nil ?_
    exact ⟨i + 1, by omega, ⟨by omega, by rw [← hr, hdi, riseOk_cons, prevI_succ hei]; grind [prevI]⟩, rfl, Le.c rfl <| Le.c rfl <| Le.c rfl <| Le.c rfl <| Le.e⟩
 ·skip
  have hii : a.length ≤ i := by have := h1; simp at this; first | exact this | omega | (simp; done) | (simp; omega)
  have hdi : a.drop i = [] := List.drop_eq_nil_of_le hii
  refine CW.exit ?_
  refine CW.le [] rfl (Le.of rfl) ?_
  refine CW.seq ?_
  refine CW.region ?_
  refine RW.v rfl (V.as (d := Bo true) rfl rfl) ?_
  refine RW.nil ?_
  refine CW.le [(2, Bo true)] rfl (Le.of rfl) ?_
  refine CW.ret ?_
  exact Post.one (RV.b rfl (by rw [← hr, hdi, riseOk_nil])) (AOs.r AOs.e)
set_option maxHeartbeats 4000000 in
theorem impl_ConfOk_fn (a : List Int) : Eng.Fn E.P 67 [.one (.r (sl 1 cI a))] (.one (.one (.w (.v (.bool (confOk a)))))) [.one (.r (sl 1 cI a))] := by
 refine Eng.Fn.intro (E := E) (rvs := [.tmp 2]) Try.func67 rfl rfl rfl (by simp [outSlots, moved, rvSlot, sl]) ?_
 intro B g bo
 refine CW.bound (x := .tmp 0) (n := a.length) (AsT.r) (fun hl0 => ?_)
 refine CW.le [(0, .r (sl 1 cI a))] rfl (Le.of rfl) ?_
 refine CW.seq ?_
 refine CW.region ?_
 refine RW.v rfl (V.as (d := Bo false) rfl rfl) ?_
 refine RW.nil ?_
 refine CW.le [(0, .r (sl 1 cI a))] rfl (Le.of rfl) ?_
 refine CW.seqJ 10 (fun (v1 : Bool) => [(2, Bo v1)]) (fun v1 => v1 = (decide ((a.length : Int) > 0) && (riseOk 1 4 none a))) ?_ ?_
 ·refine CW.region ?_
  refine RW.v rfl (V.mv (d := .r (sl 1 cI a)) rfl rfl) ?_
  refine RW.v rfl (V.lenT (n := a.length) rfl rfl rfl .r) ?_
  refine RW.v rfl (V.cmpInt rfl rfl rfl rfl) ?_
  refine RW.v rfl (V.mv (d := Bo (decide ((a.length : Int) > 0))) rfl rfl) ?_
  refine RW.gv rfl rfl rfl rfl (fun h2 => V.mv (d := .r (sl 1 cI a)) rfl rfl) (fun h2 => ?_) (fun h2 => ?_)
  ·skip
   refine RW.gcall rfl rfl rfl rfl (impl_nodesOk_fn a) rfl (.cons (.one (.r .r)) (.nil)) fun g3 => ?_
   refine RW.v rfl (V.pickT (d := Bo (riseOk 1 4 none a)) rfl rfl rfl) ?_
   refine RW.v rfl (V.as (d := Bo (riseOk 1 4 none a)) rfl rfl) ?_
   refine RW.nil ?_
   exact ⟨_, by first | rfl | (simp_all; done) | (simp_all; omega) | grind, rfl, Le.c rfl <| Le.e⟩
  ·skip
   refine RW.guardF rfl rfl rfl rfl ?_
   refine RW.v rfl (V.pickF (d := Bo false) rfl rfl rfl) ?_
   refine RW.v rfl (V.as (d := Bo false) rfl rfl) ?_
   refine RW.nil ?_
   exact ⟨_, by first | rfl | (simp_all; done) | (simp_all; omega) | grind, rfl, Le.c rfl <| Le.e⟩
 ·intro v1 hv4
  refine CW.ret ?_
  exact Post.one (RV.b rfl (by (subst_vars; exact confOk_impl a))) (AOs.r AOs.e)
set_option maxHeartbeats 4000000 in
theorem spec_l05Rise_fn (a : List Int) (lo : Int) (hi : Int) : Eng.Fn E.P 60 [.one (.r (sl 1 cI a)), .one (.r (.v (.int .i64 lo))), .one (.r (.v (.int .i64 hi)))] (.one (.one (.w (.v (.bool (riseOk lo hi none a)))))) [.one (.r (sl 1 cI a)), .one (.r (.v (.int .i64 lo))), .one (.r (.v (.int .i64 hi)))] := by
 refine Eng.Fn.intro (E := E) (rvs := [.tmp 6]) Try.func60 rfl rfl rfl (by simp [outSlots, moved, rvSlot, sl]) ?_
 intro B g bo
 refine CW.bound (x := .tmp 0) (n := a.length) (AsT.r) (fun hl0 => ?_)
 refine CW.le [(0, .r (sl 1 cI a)), (1, I lo), (2, I hi)] rfl (Le.of rfl) ?_
 refine CW.seq ?_
 refine CW.region ?_
 refine RW.v rfl (V.as (d := Bo false) rfl rfl) ?_
 refine RW.nil ?_
 refine CW.le [(0, .r (sl 1 cI a)), (1, I lo), (2, I hi)] rfl (Le.of rfl) ?_
 refine CW.seq ?_
 refine CW.seq ?_
 refine CW.region ?_
 refine RW.v rfl (V.as (d := I 0) rfl rfl) ?_
 refine RW.nil ?_
 refine CW.le [(0, .r (sl 1 cI a)), (1, I lo), (2, I hi), (7, I 0)] rfl (Le.of rfl) ?_
 refine CW.block ?_
 refine CW.loopI 38 (fun (i : Nat) => [(0, .r (sl 1 cI a)), (1, I lo), (2, I hi), (7, I (i : Int))]) (fun (i : Nat) => i ≤ a.length ∧ riseOk lo hi (prevI a i) (a.drop i) = riseOk lo hi none a) (fun (i : Nat) => a.length - i) 0 rfl (Le.c rfl <| Le.c rfl <| Le.c rfl <| Le.c rfl <| Le.e) ⟨by omega, by simp [prevI]⟩ ?_
 rintro i ⟨hb, hr⟩
 refine CW.seq ?_
 refine CW.seq ?_
 refine CW.region ?_
 refine RW.v rfl (V.mv (d := I (i : Int)) rfl rfl) ?_
 refine RW.v rfl (V.mv (d := .r (sl 1 cI a)) rfl rfl) ?_
 refine RW.v rfl (V.lenT (n := a.length) rfl rfl rfl .r) ?_
 refine RW.v rfl (V.cmpInt rfl rfl rfl rfl) ?_
 refine RW.nil ?_
 refine CW.le [(0, .r (sl 1 cI a)), (1, I lo), (2, I hi), (7, I (i : Int)), (11, Bo (decide ((i : Int) < (a.length : Int))))] rfl (Le.of rfl) ?_
 refine CW.cond rfl (fun h1 => ?_) (fun h1 => ?_)
 ·skip
  have hii : i < a.length := by have := h1; simp at this; first | exact this | omega | (simp; done) | (simp; omega)
  obtain ⟨ei, hei⟩ : ∃ e, a[i]? = some e := ⟨_, List.getElem?_eq_getElem hii⟩
  have hdi := drop_get hei
  refine CW.skip ?_
  refine CW.le [(0, .r (sl 1 cI a)), (1, I lo), (2, I hi), (7, I (i : Int))] rfl (Le.of rfl) ?_
  refine CW.seq ?_
  refine CW.block ?_
  refine CW.seqJ 38 (fun (v2 : Bool) => [(0, .r (sl 1 cI a)), (1, I lo), (2, I hi), (7, I (i : Int)), (37, Bo v2)]) (fun v2 => v2 = ((!(inR ei lo hi)) || (decide ((i : Int) > 0) && decide ((a.getD (i - 1) 0) ≥ ei)))) ?_ ?_
  ·refine CW.drawn (by kernel_rfl) ?_
   refine RQ.v rfl (V.mv (d := .r (sl 1 cI a)) rfl rfl) ?_
   refine RQ.v rfl (V.mv (d := I (i : Int)) rfl rfl) ?_
   refine RQ.v rfl (V.indexS rfl rfl rfl rfl rfl rfl cI.len hei) ?_
   refine RQ.v rfl (V.loadPrimR (t0 := .v (.int .i64 ei)) rfl rfl (.inl rfl) rfl rfl) ?_
   refine RQ.v rfl (V.mv (d := I lo) rfl rfl) ?_
   refine RQ.v rfl (V.mv (d := I hi) rfl rfl) ?_
   refine RQ.cons rfl (QOK.call (spec_l01In_fn ei lo hi) rfl (.cons (.one (.r .r)) (.cons (.one (.r .r)) (.cons (.one (.r .r)) (.nil)))) ?_)
   refine RQ.v rfl (V.not rfl rfl) ?_
   refine RQ.v rfl (V.mv (d := Bo (!(inR ei lo hi))) rfl rfl) ?_
   refine RQ.gv rfl rfl rfl rfl (fun h3 => V.mv (d := I (i : Int)) rfl rfl) (fun h3 => ?_) (fun h3 => ?_)
   ·skip
    refine RQ.gt rfl rfl rfl rfl (V.cmpInt rfl rfl rfl rfl) ?_
    refine RQ.gt rfl rfl rfl rfl (V.mv (d := Bo (decide ((i : Int) > 0))) rfl rfl) ?_
    refine RQ.gv rfl rfl rfl rfl (fun h4 => V.mv (d := .r (sl 1 cI a)) rfl rfl) (fun h4 => ?_) (fun h4 => ?_)
    ·skip
     refine RQ.gt rfl rfl rfl rfl (V.mv (d := I (i : Int)) rfl rfl) ?_
     refine RQ.gt rfl rfl rfl rfl (V.dec (m := i) rfl rfl rfl (by have := h4; simp at this; omega) (by omega)) ?_
     refine RQ.gt rfl rfl rfl rfl (V.indexS rfl rfl rfl rfl rfl rfl cI.len (getD_some (l := a) (j := i - 1) (z := 0) (by omega))) ?_
     refine RQ.gt rfl rfl rfl rfl (V.loadPrimR (t0 := .v (.int .i64 (a.getD (i - 1) 0))) rfl rfl (.inl rfl) rfl rfl) ?_
     refine RQ.gt rfl rfl rfl rfl (V.mv (d := .r (sl 1 cI a)) rfl rfl) ?_
     refine RQ.gt rfl rfl rfl rfl (V.mv (d := I (i : Int)) rfl rfl) ?_
     refine RQ.gt rfl rfl rfl rfl (V.indexS rfl rfl rfl rfl rfl rfl cI.len hei) ?_
     refine RQ.gt rfl rfl rfl rfl (V.loadPrimR (t0 := .v (.int .i64 ei)) rfl rfl (.inl rfl) rfl rfl) ?_
     refine RQ.gt rfl rfl rfl rfl (V.cmpInt rfl rfl rfl rfl) ?_
     refine RQ.gt rfl rfl rfl rfl (V.pickT (d := Bo (decide ((a.getD (i - 1) 0) ≥ ei))) rfl rfl rfl) ?_
     refine RQ.v rfl (V.pickF (d := Bo (decide ((a.getD (i - 1) 0) ≥ ei))) rfl rfl rfl) ?_
     refine RQ.nil ?_
     exact ⟨_, by first | rfl | (simp_all; done) | (simp_all; omega) | grind, rfl, Le.c rfl <| Le.c rfl <| Le.c rfl <| Le.c rfl <| Le.c rfl <| Le.e⟩
    ·skip
     refine RQ.guardF rfl rfl rfl rfl ?_
     refine RQ.guardF rfl rfl rfl rfl ?_
     refine RQ.guardF rfl rfl rfl rfl ?_
     refine RQ.guardF rfl rfl rfl rfl ?_
     refine RQ.guardF rfl rfl rfl rfl ?_
     refine RQ.guardF rfl rfl rfl rfl ?_
     refine RQ.guardF rfl rfl rfl rfl ?_
     refine RQ.guardF rfl rfl rfl rfl ?_
     refine RQ.guardF rfl rfl rfl rfl ?_
     refine RQ.gt rfl rfl rfl rfl (V.pickF (d := Bo false) rfl rfl rfl) ?_
     refine RQ.v rfl (V.pickF (d := Bo false) rfl rfl rfl) ?_
     refine RQ.nil ?_
     exact ⟨_, by first | rfl | (simp_all; done) | (simp_all; omega) | grind, rfl, Le.c rfl <| Le.c rfl <| Le.c rfl <| Le.c rfl <| Le.c rfl <| Le.e⟩
   ·skip
    refine RQ.guardF rfl rfl rfl rfl ?_
    refine RQ.guardF rfl rfl rfl rfl ?_
    refine RQ.guardU rfl rfl rfl rfl ?_
    refine RQ.guardU rfl rfl rfl rfl ?_
    refine RQ.guardU rfl rfl rfl rfl ?_
    refine RQ.guardU rfl rfl rfl rfl ?_
    refine RQ.guardU rfl rfl rfl rfl ?_
    refine RQ.guardU rfl rfl rfl rfl ?_
    refine RQ.guardU rfl rfl rfl rfl ?_
    refine RQ.guardU rfl rfl rfl rfl ?_
    refine RQ.guardU rfl rfl rfl rfl ?_
    refine RQ.guardU rfl rfl rfl rfl ?_
    refine RQ.guardF rfl rfl rfl rfl ?_
    refine RQ.v rfl (V.pickT (d := Bo true) rfl rfl rfl) ?_
    refine RQ.nil ?_
    exact ⟨_, by first | rfl | (simp_all; done) | (simp_all; omega) | grind, rfl, Le.c rfl <| Le.c rfl <| Le.c rfl <| Le.c rfl <| Le.c rfl <| Le.e⟩
  ·intro v2 hv5
   refine CW.cond rfl (fun h6 => ?_) (fun h6 => ?_)
   ·skip
    refine CW.seq ?_
    refine CW.region ?_
    refine RW.v rfl (V.as (d := Bo false) rfl rfl) ?_
    refine RW.nil ?_
    refine CW.le [(6, Bo false)] rfl (Le.of rfl) ?_
    refine CW.ret ?_
    exact Post.one (RV.b rfl (by rw [← hr, hdi, riseOk_cons]; grind [prevI])) (AOs.r (AOs.r (AOs.r AOs.e)))
   ·skip
    refine CW.skip ?_
    refine CW.le [(0, .r (sl 1 cI a)), (1, I lo), (2, I hi), (7, I (i : Int))] rfl (Le.of rfl) ?_
    refine CW.region ?_
    refine RW.v rfl (V.mv (d := I (i : Int)) rfl rfl) ?_
    refine RW.v rfl (V.inc rfl rfl rfl hii hl0) ?_
    refine RW.v rfl (V.as (d := I ((i + 1 : Nat) : Int)) rfl rfl) ?_
    refine RW.nil ?_
    exact ⟨i + 1, by omega, ⟨by omega, by rw [← hr, hdi, riseOk_cons, prevI_succ hei]; grind [prevI]⟩, rfl, Le.c rfl <| Le.c rfl <| Le.c rfl <| Le.c rfl <| Le.e⟩
 ·skip
  have hii : a.length ≤ i := by have := h1; simp at this; first | exact this | omega | (simp; done) | (simp; omega)
  have hdi : a.drop i = [] := List.drop_eq_nil_of_le hii
  refine CW.exit ?_
  refine CW.le [] rfl (Le.of rfl) ?_
  refine CW.seq ?_
  refine CW.region ?_
  refine RW.v rfl (V.as (d := Bo true) rfl rfl) ?_
  refine RW.nil ?_
  refine CW.le [(6, Bo true)] rfl (Le.of rfl) ?_
  refine CW.ret ?_
  exact Post.one (RV.b rfl (by rw [← hr, hdi, riseOk_nil])) (AOs.r (AOs.r (AOs.r AOs.e)))
set_option maxHeartbeats 4000000 in
theorem spec_ConfOk_fn (a : List Int) : Eng.Fn E.P 57 [.one (.r (sl 1 cI a))] (.one (.one (.w (.v (.bool (confOk a)))))) [.one (.r (sl 1 cI a))] := by
 refine Eng.Fn.intro (E := E) (rvs := [.tmp 2]) Try.func57 rfl rfl rfl (by simp [outSlots, moved, rvSlot, sl]) ?_
 intro B g bo
 refine CW.bound (x := .tmp 0) (n := a.length) (AsT.r) (fun hl0 => ?_)
 refine CW.le [(0, .r (sl 1 cI a))] rfl (Le.of rfl) ?_
 refine CW.seq ?_
 refine CW.region ?_
 refine RW.v rfl (V.as (d := Bo false) rfl rfl) ?_
 refine RW.nil ?_
 refine CW.le [(0, .r (sl 1 cI a))] rfl (Le.of rfl) ?_
 refine CW.seqJ 10 (fun (v1 : Bool) => [(2, Bo v1)]) (fun v1 => v1 = ((inR (a.length : Int) 1 4) && (riseOk 1 4 none a))) ?_ ?_
 ·refine CW.region ?_
  refine RW.v rfl (V.mv (d := .r (sl 1 cI a)) rfl rfl) ?_
  refine RW.v rfl (V.lenT (n := a.length) rfl rfl rfl .r) ?_
  refine RW.call rfl (spec_l01In_fn (a.length : Int) 1 4) rfl (.cons (.one (.r .r)) (.cons (.one (.r .r)) (.cons (.one (.r .r)) (.nil)))) fun g2 => ?_
  refine RW.v rfl (V.mv (d := Bo (inR (a.length : Int) 1 4)) rfl rfl) ?_
  refine RW.gv rfl rfl rfl rfl (fun h3 => V.mv (d := .r (sl 1 cI a)) rfl rfl) (fun h3 => ?_) (fun h3 => ?_)
  ·skip
   refine RW.gcall rfl rfl rfl rfl (spec_l05Rise_fn a 1 4) rfl (.cons (.one (.r .r)) (.cons (.one (.r .r)) (.cons (.one (.r .r)) (.nil)))) fun g4 => ?_
   refine RW.v rfl (V.pickT (d := Bo (riseOk 1 4 none a)) rfl rfl rfl) ?_
   refine RW.v rfl (V.as (d := Bo (riseOk 1 4 none a)) rfl rfl) ?_
   refine RW.nil ?_
   exact ⟨_, by first | rfl | (simp_all; done) | (simp_all; omega) | grind, rfl, Le.c rfl <| Le.e⟩
  ·skip
   refine RW.guardF rfl rfl rfl rfl ?_
   refine RW.v rfl (V.pickF (d := Bo false) rfl rfl rfl) ?_
   refine RW.v rfl (V.as (d := Bo false) rfl rfl) ?_
   refine RW.nil ?_
   exact ⟨_, by first | rfl | (simp_all; done) | (simp_all; omega) | grind, rfl, Le.c rfl <| Le.e⟩
 ·intro v1 hv5
  refine CW.ret ?_
  exact Post.one (RV.b rfl (by simp_all [confOk])) (AOs.r AOs.e)
set_option maxHeartbeats 4000000 in
theorem impl_isIndex_fn (n : Int) : Eng.Fn E.P 119 [.one (.r (.v (.int .i64 n)))] (.one (.one (.w (.v (.bool (inR n 0 1000000)))))) [.one (.r (.v (.int .i64 n)))] := by
 refine Eng.Fn.intro (E := E) (rvs := [.tmp 2]) Try.func119 rfl rfl rfl (by simp [outSlots, moved, rvSlot, sl]) ?_
 intro B g bo
 refine CW.le [(0, I n)] rfl (Le.of rfl) ?_
 refine CW.seq ?_
 refine CW.region ?_
 refine RW.v rfl (V.as (d := Bo false) rfl rfl) ?_
 refine RW.nil ?_
 refine CW.le [(0, I n)] rfl (Le.of rfl) ?_
 refine CW.seq ?_
 refine CW.region ?_
 refine RW.v rfl (V.mv (d := I n) rfl rfl) ?_
 refine RW.call rfl (impl_within_fn n 0 1000000) rfl (.cons (.one (.r .r)) (.cons (.one (.r .r)) (.cons (.one (.r .r)) (.nil)))) fun g1 => ?_
 refine RW.v rfl (V.as (d := Bo (inR n 0 1000000)) rfl rfl) ?_
 refine RW.nil ?_
 refine CW.le [(2, Bo (inR n 0 1000000))] rfl (Le.of rfl) ?_
 refine CW.ret ?_
 exact Post.one (RV.b rfl (by rfl)) (AOs.r AOs.e)
set_option maxHeartbeats 4000000 in
theorem impl_isTerm_fn (n : Int) : Eng.Fn E.P 120 [.one (.r (.v (.int .i64 n)))] (.one (.one (.w (.v (.bool (inR n 0 100000)))))) [.one (.r (.v (.int .i64 n)))] := by
 refine Eng.Fn.intro (E := E) (rvs := [.tmp 2]) Try.func120 rfl rfl rfl (by simp [outSlots, moved, rvSlot, sl]) ?_
 intro B g bo
 refine CW.le [(0, I n)] rfl (Le.of rfl) ?_
 refine CW.seq ?_
 refine CW.region ?_
 refine RW.v rfl (V.as (d := Bo false) rfl rfl) ?_
 refine RW.nil ?_
 refine CW.le [(0, I n)] rfl (Le.of rfl) ?_
 refine CW.seq ?_
 refine CW.region ?_
 refine RW.v rfl (V.mv (d := I n) rfl rfl) ?_
 refine RW.call rfl (impl_within_fn n 0 100000) rfl (.cons (.one (.r .r)) (.cons (.one (.r .r)) (.cons (.one (.r .r)) (.nil)))) fun g1 => ?_
 refine RW.v rfl (V.as (d := Bo (inR n 0 100000)) rfl rfl) ?_
 refine RW.nil ?_
 refine CW.le [(2, Bo (inR n 0 100000))] rfl (Le.of rfl) ?_
 refine CW.ret ?_
 exact Post.one (RV.b rfl (by rfl)) (AOs.r AOs.e)
set_option maxHeartbeats 4000000 in
theorem impl_votesOk_fn (n : Int) (m : Int) : Eng.Fn E.P 69 [.one (.r (.v (.int .i64 n))), .one (.r (.v (.int .i64 m)))] (.one (.one (.w (.v (.bool (inR n 0 100000 && inR m 0 4)))))) [.one (.r (.v (.int .i64 n))), .one (.r (.v (.int .i64 m)))] := by
 refine Eng.Fn.intro (E := E) (rvs := [.tmp 4]) Try.func69 rfl rfl rfl (by simp [outSlots, moved, rvSlot, sl]) ?_
 intro B g bo
 refine CW.le [(0, I n), (1, I m)] rfl (Le.of rfl) ?_
 refine CW.seq ?_
 refine CW.region ?_
 refine RW.v rfl (V.as (d := Bo false) rfl rfl) ?_
 refine RW.nil ?_
 refine CW.le [(0, I n), (1, I m)] rfl (Le.of rfl) ?_
 refine CW.seqJ 11 (fun (v1 : Bool) => [(4, Bo v1)]) (fun v1 => v1 = ((inR n 0 100000) && (inR m 0 4))) ?_ ?_
 ·refine CW.region ?_
  refine RW.v rfl (V.mv (d := I n) rfl rfl) ?_
  refine RW.call rfl (impl_isTerm_fn n) rfl (.cons (.one (.r .r)) (.nil)) fun g2 => ?_
  refine RW.v rfl (V.mv (d := Bo (inR n 0 100000)) rfl rfl) ?_
  refine RW.gv rfl rfl rfl rfl (fun h3 => V.mv (d := I m) rfl rfl) (fun h3 => ?_) (fun h3 => ?_)
  ·skip
   refine RW.gcall rfl rfl rfl rfl (impl_within_fn m 0 4) rfl (.cons (.one (.r .r)) (.cons (.one (.r .r)) (.cons (.one (.r .r)) (.nil)))) fun g4 => ?_
   refine RW.v rfl (V.pickT (d := Bo (inR m 0 4)) rfl rfl rfl) ?_
   refine RW.v rfl (V.as (d := Bo (inR m 0 4)) rfl rfl) ?_
   refine RW.nil ?_
   exact ⟨_, by first | rfl | (simp_all; done) | (simp_all; omega) | grind, rfl, Le.c rfl <| Le.e⟩
  ·skip
   refine RW.guardF rfl rfl rfl rfl ?_
   refine RW.v rfl (V.pickF (d := Bo false) rfl rfl rfl) ?_
   refine RW.v rfl (V.as (d := Bo false) rfl rfl) ?_
   refine RW.nil ?_
   exact ⟨_, by first | rfl | (simp_all; done) | (simp_all; omega) | grind, rfl, Le.c rfl <| Le.e⟩
 ·intro v1 hv5
  refine CW.ret ?_
  exact Post.one (RV.b rfl (by simp_all)) (AOs.r (AOs.r AOs.e))
set_option maxHeartbeats 4000000 in
theorem impl_ReadConf_fn (s : ByteArray) (hm : s.size ≤ 1048576) : Eng.Fn E.P 127 [.one (.r (.v (.string s)))] (.tup [.one (.w (sl 1 cI ((readConf s).1))), .one (.w (.v (.bool ((readConf s).2))))]) [.one (.r (.v (.string s)))] := by
 refine Eng.Fn.intro (E := E) (rvs := [.tmp 2, .tmp 3]) Try.func127 rfl rfl rfl (by simp [outSlots, moved, rvSlot, sl]) ?_
 intro B g bo
 refine CW.le [(0, S s)] rfl (Le.of rfl) ?_
 refine CW.seq ?_
 refine CW.region ?_
 refine RW.v rfl (V.as (d := .r (.v (.slice none 0 0))) rfl rfl) ?_
 refine RW.v rfl (V.as (d := Bo false) rfl rfl) ?_
 refine RW.nil ?_
 refine CW.le [(0, S s)] rfl (Le.of rfl) ?_
 refine CW.seq ?_
 refine CW.region ?_
 refine RW.build0 cI rfl rfl rfl rfl rfl fun X1 => ?_
 refine RW.assignMove rfl rfl rfl (by decide) (Nat.le_of_ble_eq_true rfl) (Nat.le_of_ble_eq_true rfl) ?_
 refine RW.nil ?_
 refine CW.le [(0, S s), (4, .w (sl 1 cI ([] : List Int)) X1)] rfl (Le.of rfl) ?_
 refine CW.seq ?_
 refine CW.seq ?_
 refine CW.region ?_
 refine RW.v rfl (V.as (d := I 0) rfl rfl) ?_
 refine RW.nil ?_
 refine CW.le [(0, S s), (4, .w (sl 1 cI ([] : List Int)) X1), (5, I 0)] rfl (Le.of rfl) ?_
 refine CW.block ?_
 refine CW.loopI 24 (fun (x : Nat × Value) => match x with | (i, X) => [(0, S s), (4, .w (sl 1 cI (bys s i)) X), (5, I (i : Int))]) (fun (x : Nat × Value) => match x with | (i, X) => i ≤ s.size) (fun (x : Nat × Value) => match x with | (i, X) => s.size - i) (0, _) rfl (Le.c rfl <| Le.c rfl <| Le.c rfl <| Le.e) (by omega) ?_
 rintro ⟨i, X⟩ hb
 refine CW.seq ?_
 refine CW.seq ?_
 refine CW.region ?_
 refine RW.v rfl (V.mv (d := I (i : Int)) rfl rfl) ?_
 refine RW.v rfl (V.mv (d := S s) rfl rfl) ?_
 refine RW.v rfl (V.lenStr rfl (by kernel_rfl) rfl) ?_
 refine RW.v rfl (V.cmpInt rfl rfl rfl rfl) ?_
 refine RW.nil ?_
 refine CW.le [(0, S s), (4, .w (sl 1 cI (bys s i)) X), (5, I (i : Int)), (10, Bo (decide ((i : Int) < (s.size : Int))))] rfl (Le.of rfl) ?_
 refine CW.cond rfl (fun h2 => ?_) (fun h2 => ?_)
 ·skip
  have hlt : i < s.size := by simpa using h2
  refine CW.skip ?_
  refine CW.le [(0, S s), (4, .w (sl 1 cI (bys s i)) X), (5, I (i : Int))] rfl (Le.of rfl) ?_
  refine CW.seq ?_
  refine CW.block ?_
  refine CW.region ?_
  refine RW.v rfl (V.mv (d := .al 4 none 1 ((bys s i).length) X 0) rfl rfl) ?_
  refine RW.v rfl (V.mv (d := S s) rfl rfl) ?_
  refine RW.v rfl (V.mv (d := I (i : Int)) rfl rfl) ?_
  refine RW.v rfl (V.idxStr (m := i) rfl (by kernel_rfl) rfl rfl hlt) ?_
  refine RW.v rfl (V.convInt (k := .i64) (k' := .u8) rfl (by kernel_rfl) (by kernel_rfl) rfl) ?_
  refine RW.build1c (c := cI) (v := (IntKind.i64.wrap (bat s i))) (u := .v (.int .i64 (IntKind.i64.wrap (bat s i)))) rfl rfl rfl rfl rfl rfl (.inl rfl) rfl rfl fun X3 => ?_
  refine RW.appendSR (c := cI) (l1 := (bys s i)) (l2 := [(IntKind.i64.wrap (bat s i))]) rfl rfl rfl rfl rfl rfl rfl rfl (.al (k := none) (i := 18) (sz := 1) (V := X3) rfl rfl nofun) (by decide) (Nat.le_of_ble_eq_true rfl) cI.len (fun _ => rfl) rfl (by simp only [maxLen, bys_len, List.length_singleton]; omega) (by simp only [maxLen, bys_len, List.length_singleton]; omega) fun X4 => ?_
  refine RW.assignMove rfl rfl rfl (by decide) (Nat.le_of_ble_eq_true rfl) (Nat.le_of_ble_eq_true rfl) ?_
  refine RW.nil ?_
  refine CW.le [(0, S s), (4, .w (sl 1 cI ((bys s i) ++ ([(IntKind.i64.wrap (bat s i))]))) X4), (5, I (i : Int))] rfl (Le.of rfl) ?_
  refine CW.region ?_
  refine RW.v rfl (V.mv (d := I (i : Int)) rfl rfl) ?_
  refine RW.v rfl (V.inc rfl rfl rfl hlt (by simp only [maxLen]; omega)) ?_
  refine RW.v rfl (V.as (d := I ((i + 1 : Nat) : Int)) rfl rfl) ?_
  refine RW.nil ?_
  exact ⟨(i + 1, _), by simp only []; omega, (by omega), rfl, Le.c rfl <| Le.c (Dw_congr (bys_succ s i).symm) <| Le.c rfl <| Le.e⟩
 ·skip
  have hi : i = s.size := by simp at h2; omega
  refine CW.exit ?_
  refine CW.le [(4, .w (sl 1 cI (bys s i)) X)] rfl (Le.of rfl) ?_
  refine CW.seq ?_
  refine CW.seq ?_
  refine CW.region ?_
  refine RW.v rfl (V.mv (d := .al 4 none 1 ((bys s i).length) X 0) rfl rfl) ?_
  refine RW.callOwn rfl (impl_ConfOk_fn (bys s i)) rfl (.cons (.one (.r (.al (k := none) (i := 4) (sz := 1) (V := X) rfl rfl nofun))) (.nil)) rfl fun g5 => ?_
  refine RW.v rfl (V.not rfl rfl) ?_
  refine RW.nil ?_
  refine CW.le [(4, .w (sl 1 cI (bys s i)) X), (22, Bo (!(confOk (bys s i))))] rfl (Le.of rfl) ?_
  refine CW.cond rfl (fun h6 => ?_) (fun h6 => ?_)
  ·skip
   refine CW.seq ?_
   refine CW.region ?_
   refine RW.v rfl (V.as (d := .r (.v (.slice none 0 0))) rfl rfl) ?_
   refine RW.v rfl (V.as (d := Bo false) rfl rfl) ?_
   refine RW.nil ?_
   refine CW.le [(2, .r (.v (.slice none 0 0))), (3, Bo false)] rfl (Le.of rfl) ?_
   refine CW.ret ?_
   exact Post.tup (by decide) (RVs.c (RV.n rfl (by rw [rc_no (i := i) (.inl hi) (by simp_all)])) (RVs.c (RV.b rfl (by rw [rc_no (i := i) (.inl hi) (by simp_all)])) RVs.e)) (AOs.r AOs.e)
  ·skip
   refine CW.skip ?_
   refine CW.le [(4, .w (sl 1 cI (bys s i)) X)] rfl (Le.of rfl) ?_
   refine CW.seq ?_
   refine CW.region ?_
   refine RW.v rfl (V.mv (d := .al 4 none 1 ((bys s i).length) X 0) rfl rfl) ?_
   refine RW.v rfl (V.as (d := .al 4 none 1 ((bys s i).length) X 0) rfl rfl) ?_
   refine RW.pullS 2 4 (by decide) rfl rfl ?_
   refine RW.v rfl (V.as (d := Bo true) rfl rfl) ?_
   refine RW.nil ?_
   refine CW.le [(2, .w (sl 1 cI (bys s i)) X), (3, Bo true)] rfl (Le.of rfl) ?_
   refine CW.ret ?_
   exact Post.tup (by decide) (RVs.c (RV.w rfl (by rw [rc_yes (i := i) (by simp_all [bys_len])])) (RVs.c (RV.b rfl (by rw [rc_yes (i := i) (by simp_all [bys_len])])) RVs.e)) (AOs.r AOs.e)
set_option maxHeartbeats 4000000 in
theorem spec_ReadConf_fn (s : ByteArray) (hm : s.size ≤ 1048576) : Eng.Fn E.P 90 [.one (.r (.v (.string s)))] (.tup [.one (.w (sl 1 cI ((readConf s).1))), .one (.w (.v (.bool ((readConf s).2))))]) [.one (.r (.v (.string s)))] := by
 refine Eng.Fn.intro (E := E) (rvs := [.tmp 2, .tmp 3]) Try.func90 rfl rfl rfl (by simp [outSlots, moved, rvSlot, sl]) ?_
 intro B g bo
 refine CW.le [(0, S s)] rfl (Le.of rfl) ?_
 refine CW.seq ?_
 refine CW.region ?_
 refine RW.v rfl (V.as (d := .r (.v (.slice none 0 0))) rfl rfl) ?_
 refine RW.v rfl (V.as (d := Bo false) rfl rfl) ?_
 refine RW.nil ?_
 refine CW.le [(0, S s)] rfl (Le.of rfl) ?_
 refine CW.seq ?_
 refine CW.region ?_
 refine RW.build0 cI rfl rfl rfl rfl rfl fun X1 => ?_
 refine RW.assignMove rfl rfl rfl (by decide) (Nat.le_of_ble_eq_true rfl) (Nat.le_of_ble_eq_true rfl) ?_
 refine RW.nil ?_
 refine CW.le [(0, S s), (4, .w (sl 1 cI ([] : List Int)) X1)] rfl (Le.of rfl) ?_
 refine CW.seq ?_
 refine CW.seq ?_
 refine CW.region ?_
 refine RW.v rfl (V.as (d := I 0) rfl rfl) ?_
 refine RW.nil ?_
 refine CW.le [(0, S s), (4, .w (sl 1 cI ([] : List Int)) X1), (5, I 0)] rfl (Le.of rfl) ?_
 refine CW.block ?_
 refine CW.loopI 36 (fun (x : Nat × Value) => match x with | (i, X) => [(0, S s), (4, .w (sl 1 cI (bys s i)) X), (5, I (i : Int))]) (fun (x : Nat × Value) => match x with | (i, X) => i ≤ s.size ∧ i ≤ 5) (fun (x : Nat × Value) => match x with | (i, X) => s.size - i) (0, _) rfl (Le.c rfl <| Le.c rfl <| Le.c rfl <| Le.e) ⟨by omega, by omega⟩ ?_
 rintro ⟨i, X⟩ ⟨hb, hq⟩
 refine CW.seq ?_
 refine CW.seqJ 36 (fun (v2 : Bool) => [(0, S s), (4, .w (sl 1 cI (bys s i)) X), (5, I (i : Int)), (14, Bo v2)]) (fun v2 => v2 = (decide ((i : Int) < (s.size : Int)) && decide ((i : Int) ≤ 4))) ?_ ?_
 ·refine CW.region ?_
  refine RW.v rfl (V.mv (d := I (i : Int)) rfl rfl) ?_
  refine RW.v rfl (V.mv (d := S s) rfl rfl) ?_
  refine RW.v rfl (V.lenStr rfl (by kernel_rfl) rfl) ?_
  refine RW.v rfl (V.cmpInt rfl rfl rfl rfl) ?_
  refine RW.v rfl (V.mv (d := Bo (decide ((i : Int) < (s.size : Int)))) rfl rfl) ?_
  refine RW.gv rfl rfl rfl rfl (fun h3 => V.mv (d := I (i : Int)) rfl rfl) (fun h3 => ?_) (fun h3 => ?_)
  ·skip
   refine RW.gt rfl rfl rfl rfl (V.cmpInt rfl rfl rfl rfl) ?_
   refine RW.v rfl (V.pickT (d := Bo (decide ((i : Int) ≤ 4))) rfl rfl rfl) ?_
   refine RW.nil ?_
   exact ⟨_, by first | rfl | (simp_all; done) | (simp_all; omega) | grind, rfl, Le.c rfl <| Le.c rfl <| Le.c rfl <| Le.c rfl <| Le.e⟩
  ·skip
   refine RW.guardF rfl rfl rfl rfl ?_
   refine RW.v rfl (V.pickF (d := Bo false) rfl rfl rfl) ?_
   refine RW.nil ?_
   exact ⟨_, by first | rfl | (simp_all; done) | (simp_all; omega) | grind, rfl, Le.c rfl <| Le.c rfl <| Le.c rfl <| Le.c rfl <| Le.e⟩
 ·intro v2 hv4
  refine CW.cond rfl (fun h5 => ?_) (fun h5 => ?_)
  ·skip
   have hlt : i < s.size := by rw [hv4] at h5; simp at h5; omega
   have hl4 : i ≤ 4 := by rw [hv4] at h5; simp at h5; omega
   refine CW.skip ?_
   refine CW.le [(0, S s), (4, .w (sl 1 cI (bys s i)) X), (5, I (i : Int))] rfl (Le.of rfl) ?_
   refine CW.seq ?_
   refine CW.block ?_
   refine CW.region ?_
   refine RW.v rfl (V.mv (d := .al 4 none 1 ((bys s i).length) X 0) rfl rfl) ?_
   refine RW.v rfl (V.mv (d := S s) rfl rfl) ?_
   refine RW.v rfl (V.mv (d := I (i : Int)) rfl rfl) ?_
   refine RW.v rfl (V.idxStr (m := i) rfl (by kernel_rfl) rfl rfl hlt) ?_
   refine RW.v rfl (V.convInt (k := .i64) (k' := .u8) rfl (by kernel_rfl) (by kernel_rfl) rfl) ?_
   refine RW.build1c (c := cI) (v := (IntKind.i64.wrap (bat s i))) (u := .v (.int .i64 (IntKind.i64.wrap (bat s i)))) rfl rfl rfl rfl rfl rfl (.inl rfl) rfl rfl fun X6 => ?_
   refine RW.appendSR (c := cI) (l1 := (bys s i)) (l2 := [(IntKind.i64.wrap (bat s i))]) rfl rfl rfl rfl rfl rfl rfl rfl (.al (k := none) (i := 22) (sz := 1) (V := X6) rfl rfl nofun) (by decide) (Nat.le_of_ble_eq_true rfl) cI.len (fun _ => rfl) rfl (by simp only [maxLen, bys_len, List.length_singleton]; omega) (by simp only [maxLen, bys_len, List.length_singleton]; omega) fun X7 => ?_
   refine RW.assignMove rfl rfl rfl (by decide) (Nat.le_of_ble_eq_true rfl) (Nat.le_of_ble_eq_true rfl) ?_
   refine RW.nil ?_
   refine CW.le [(0, S s), (4, .w (sl 1 cI ((bys s i) ++ ([(IntKind.i64.wrap (bat s i))]))) X7), (5, I (i : Int))] rfl (Le.of rfl) ?_
   refine CW.region ?_
   refine RW.v rfl (V.mv (d := I (i : Int)) rfl rfl) ?_
   refine RW.v rfl (V.inc rfl rfl rfl hlt (by simp only [maxLen]; omega)) ?_
   refine RW.v rfl (V.as (d := I ((i + 1 : Nat) : Int)) rfl rfl) ?_
   refine RW.nil ?_
   exact ⟨(i + 1, _), by simp only []; omega, ⟨by omega, by omega⟩, rfl, Le.c rfl <| Le.c (Dw_congr (bys_succ s i).symm) <| Le.c rfl <| Le.e⟩
  ·skip
   refine CW.exit ?_
   refine CW.le [(0, S s), (4, .w (sl 1 cI (bys s i)) X)] rfl (Le.of rfl) ?_
   refine CW.seq ?_
   refine CW.seqJ 36 (fun (v8 : Bool) => [(4, .w (sl 1 cI (bys s i)) X), (33, Bo v8)]) (fun v8 => v8 = ((((bys s i).length : Int) != (s.size : Int)) || (!(confOk (bys s i))))) ?_ ?_
   ·refine CW.region ?_
    refine RW.v rfl (V.mv (d := .al 4 none 1 ((bys s i).length) X 0) rfl rfl) ?_
    refine RW.v rfl (V.lenT (n := (bys s i).length) rfl rfl rfl (.al rfl rfl nofun)) ?_
    refine RW.v rfl (V.mv (d := S s) rfl rfl) ?_
    refine RW.v rfl (V.lenStr rfl (by kernel_rfl) rfl) ?_
    refine RW.v rfl (V.cmpInt rfl rfl rfl rfl) ?_
    refine RW.v rfl (V.mv (d := Bo (((bys s i).length : Int) != (s.size : Int))) rfl rfl) ?_
    refine RW.gv rfl rfl rfl rfl (fun h9 => V.mv (d := .al 4 none 1 ((bys s i).length) X 0) rfl rfl) (fun h9 => ?_) (fun h9 => ?_)
    ·skip
     refine RW.gcallOwn rfl rfl rfl rfl (spec_ConfOk_fn (bys s i)) rfl (.cons (.one (.r (.al (k := none) (i := 4) (sz := 1) (V := X) rfl rfl nofun))) (.nil)) rfl fun g10 => ?_
     refine RW.gt rfl rfl rfl rfl (V.not rfl rfl) ?_
     refine RW.v rfl (V.pickF (d := Bo (!(confOk (bys s i)))) rfl rfl rfl) ?_
     refine RW.nil ?_
     exact ⟨_, by first | rfl | (simp_all; done) | (simp_all; omega) | grind, rfl, Le.c rfl <| Le.c rfl <| Le.e⟩
    ·skip
     refine RW.guardF rfl rfl rfl rfl ?_
     refine RW.guardF rfl rfl rfl rfl ?_
     refine RW.v rfl (V.pickT (d := Bo true) rfl rfl rfl) ?_
     refine RW.nil ?_
     exact ⟨_, by first | rfl | (simp_all; done) | (simp_all; omega) | grind, rfl, Le.c rfl <| Le.c rfl <| Le.e⟩
   ·intro v8 hv11
    refine CW.cond rfl (fun h12 => ?_) (fun h12 => ?_)
    ·skip
     refine CW.seq ?_
     refine CW.region ?_
     refine RW.build0 cI rfl rfl rfl rfl rfl fun X13 => ?_
     refine RW.assignMove rfl rfl rfl (by decide) (Nat.le_of_ble_eq_true rfl) (Nat.le_of_ble_eq_true rfl) ?_
     refine RW.v rfl (V.as (d := Bo false) rfl rfl) ?_
     refine RW.nil ?_
     refine CW.le [(2, .w (sl 1 cI ([] : List Int)) X13), (3, Bo false)] rfl (Le.of rfl) ?_
     refine CW.ret ?_
     exact Post.tup (by decide) (RVs.c (RV.w rfl (by rw [rc_no (rc_exit hq hb hv4 h5) (by simp_all)])) (RVs.c (RV.b rfl (by rw [rc_no (rc_exit hq hb hv4 h5) (by simp_all)])) RVs.e)) (AOs.r AOs.e)
    ·skip
     refine CW.skip ?_
     refine CW.le [(4, .w (sl 1 cI (bys s i)) X)] rfl (Le.of rfl) ?_
     refine CW.seq ?_
     refine CW.region ?_
     refine RW.v rfl (V.mv (d := .al 4 none 1 ((bys s i).length) X 0) rfl rfl) ?_
     refine RW.v rfl (V.as (d := .al 4 none 1 ((bys s i).length) X 0) rfl rfl) ?_
     refine RW.pullS 2 4 (by decide) rfl rfl ?_
     refine RW.v rfl (V.as (d := Bo true) rfl rfl) ?_
     refine RW.nil ?_
     refine CW.le [(2, .w (sl 1 cI (bys s i)) X), (3, Bo true)] rfl (Le.of rfl) ?_
     refine CW.ret ?_
     exact Post.tup (by decide) (RVs.c (RV.w rfl (by rw [rc_yes (i := i) (by simp_all)])) (RVs.c (RV.b rfl (by rw [rc_yes (i := i) (by simp_all)])) RVs.e)) (AOs.r AOs.e)
set_option maxHeartbeats 4000000 in
theorem spec_LogLast_fn (l : Log) (hok : okToLog l) : Eng.Fn E.P 59 [.agg ((Log.c l).map .r)] (.tup [.one (.w (.v (.int .i64 ((logLast l).1)))), .one (.w (.v (.int .i64 ((logLast l).2))))]) [.agg ((Log.c l).map .r)] := by
 refine Eng.Fn.intro (E := E) (rvs := [.tmp 2, .tmp 3]) Try.func59 rfl rfl rfl (by simp [outSlots, moved, rvSlot, sl]) ?_
 intro B g bo
 refine CW.le [(0, .agg ((Log.c l).map .r))] rfl (Le.of rfl) ?_
 have hle : l.entries.length ≤ maxLen := by have := hok.1; simp only [maxLen]; omega
 refine CW.seq ?_
 refine CW.region ?_
 refine RW.box (ds := ((Log.c l).map .r)) rfl rfl rfl fun b1 => ?_
 refine RW.v rfl (V.as (d := I 0) rfl rfl) ?_
 refine RW.v rfl (V.as (d := I 0) rfl rfl) ?_
 refine RW.nil ?_
 refine CW.le [(1, .obj b1 ((Log.c l).map .r))] rfl (Le.of rfl) ?_
 refine CW.seq ?_
 refine CW.region ?_
 refine RW.v rfl (V.field rfl rfl rfl rfl (by decide) rfl) ?_
 refine RW.v rfl (V.loadPrim (d := .r (sl 3 Entry.c l.entries)) rfl rfl (.inr ⟨_, rfl⟩) rfl rfl rfl) ?_
 refine RW.v rfl (V.lenT (n := l.entries.length) rfl rfl rfl .r) ?_
 refine RW.v rfl (V.as (d := I (l.entries.length : Int)) rfl rfl) ?_
 refine RW.nil ?_
 refine CW.le [(1, .obj b1 ((Log.c l).map .r)), (4, I (l.entries.length : Int))] rfl (Le.of rfl) ?_
 refine CW.seq ?_
 refine CW.seq ?_
 refine CW.region ?_
 refine RW.v rfl (V.mv (d := I (l.entries.length : Int)) rfl rfl) ?_
 refine RW.v rfl (V.cmpInt rfl rfl rfl rfl) ?_
 refine RW.nil ?_
 refine CW.le [(1, .obj b1 ((Log.c l).map .r)), (4, I (l.entries.length : Int)), (9, Bo ((l.entries.length : Int) == 0))] rfl (Le.of rfl) ?_
 refine CW.cond rfl (fun h2 => ?_) (fun h2 => ?_)
 ·skip
  refine CW.seq ?_
  refine CW.drawn (by kernel_rfl) ?_
  refine RQ.v rfl (V.field rfl rfl rfl rfl (by decide) rfl) ?_
  refine RQ.v rfl (V.loadPrim (d := I l.start) rfl rfl (.inl rfl) rfl rfl rfl) ?_
  refine RQ.v rfl (V.field rfl rfl rfl rfl (by decide) rfl) ?_
  refine RQ.v rfl (V.loadPrim (d := I l.startTerm) rfl rfl (.inl rfl) rfl rfl rfl) ?_
  refine RQ.v rfl (V.as (d := I l.start) rfl rfl) ?_
  refine RQ.v rfl (V.as (d := I l.startTerm) rfl rfl) ?_
  refine RQ.nil ?_
  refine CW.le [(2, I l.start), (3, I l.startTerm)] rfl (Le.of rfl) ?_
  refine CW.ret ?_
  exact Post.tup (by decide) (RVs.c (RV.i rfl (by simp_all [logLast])) (RVs.c (RV.i rfl (by simp_all [logLast])) RVs.e)) (AOs.a rfl AOs.e)
 ·skip
  have hpos : 0 < l.entries.length := List.length_pos_iff.2 (by simpa using h2)
  refine CW.skip ?_
  refine CW.le [(1, .obj b1 ((Log.c l).map .r)), (4, I (l.entries.length : Int))] rfl (Le.of rfl) ?_
  refine CW.seq ?_
  refine CW.drawn (by kernel_rfl) ?_
  refine RQ.v rfl (V.field rfl rfl rfl rfl (by decide) rfl) ?_
  refine RQ.v rfl (V.loadPrim (d := I l.start) rfl rfl (.inl rfl) rfl rfl rfl) ?_
  refine RQ.v rfl (V.mv (d := I (l.entries.length : Int)) rfl rfl) ?_
  refine RQ.v rfl (V.arInt rfl rfl rfl rfl) ?_
  refine RQ.v rfl (V.field rfl rfl rfl rfl (by decide) rfl) ?_
  refine RQ.v rfl (V.loadPrim (d := .r (sl 3 Entry.c l.entries)) rfl rfl (.inr ⟨_, rfl⟩) rfl rfl rfl) ?_
  refine RQ.v rfl (V.mv (d := I (l.entries.length : Int)) rfl rfl) ?_
  refine RQ.v rfl (V.dec (m := l.entries.length) rfl rfl rfl hpos hle) ?_
  refine RQ.v rfl (V.indexS rfl rfl rfl rfl rfl rfl Entry.len (getD_some (l := l.entries) (j := l.entries.length - 1) (z := Entry.z) (by omega))) ?_
  refine RQ.v rfl (V.fieldR rfl rfl rfl rfl (by decide) rfl (Nat.le_of_ble_eq_true rfl)) ?_
  refine RQ.v rfl (V.loadPrimR (t0 := .v (.int .i64 ((l.entries.getD (l.entries.length - 1) Entry.z).term_))) rfl rfl (.inl rfl) rfl rfl) ?_
  refine RQ.v rfl (V.as (d := I (IntKind.i64.wrap (l.start + (l.entries.length : Int)))) rfl rfl) ?_
  refine RQ.v rfl (V.as (d := I ((l.entries.getD (l.entries.length - 1) Entry.z).term_)) rfl rfl) ?_
  refine RQ.nil ?_
  refine CW.le [(2, I (IntKind.i64.wrap (l.start + (l.entries.length : Int)))), (3, I ((l.entries.getD (l.entries.length - 1) Entry.z).term_))] rfl (Le.of rfl) ?_
  refine CW.ret ?_
  exact Post.tup (by decide) (RVs.c (RV.i rfl (by simp_all [logLast])) (RVs.c (RV.i rfl (by simp_all [logLast])) RVs.e)) (AOs.a rfl AOs.e)
set_option maxHeartbeats 4000000 in
theorem impl_LogLast_fn (l : Log) (hok : okToLog l) : Eng.Fn E.P 65 [.agg ((Log.c l).map .r)] (.tup [.one (.w (.v (.int .i64 ((logLast l).1)))), .one (.w (.v (.int .i64 ((logLast l).2))))]) [.agg ((Log.c l).map .r)] := by
 refine Eng.Fn.intro (E := E) (rvs := [.tmp 2, .tmp 3]) Try.func65 rfl rfl rfl (by simp [outSlots, moved, rvSlot, sl]) ?_
 intro B g bo
 refine CW.le [(0, .agg ((Log.c l).map .r))] rfl (Le.of rfl) ?_
 have hle : l.entries.length ≤ maxLen := by have := hok.1; simp only [maxLen]; omega
 refine CW.seq ?_
 refine CW.region ?_
 refine RW.box (ds := ((Log.c l).map .r)) rfl rfl rfl fun b1 => ?_
 refine RW.v rfl (V.as (d := I 0) rfl rfl) ?_
 refine RW.v rfl (V.as (d := I 0) rfl rfl) ?_
 refine RW.nil ?_
 refine CW.le [(1, .obj b1 ((Log.c l).map .r))] rfl (Le.of rfl) ?_
 refine CW.seq ?_
 refine CW.region ?_
 refine RW.v rfl (V.field rfl rfl rfl rfl (by decide) rfl) ?_
 refine RW.v rfl (V.loadPrim (d := .r (sl 3 Entry.c l.entries)) rfl rfl (.inr ⟨_, rfl⟩) rfl rfl rfl) ?_
 refine RW.v rfl (V.lenT (n := l.entries.length) rfl rfl rfl .r) ?_
 refine RW.v rfl (V.as (d := I (l.entries.length : Int)) rfl rfl) ?_
 refine RW.nil ?_
 refine CW.le [(1, .obj b1 ((Log.c l).map .r)), (4, I (l.entries.length : Int))] rfl (Le.of rfl) ?_
 refine CW.seq ?_
 refine CW.seq ?_
 refine CW.region ?_
 refine RW.v rfl (V.mv (d := I (l.entries.length : Int)) rfl rfl) ?_
 refine RW.v rfl (V.cmpInt rfl rfl rfl rfl) ?_
 refine RW.nil ?_
 refine CW.le [(1, .obj b1 ((Log.c l).map .r)), (4, I (l.entries.length : Int)), (9, Bo ((l.entries.length : Int) == 0))] rfl (Le.of rfl) ?_
 refine CW.cond rfl (fun h2 => ?_) (fun h2 => ?_)
 ·skip
  refine CW.seq ?_
  refine CW.drawn (by kernel_rfl) ?_
  refine RQ.v rfl (V.field rfl rfl rfl rfl (by decide) rfl) ?_
  refine RQ.v rfl (V.loadPrim (d := I l.start) rfl rfl (.inl rfl) rfl rfl rfl) ?_
  refine RQ.v rfl (V.field rfl rfl rfl rfl (by decide) rfl) ?_
  refine RQ.v rfl (V.loadPrim (d := I l.startTerm) rfl rfl (.inl rfl) rfl rfl rfl) ?_
  refine RQ.v rfl (V.as (d := I l.start) rfl rfl) ?_
  refine RQ.v rfl (V.as (d := I l.startTerm) rfl rfl) ?_
  refine RQ.nil ?_
  refine CW.le [(2, I l.start), (3, I l.startTerm)] rfl (Le.of rfl) ?_
  refine CW.ret ?_
  exact Post.tup (by decide) (RVs.c (RV.i rfl (by simp_all [logLast])) (RVs.c (RV.i rfl (by simp_all [logLast])) RVs.e)) (AOs.a rfl AOs.e)
 ·skip
  have hpos : 0 < l.entries.length := List.length_pos_iff.2 (by simpa using h2)
  refine CW.skip ?_
  refine CW.le [(1, .obj b1 ((Log.c l).map .r)), (4, I (l.entries.length : Int))] rfl (Le.of rfl) ?_
  refine CW.seq ?_
  refine CW.drawn (by kernel_rfl) ?_
  refine RQ.v rfl (V.field rfl rfl rfl rfl (by decide) rfl) ?_
  refine RQ.v rfl (V.loadPrim (d := I l.start) rfl rfl (.inl rfl) rfl rfl rfl) ?_
  refine RQ.v rfl (V.mv (d := I (l.entries.length : Int)) rfl rfl) ?_
  refine RQ.v rfl (V.arInt rfl rfl rfl rfl) ?_
  refine RQ.v rfl (V.field rfl rfl rfl rfl (by decide) rfl) ?_
  refine RQ.v rfl (V.loadPrim (d := .r (sl 3 Entry.c l.entries)) rfl rfl (.inr ⟨_, rfl⟩) rfl rfl rfl) ?_
  refine RQ.v rfl (V.mv (d := I (l.entries.length : Int)) rfl rfl) ?_
  refine RQ.v rfl (V.dec (m := l.entries.length) rfl rfl rfl hpos hle) ?_
  refine RQ.v rfl (V.indexS rfl rfl rfl rfl rfl rfl Entry.len (getD_some (l := l.entries) (j := l.entries.length - 1) (z := Entry.z) (by omega))) ?_
  refine RQ.v rfl (V.fieldR rfl rfl rfl rfl (by decide) rfl (Nat.le_of_ble_eq_true rfl)) ?_
  refine RQ.v rfl (V.loadPrimR (t0 := .v (.int .i64 ((l.entries.getD (l.entries.length - 1) Entry.z).term_))) rfl rfl (.inl rfl) rfl rfl) ?_
  refine RQ.v rfl (V.as (d := I (IntKind.i64.wrap (l.start + (l.entries.length : Int)))) rfl rfl) ?_
  refine RQ.v rfl (V.as (d := I ((l.entries.getD (l.entries.length - 1) Entry.z).term_)) rfl rfl) ?_
  refine RQ.nil ?_
  refine CW.le [(2, I (IntKind.i64.wrap (l.start + (l.entries.length : Int)))), (3, I ((l.entries.getD (l.entries.length - 1) Entry.z).term_))] rfl (Le.of rfl) ?_
  refine CW.ret ?_
  exact Post.tup (by decide) (RVs.c (RV.i rfl (by simp_all [logLast])) (RVs.c (RV.i rfl (by simp_all [logLast])) RVs.e)) (AOs.a rfl AOs.e)
set_option maxHeartbeats 4000000 in
theorem spec_EntryOk_fn (e : Entry) (hok : okToEntry e) : Eng.Fn E.P 88 [.agg ((Entry.c e).map .r)] (.one (.one (.w (.v (.bool (entOk e)))))) [.agg ((Entry.c e).map .r)] := by
 refine Eng.Fn.intro (E := E) (rvs := [.tmp 2]) Try.func88 rfl rfl rfl (by simp [outSlots, moved, rvSlot, sl]) ?_
 intro B g bo
 refine CW.le [(0, .agg ((Entry.c e).map .r))] rfl (Le.of rfl) ?_
 refine CW.seq ?_
 refine CW.region ?_
 refine RW.box (ds := ((Entry.c e).map .r)) rfl rfl rfl fun b1 => ?_
 refine RW.v rfl (V.as (d := Bo false) rfl rfl) ?_
 refine RW.nil ?_
 refine CW.le [(1, .obj b1 ((Entry.c e).map .r))] rfl (Le.of rfl) ?_
 refine CW.seq ?_
 refine CW.seq ?_
 refine CW.region ?_
 refine RW.v rfl (V.field rfl rfl rfl rfl (by decide) rfl) ?_
 refine RW.v rfl (V.loadPrim (d := I e.term_) rfl rfl (.inl rfl) rfl rfl rfl) ?_
 refine RW.call rfl (spec_l01In_fn e.term_ 0 100000) rfl (.cons (.one (.r .r)) (.cons (.one (.r .r)) (.cons (.one (.r .r)) (.nil)))) fun g2 => ?_
 refine RW.v rfl (V.not rfl rfl) ?_
 refine RW.nil ?_
 refine CW.le [(1, .obj b1 ((Entry.c e).map .r)), (8, Bo (!(inR e.term_ 0 100000)))] rfl (Le.of rfl) ?_
 refine CW.cond rfl (fun h3 => ?_) (fun h3 => ?_)
 ·skip
  refine CW.seq ?_
  refine CW.region ?_
  refine RW.v rfl (V.as (d := Bo false) rfl rfl) ?_
  refine RW.nil ?_
  refine CW.le [(2, Bo false)] rfl (Le.of rfl) ?_
  refine CW.ret ?_
  exact Post.one (RV.b rfl (by first | (simp_all [entOk]; done) | grind [entOk])) (AOs.a rfl AOs.e)
 ·skip
  refine CW.skip ?_
  refine CW.le [(1, .obj b1 ((Entry.c e).map .r))] rfl (Le.of rfl) ?_
  refine CW.seq ?_
  refine CW.seq ?_
  refine CW.region ?_
  refine RW.v rfl (V.field rfl rfl rfl rfl (by decide) rfl) ?_
  refine RW.v rfl (V.loadPrim (d := I e.kind) rfl rfl (.inl rfl) rfl rfl rfl) ?_
  refine RW.nil ?_
  refine CW.le [(1, .obj b1 ((Entry.c e).map .r)), (10, I e.kind)] rfl (Le.of rfl) ?_
  refine CW.block ?_
  refine CW.seq ?_
  refine CW.region ?_
  refine RW.v rfl (V.cmpInt rfl rfl rfl rfl) ?_
  refine RW.v rfl (V.as (d := Bo (e.kind == 1)) rfl rfl) ?_
  refine RW.nil ?_
  refine CW.le [(1, .obj b1 ((Entry.c e).map .r)), (10, I e.kind), (11, Bo (e.kind == 1))] rfl (Le.of rfl) ?_
  refine CW.cond rfl (fun h4 => ?_) (fun h4 => ?_)
  ·skip
   refine CW.seq ?_
   refine CW.region ?_
   refine RW.v rfl (V.field rfl rfl rfl rfl (by decide) rfl) ?_
   refine RW.v rfl (V.loadPrim (d := S e.data) rfl rfl (.inl rfl) rfl rfl rfl) ?_
   refine RW.v rfl (V.strCmp rfl rfl rfl rfl) ?_
   refine RW.v rfl (V.as (d := Bo (e.data.toList == (⟨#[]⟩ : ByteArray).toList)) rfl rfl) ?_
   refine RW.nil ?_
   refine CW.le [(2, Bo (e.data.toList == (⟨#[]⟩ : ByteArray).toList))] rfl (Le.of rfl) ?_
   refine CW.ret ?_
   exact Post.one (RV.b rfl (by first | (simp_all [entOk]; done) | grind [entOk])) (AOs.a rfl AOs.e)
  ·skip
   refine CW.seq ?_
   refine CW.region ?_
   refine RW.v rfl (V.cmpInt rfl rfl rfl rfl) ?_
   refine RW.v rfl (V.as (d := Bo (e.kind == 2)) rfl rfl) ?_
   refine RW.nil ?_
   refine CW.le [(1, .obj b1 ((Entry.c e).map .r)), (10, I e.kind), (16, Bo (e.kind == 2))] rfl (Le.of rfl) ?_
   refine CW.cond rfl (fun h5 => ?_) (fun h5 => ?_)
   ·skip
    refine CW.seq ?_
    refine CW.region ?_
    refine RW.v rfl (V.field rfl rfl rfl rfl (by decide) rfl) ?_
    refine RW.v rfl (V.loadPrim (d := S e.data) rfl rfl (.inl rfl) rfl rfl rfl) ?_
    refine RW.call rfl (spec_ReadConf_fn e.data hok) rfl (.cons (.one (.r .r)) (.nil)) fun g6 => ?_
    refine RW.moveMove rfl rfl rfl (by decide) (Nat.le_of_ble_eq_true rfl) (Nat.le_of_ble_eq_true rfl) ?_
    refine RW.extract (d := .w (sl 1 cI ((readConf e.data).1)) (g6 0 0)) rfl rfl rfl (by decide) (Nat.le_of_ble_eq_true rfl) rfl rfl ?_
    refine RW.extract (d := Bo ((readConf e.data).2)) rfl rfl rfl (by decide) (Nat.le_of_ble_eq_true rfl) rfl rfl ?_
    refine RW.assignMove rfl rfl rfl (by decide) (Nat.le_of_ble_eq_true rfl) (Nat.le_of_ble_eq_true rfl) ?_
    refine RW.v rfl (V.as (d := Bo ((readConf e.data).2)) rfl rfl) ?_
    refine RW.nil ?_
    refine CW.le [(4, Bo ((readConf e.data).2))] rfl (Le.of rfl) ?_
    refine CW.seq ?_
    refine CW.region ?_
    refine RW.v rfl (V.mv (d := Bo ((readConf e.data).2)) rfl rfl) ?_
    refine RW.v rfl (V.as (d := Bo ((readConf e.data).2)) rfl rfl) ?_
    refine RW.nil ?_
    refine CW.le [(2, Bo ((readConf e.data).2))] rfl (Le.of rfl) ?_
    refine CW.ret ?_
    exact Post.one (RV.b rfl (by first | (simp_all [entOk]; done) | grind [entOk])) (AOs.a rfl AOs.e)
   ·skip
    refine CW.seq ?_
    refine CW.region ?_
    refine RW.v rfl (V.cmpInt rfl rfl rfl rfl) ?_
    refine RW.v rfl (V.as (d := Bo (e.kind == 3)) rfl rfl) ?_
    refine RW.nil ?_
    refine CW.le [(1, .obj b1 ((Entry.c e).map .r)), (25, Bo (e.kind == 3))] rfl (Le.of rfl) ?_
    refine CW.cond rfl (fun h7 => ?_) (fun h7 => ?_)
    ·skip
     refine CW.seq ?_
     refine CW.region ?_
     refine RW.v rfl (V.field rfl rfl rfl rfl (by decide) rfl) ?_
     refine RW.v rfl (V.loadPrim (d := S e.data) rfl rfl (.inl rfl) rfl rfl rfl) ?_
     refine RW.v rfl (V.lenStr rfl (by kernel_rfl) rfl) ?_
     refine RW.v rfl (V.cmpInt rfl rfl rfl rfl) ?_
     refine RW.v rfl (V.as (d := Bo (decide ((e.data.size : Int) ≤ 120))) rfl rfl) ?_
     refine RW.nil ?_
     refine CW.le [(2, Bo (decide ((e.data.size : Int) ≤ 120)))] rfl (Le.of rfl) ?_
     refine CW.ret ?_
     exact Post.one (RV.b rfl (by first | (simp_all [entOk]; done) | grind [entOk])) (AOs.a rfl AOs.e)
    ·skip
     refine CW.skip ?_
     refine CW.le [] rfl (Le.of rfl) ?_
     refine CW.seq ?_
     refine CW.region ?_
     refine RW.v rfl (V.as (d := Bo false) rfl rfl) ?_
     refine RW.nil ?_
     refine CW.le [(2, Bo false)] rfl (Le.of rfl) ?_
     refine CW.ret ?_
     exact Post.one (RV.b rfl (by first | (simp_all [entOk]; done) | grind [entOk])) (AOs.a rfl AOs.e)
set_option maxHeartbeats 4000000 in
theorem impl_EntryOk_fn (e : Entry) (hok : okToEntry e) : Eng.Fn E.P 96 [.agg ((Entry.c e).map .r)] (.one (.one (.w (.v (.bool (entOk e)))))) [.agg ((Entry.c e).map .r)] := by
 refine Eng.Fn.intro (E := E) (rvs := [.tmp 2]) Try.func96 rfl rfl rfl (by simp [outSlots, moved, rvSlot, sl]) ?_
 intro B g bo
 refine CW.le [(0, .agg ((Entry.c e).map .r))] rfl (Le.of rfl) ?_
 refine CW.seq ?_
 refine CW.region ?_
 refine RW.box (ds := ((Entry.c e).map .r)) rfl rfl rfl fun b1 => ?_
 refine RW.v rfl (V.as (d := Bo false) rfl rfl) ?_
 refine RW.nil ?_
 refine CW.le [(1, .obj b1 ((Entry.c e).map .r))] rfl (Le.of rfl) ?_
 refine CW.seq ?_
 refine CW.seq ?_
 refine CW.region ?_
 refine RW.v rfl (V.field rfl rfl rfl rfl (by decide) rfl) ?_
 refine RW.v rfl (V.loadPrim (d := I e.kind) rfl rfl (.inl rfl) rfl rfl rfl) ?_
 refine RW.nil ?_
 refine CW.le [(1, .obj b1 ((Entry.c e).map .r)), (6, I e.kind)] rfl (Le.of rfl) ?_
 refine CW.block ?_
 refine CW.seq ?_
 refine CW.region ?_
 refine RW.v rfl (V.cmpInt rfl rfl rfl rfl) ?_
 refine RW.v rfl (V.as (d := Bo (e.kind == 1)) rfl rfl) ?_
 refine RW.nil ?_
 refine CW.le [(1, .obj b1 ((Entry.c e).map .r)), (6, I e.kind), (7, Bo (e.kind == 1))] rfl (Le.of rfl) ?_
 refine CW.cond rfl (fun h2 => ?_) (fun h2 => ?_)
 ·skip
  refine CW.seqJ 45 (fun (v3 : Bool) => [(2, Bo v3)]) (fun v3 => v3 = ((inR e.term_ 0 100000) && (e.data.toList == (⟨#[]⟩ : ByteArray).toList))) ?_ ?_
  ·refine CW.region ?_
   refine RW.v rfl (V.field rfl rfl rfl rfl (by decide) rfl) ?_
   refine RW.v rfl (V.loadPrim (d := I e.term_) rfl rfl (.inl rfl) rfl rfl rfl) ?_
   refine RW.call rfl (impl_isTerm_fn e.term_) rfl (.cons (.one (.r .r)) (.nil)) fun g4 => ?_
   refine RW.v rfl (V.mv (d := Bo (inR e.term_ 0 100000)) rfl rfl) ?_
   refine RW.gv rfl rfl rfl rfl (fun h5 => V.field rfl rfl rfl rfl (by decide) rfl) (fun h5 => ?_) (fun h5 => ?_)
   ·skip
    refine RW.gt rfl rfl rfl rfl (V.loadPrim (d := S e.data) rfl rfl (.inl rfl) rfl rfl rfl) ?_
    refine RW.gt rfl rfl rfl rfl (V.strCmp rfl rfl rfl rfl) ?_
    refine RW.v rfl (V.pickT (d := Bo (e.data.toList == (⟨#[]⟩ : ByteArray).toList)) rfl rfl rfl) ?_
    refine RW.v rfl (V.as (d := Bo (e.data.toList == (⟨#[]⟩ : ByteArray).toList)) rfl rfl) ?_
    refine RW.nil ?_
    exact ⟨_, by first | rfl | (simp_all; done) | (simp_all; omega) | grind, rfl, Le.c rfl <| Le.e⟩
   ·skip
    refine RW.guardF rfl rfl rfl rfl ?_
    refine RW.guardF rfl rfl rfl rfl ?_
    refine RW.v rfl (V.pickF (d := Bo false) rfl rfl rfl) ?_
    refine RW.v rfl (V.as (d := Bo false) rfl rfl) ?_
    refine RW.nil ?_
    exact ⟨_, by first | rfl | (simp_all; done) | (simp_all; omega) | grind, rfl, Le.c rfl <| Le.e⟩
  ·intro v3 hv6
   refine CW.ret ?_
   exact Post.one (RV.b rfl (by first | (simp_all [entOk]; done) | grind [entOk])) (AOs.a rfl AOs.e)
 ·skip
  refine CW.seq ?_
  refine CW.region ?_
  refine RW.v rfl (V.cmpInt rfl rfl rfl rfl) ?_
  refine RW.v rfl (V.as (d := Bo (e.kind == 2)) rfl rfl) ?_
  refine RW.nil ?_
  refine CW.le [(1, .obj b1 ((Entry.c e).map .r)), (17, Bo (e.kind == 2))] rfl (Le.of rfl) ?_
  refine CW.cond rfl (fun h7 => ?_) (fun h7 => ?_)
  ·skip
   refine CW.seq ?_
   refine CW.region ?_
   refine RW.v rfl (V.field rfl rfl rfl rfl (by decide) rfl) ?_
   refine RW.v rfl (V.loadPrim (d := S e.data) rfl rfl (.inl rfl) rfl rfl rfl) ?_
   refine RW.call rfl (impl_ReadConf_fn e.data hok) rfl (.cons (.one (.r .r)) (.nil)) fun g8 => ?_
   refine RW.moveMove rfl rfl rfl (by decide) (Nat.le_of_ble_eq_true rfl) (Nat.le_of_ble_eq_true rfl) ?_
   refine RW.extract (d := .w (sl 1 cI ((readConf e.data).1)) (g8 0 0)) rfl rfl rfl (by decide) (Nat.le_of_ble_eq_true rfl) rfl rfl ?_
   refine RW.extract (d := Bo ((readConf e.data).2)) rfl rfl rfl (by decide) (Nat.le_of_ble_eq_true rfl) rfl rfl ?_
   refine RW.assignMove rfl rfl rfl (by decide) (Nat.le_of_ble_eq_true rfl) (Nat.le_of_ble_eq_true rfl) ?_
   refine RW.v rfl (V.as (d := Bo ((readConf e.data).2)) rfl rfl) ?_
   refine RW.nil ?_
   refine CW.le [(1, .obj b1 ((Entry.c e).map .r)), (4, Bo ((readConf e.data).2))] rfl (Le.of rfl) ?_
   refine CW.seqJ 45 (fun (v9 : Bool) => [(2, Bo v9)]) (fun v9 => v9 = ((inR e.term_ 0 100000) && ((readConf e.data).2))) ?_ ?_
   ·refine CW.region ?_
    refine RW.v rfl (V.field rfl rfl rfl rfl (by decide) rfl) ?_
    refine RW.v rfl (V.loadPrim (d := I e.term_) rfl rfl (.inl rfl) rfl rfl rfl) ?_
    refine RW.call rfl (impl_isTerm_fn e.term_) rfl (.cons (.one (.r .r)) (.nil)) fun g10 => ?_
    refine RW.v rfl (V.mv (d := Bo (inR e.term_ 0 100000)) rfl rfl) ?_
    refine RW.gv rfl rfl rfl rfl (fun h11 => V.mv (d := Bo ((readConf e.data).2)) rfl rfl) (fun h11 => ?_) (fun h11 => ?_)
    ·skip
     refine RW.v rfl (V.pickT (d := Bo ((readConf e.data).2)) rfl rfl rfl) ?_
     refine RW.v rfl (V.as (d := Bo ((readConf e.data).2)) rfl rfl) ?_
     refine RW.nil ?_
     exact ⟨_, by first | rfl | (simp_all; done) | (simp_all; omega) | grind, rfl, Le.c rfl <| Le.e⟩
    ·skip
     refine RW.v rfl (V.pickF (d := Bo false) rfl rfl rfl) ?_
     refine RW.v rfl (V.as (d := Bo false) rfl rfl) ?_
     refine RW.nil ?_
     exact ⟨_, by first | rfl | (simp_all; done) | (simp_all; omega) | grind, rfl, Le.c rfl <| Le.e⟩
   ·intro v9 hv12
    refine CW.ret ?_
    exact Post.one (RV.b rfl (by first | (simp_all [entOk]; done) | grind [entOk])) (AOs.a rfl AOs.e)
  ·skip
   refine CW.skip ?_
   refine CW.le [(1, .obj b1 ((Entry.c e).map .r))] rfl (Le.of rfl) ?_
   refine CW.seqJ 45 (fun (v13 : Bool) => [(2, Bo v13)]) (fun v13 => v13 = (((e.kind == 3) && (inR e.term_ 0 100000)) && decide ((e.data.size : Int) ≤ 120))) ?_ ?_
   ·refine CW.region ?_
    refine RW.v rfl (V.field rfl rfl rfl rfl (by decide) rfl) ?_
    refine RW.v rfl (V.loadPrim (d := I e.kind) rfl rfl (.inl rfl) rfl rfl rfl) ?_
    refine RW.v rfl (V.cmpInt rfl rfl rfl rfl) ?_
    refine RW.v rfl (V.mv (d := Bo (e.kind == 3)) rfl rfl) ?_
    refine RW.gv rfl rfl rfl rfl (fun h14 => V.field rfl rfl rfl rfl (by decide) rfl) (fun h14 => ?_) (fun h14 => ?_)
    ·skip
     refine RW.gt rfl rfl rfl rfl (V.loadPrim (d := I e.term_) rfl rfl (.inl rfl) rfl rfl rfl) ?_
     refine RW.gcall rfl rfl rfl rfl (impl_isTerm_fn e.term_) rfl (.cons (.one (.r .r)) (.nil)) fun g15 => ?_
     refine RW.v rfl (V.pickT (d := Bo (inR e.term_ 0 100000)) rfl rfl rfl) ?_
     refine RW.v rfl (V.mv (d := Bo (inR e.term_ 0 100000)) rfl rfl) ?_
     refine RW.gv rfl rfl rfl rfl (fun h16 => V.field rfl rfl rfl rfl (by decide) rfl) (fun h16 => ?_) (fun h16 => ?_)
     ·skip
      refine RW.gt rfl rfl rfl rfl (V.loadPrim (d := S e.data) rfl rfl (.inl rfl) rfl rfl rfl) ?_
      refine RW.gt rfl rfl rfl rfl (V.lenStr rfl (by kernel_rfl) rfl) ?_
      refine RW.gt rfl rfl rfl rfl (V.cmpInt rfl rfl rfl rfl) ?_
      refine RW.v rfl (V.pickT (d := Bo (decide ((e.data.size : Int) ≤ 120))) rfl rfl rfl) ?_
      refine RW.v rfl (V.as (d := Bo (decide ((e.data.size : Int) ≤ 120))) rfl rfl) ?_
      refine RW.nil ?_
      exact ⟨_, by first | rfl | (simp_all; done) | (simp_all; omega) | grind, rfl, Le.c rfl <| Le.e⟩
     ·skip
      refine RW.guardF rfl rfl rfl rfl ?_
      refine RW.guardF rfl rfl rfl rfl ?_
      refine RW.guardF rfl rfl rfl rfl ?_
      refine RW.v rfl (V.pickF (d := Bo false) rfl rfl rfl) ?_
      refine RW.v rfl (V.as (d := Bo false) rfl rfl) ?_
      refine RW.nil ?_
      exact ⟨_, by first | rfl | (simp_all; done) | (simp_all; omega) | grind, rfl, Le.c rfl <| Le.e⟩
    ·skip
     refine RW.guardF rfl rfl rfl rfl ?_
     refine RW.guardF rfl rfl rfl rfl ?_
     refine RW.v rfl (V.pickF (d := Bo false) rfl rfl rfl) ?_
     refine RW.v rfl (V.mv (d := Bo false) rfl rfl) ?_
     refine RW.guardF rfl rfl rfl rfl ?_
     refine RW.guardF rfl rfl rfl rfl ?_
     refine RW.guardF rfl rfl rfl rfl ?_
     refine RW.guardF rfl rfl rfl rfl ?_
     refine RW.v rfl (V.pickF (d := Bo false) rfl rfl rfl) ?_
     refine RW.v rfl (V.as (d := Bo false) rfl rfl) ?_
     refine RW.nil ?_
     exact ⟨_, by first | rfl | (simp_all; done) | (simp_all; omega) | grind, rfl, Le.c rfl <| Le.e⟩
   ·intro v13 hv17
    refine CW.ret ?_
    exact Post.one (RV.b rfl (by first | (simp_all [entOk]; done) | grind [entOk])) (AOs.a rfl AOs.e)
set_option maxHeartbeats 4000000 in
theorem spec_LogOk_fn (l : Log) (hok : okToLog l) : Eng.Fn E.P 58 [.agg ((Log.c l).map .r)] (.one (.one (.w (.v (.bool (logOk l)))))) [.agg ((Log.c l).map .r)] := by
 refine Eng.Fn.intro (E := E) (rvs := [.tmp 2]) Try.func58 rfl rfl rfl (by simp [outSlots, moved, rvSlot, sl]) ?_
 intro B g bo
 refine CW.le [(0, .agg ((Log.c l).map .r))] rfl (Le.of rfl) ?_
 have hl0 : l.entries.length ≤ maxLen := by have := hok.1; simp only [maxLen]; omega
 refine CW.seq ?_
 refine CW.region ?_
 refine RW.box (ds := ((Log.c l).map .r)) rfl rfl rfl fun b1 => ?_
 refine RW.v rfl (V.as (d := Bo false) rfl rfl) ?_
 refine RW.nil ?_
 refine CW.le [(1, .obj b1 ((Log.c l).map .r))] rfl (Le.of rfl) ?_
 refine CW.seq ?_
 refine CW.seqJ 62 (fun (v2 : Bool) => [(1, .obj b1 ((Log.c l).map .r)), (29, Bo v2)]) (fun v2 => v2 = ((((!(inR l.start 0 1000000)) || (!(inR l.startTerm 0 100000))) || decide ((l.entries.length : Int) > 60)) || decide ((IntKind.i64.wrap (l.start + (l.entries.length : Int))) > 1000000))) ?_ ?_
 ·refine CW.region ?_
  refine RW.v rfl (V.field rfl rfl rfl rfl (by decide) rfl) ?_
  refine RW.v rfl (V.loadPrim (d := I l.start) rfl rfl (.inl rfl) rfl rfl rfl) ?_
  refine RW.call rfl (spec_l01In_fn l.start 0 1000000) rfl (.cons (.one (.r .r)) (.cons (.one (.r .r)) (.cons (.one (.r .r)) (.nil)))) fun g3 => ?_
  refine RW.v rfl (V.not rfl rfl) ?_
  refine RW.v rfl (V.mv (d := Bo (!(inR l.start 0 1000000))) rfl rfl) ?_
  refine RW.gv rfl rfl rfl rfl (fun h4 => V.field rfl rfl rfl rfl (by decide) rfl) (fun h4 => ?_) (fun h4 => ?_)
  ·skip
   refine RW.gt rfl rfl rfl rfl (V.loadPrim (d := I l.startTerm) rfl rfl (.inl rfl) rfl rfl rfl) ?_
   refine RW.gcall rfl rfl rfl rfl (spec_l01In_fn l.startTerm 0 100000) rfl (.cons (.one (.r .r)) (.cons (.one (.r .r)) (.cons (.one (.r .r)) (.nil)))) fun g5 => ?_
   refine RW.gt rfl rfl rfl rfl (V.not rfl rfl) ?_
   refine RW.v rfl (V.pickF (d := Bo (!(inR l.startTerm 0 100000))) rfl rfl rfl) ?_
   refine RW.v rfl (V.mv (d := Bo (!(inR l.startTerm 0 100000))) rfl rfl) ?_
   refine RW.gv rfl rfl rfl rfl (fun h6 => V.field rfl rfl rfl rfl (by decide) rfl) (fun h6 => ?_) (fun h6 => ?_)
   ·skip
    refine RW.gt rfl rfl rfl rfl (V.loadPrim (d := .r (sl 3 Entry.c l.entries)) rfl rfl (.inr ⟨_, rfl⟩) rfl rfl rfl) ?_
    refine RW.gt rfl rfl rfl rfl (V.lenT (n := l.entries.length) rfl rfl rfl .r) ?_
    refine RW.gt rfl rfl rfl rfl (V.cmpInt rfl rfl rfl rfl) ?_
    refine RW.v rfl (V.pickF (d := Bo (decide ((l.entries.length : Int) > 60))) rfl rfl rfl) ?_
    refine RW.v rfl (V.mv (d := Bo (decide ((l.entries.length : Int) > 60))) rfl rfl) ?_
    refine RW.gv rfl rfl rfl rfl (fun h7 => V.field rfl rfl rfl rfl (by decide) rfl) (fun h7 => ?_) (fun h7 => ?_)
    ·skip
     refine RW.gt rfl rfl rfl rfl (V.loadPrim (d := I l.start) rfl rfl (.inl rfl) rfl rfl rfl) ?_
     refine RW.gt rfl rfl rfl rfl (V.field rfl rfl rfl rfl (by decide) rfl) ?_
     refine RW.gt rfl rfl rfl rfl (V.loadPrim (d := .r (sl 3 Entry.c l.entries)) rfl rfl (.inr ⟨_, rfl⟩) rfl rfl rfl) ?_
     refine RW.gt rfl rfl rfl rfl (V.lenT (n := l.entries.length) rfl rfl rfl .r) ?_
     refine RW.gt rfl rfl rfl rfl (V.arInt rfl rfl rfl rfl) ?_
     refine RW.gt rfl rfl rfl rfl (V.cmpInt rfl rfl rfl rfl) ?_
     refine RW.v rfl (V.pickF (d := Bo (decide ((IntKind.i64.wrap (l.start + (l.entries.length : Int))) > 1000000))) rfl rfl rfl) ?_
     refine RW.nil ?_
     exact ⟨_, by first | rfl | (simp_all; done) | (simp_all; omega) | grind, rfl, Le.c rfl <| Le.c rfl <| Le.e⟩
    ·skip
     refine RW.guardF rfl rfl rfl rfl ?_
     refine RW.guardF rfl rfl rfl rfl ?_
     refine RW.guardF rfl rfl rfl rfl ?_
     refine RW.guardF rfl rfl rfl rfl ?_
     refine RW.guardF rfl rfl rfl rfl ?_
     refine RW.guardF rfl rfl rfl rfl ?_
     refine RW.v rfl (V.pickT (d := Bo true) rfl rfl rfl) ?_
     refine RW.nil ?_
     exact ⟨_, by first | rfl | (simp_all; done) | (simp_all; omega) | grind, rfl, Le.c rfl <| Le.c rfl <| Le.e⟩
   ·skip
    refine RW.guardF rfl rfl rfl rfl ?_
    refine RW.guardF rfl rfl rfl rfl ?_
    refine RW.guardF rfl rfl rfl rfl ?_
    refine RW.v rfl (V.pickT (d := Bo true) rfl rfl rfl) ?_
    refine RW.v rfl (V.mv (d := Bo true) rfl rfl) ?_
    refine RW.guardF rfl rfl rfl rfl ?_
    refine RW.guardF rfl rfl rfl rfl ?_
    refine RW.guardF rfl rfl rfl rfl ?_
    refine RW.guardF rfl rfl rfl rfl ?_
    refine RW.guardF rfl rfl rfl rfl ?_
    refine RW.guardF rfl rfl rfl rfl ?_
    refine RW.guardF rfl rfl rfl rfl ?_
    refine RW.v rfl (V.pickT (d := Bo true) rfl rfl rfl) ?_
    refine RW.nil ?_
    exact ⟨_, by first | rfl | (simp_all; done) | (simp_all; omega) | grind, rfl, Le.c rfl <| Le.c rfl <| Le.e⟩
  ·skip
   refine RW.guardF rfl rfl rfl rfl ?_
   refine RW.guardF rfl rfl rfl rfl ?_
   refine RW.guardF rfl rfl rfl rfl ?_
   refine RW.v rfl (V.pickT (d := Bo true) rfl rfl rfl) ?_
   refine RW.v rfl (V.mv (d := Bo true) rfl rfl) ?_
   refine RW.guardF rfl rfl rfl rfl ?_
   refine RW.guardF rfl rfl rfl rfl ?_
   refine RW.guardF rfl rfl rfl rfl ?_
   refine RW.guardF rfl rfl rfl rfl ?_
   refine RW.v rfl (V.pickT (d := Bo true) rfl rfl rfl) ?_
   refine RW.v rfl (V.mv (d := Bo true) rfl rfl) ?_
   refine RW.guardF rfl rfl rfl rfl ?_
   refine RW.guardF rfl rfl rfl rfl ?_
   refine RW.guardF rfl rfl rfl rfl ?_
   refine RW.guardF rfl rfl rfl rfl ?_
   refine RW.guardF rfl rfl rfl rfl ?_
   refine RW.guardF rfl rfl rfl rfl ?_
   refine RW.guardF rfl rfl rfl rfl ?_
   refine RW.v rfl (V.pickT (d := Bo true) rfl rfl rfl) ?_
   refine RW.nil ?_
   exact ⟨_, by first | rfl | (simp_all; done) | (simp_all; omega) | grind, rfl, Le.c rfl <| Le.c rfl <| Le.e⟩
 ·intro v2 hv8
  refine CW.cond rfl (fun h9 => ?_) (fun h9 => ?_)
  ·skip
   refine CW.seq ?_
   refine CW.region ?_
   refine RW.v rfl (V.as (d := Bo false) rfl rfl) ?_
   refine RW.nil ?_
   refine CW.le [(2, Bo false)] rfl (Le.of rfl) ?_
   refine CW.ret ?_
   exact Post.one (RV.b rfl (by first | (simp_all [logOk]; done) | grind [logOk])) (AOs.a rfl AOs.e)
  ·skip
   refine CW.skip ?_
   refine CW.le [(1, .obj b1 ((Log.c l).map .r))] rfl (Le.of rfl) ?_
   refine CW.seq ?_
   refine CW.region ?_
   refine RW.v rfl (V.field rfl rfl rfl rfl (by decide) rfl) ?_
   refine RW.v rfl (V.loadPrim (d := I l.startTerm) rfl rfl (.inl rfl) rfl rfl rfl) ?_
   refine RW.v rfl (V.as (d := I l.startTerm) rfl rfl) ?_
   refine RW.nil ?_
   refine CW.le [(1, .obj b1 ((Log.c l).map .r)), (3, I l.startTerm)] rfl (Le.of rfl) ?_
   refine CW.seq ?_
   refine CW.seq ?_
   refine CW.region ?_
   refine RW.v rfl (V.as (d := I 0) rfl rfl) ?_
   refine RW.nil ?_
   refine CW.le [(1, .obj b1 ((Log.c l).map .r)), (3, I l.startTerm), (4, I 0)] rfl (Le.of rfl) ?_
   refine CW.block ?_
   refine CW.loopI 62 (fun (x : Nat × Int) => match x with | (i, t) => [(1, .obj b1 ((Log.c l).map .r)), (3, I t), (4, I (i : Int))]) (fun (x : Nat × Int) => match x with | (i, t) => i ≤ l.entries.length ∧ termsOk t (l.entries.drop i) = termsOk l.startTerm l.entries) (fun (x : Nat × Int) => match x with | (i, t) => l.entries.length - i) (0, _) rfl (Le.c rfl <| Le.c rfl <| Le.c rfl <| Le.e) ⟨by omega, by simp⟩ ?_
   rintro ⟨i, t⟩ ⟨hb, hr⟩
   refine CW.seq ?_
   refine CW.seq ?_
   refine CW.region ?_
   refine RW.v rfl (V.mv (d := I (i : Int)) rfl rfl) ?_
   refine RW.v rfl (V.field rfl rfl rfl rfl (by decide) rfl) ?_
   refine RW.v rfl (V.loadPrim (d := .r (sl 3 Entry.c l.entries)) rfl rfl (.inr ⟨_, rfl⟩) rfl rfl rfl) ?_
   refine RW.v rfl (V.lenT (n := l.entries.length) rfl rfl rfl .r) ?_
   refine RW.v rfl (V.cmpInt rfl rfl rfl rfl) ?_
   refine RW.nil ?_
   refine CW.le [(1, .obj b1 ((Log.c l).map .r)), (3, I t), (4, I (i : Int)), (36, Bo (decide ((i : Int) < (l.entries.length : Int))))] rfl (Le.of rfl) ?_
   refine CW.cond rfl (fun h10 => ?_) (fun h10 => ?_)
   ·skip
    have hii : i < l.entries.length := by have := h10; simp at this; first | exact this | omega | (simp; done) | (simp; omega)
    obtain ⟨ei, hei⟩ : ∃ e, l.entries[i]? = some e := ⟨_, List.getElem?_eq_getElem hii⟩
    have hdi := drop_get hei
    refine CW.skip ?_
    refine CW.le [(1, .obj b1 ((Log.c l).map .r)), (3, I t), (4, I (i : Int))] rfl (Le.of rfl) ?_
    refine CW.seq ?_
    refine CW.block ?_
    refine CW.seq ?_
    refine CW.seqJ 62 (fun (v11 : Bool) => [(1, .obj b1 ((Log.c l).map .r)), (4, I (i : Int)), (55, Bo v11)]) (fun v11 => v11 = ((!(entOk ei)) || decide (ei.term_ < t))) ?_ ?_
    ·refine CW.region ?_
     refine RW.v rfl (V.field rfl rfl rfl rfl (by decide) rfl) ?_
     refine RW.v rfl (V.loadPrim (d := .r (sl 3 Entry.c l.entries)) rfl rfl (.inr ⟨_, rfl⟩) rfl rfl rfl) ?_
     refine RW.v rfl (V.mv (d := I (i : Int)) rfl rfl) ?_
     refine RW.v rfl (V.indexS rfl rfl rfl rfl rfl rfl Entry.len hei) ?_
     refine RW.v rfl (V.loadAggR rfl rfl rfl rfl (Nat.le_of_ble_eq_true rfl)) ?_
     refine RW.call rfl (spec_EntryOk_fn ei (hok.2 ei (List.mem_of_getElem? hei))) rfl (.cons (.agg (.cons (.r .r) (.cons (.r .r) (.cons (.r .r) (.nil))))) (.nil)) fun g12 => ?_
     refine RW.v rfl (V.not rfl rfl) ?_
     refine RW.v rfl (V.mv (d := Bo (!(entOk ei))) rfl rfl) ?_
     refine RW.gv rfl rfl rfl rfl (fun h13 => V.field rfl rfl rfl rfl (by decide) rfl) (fun h13 => ?_) (fun h13 => ?_)
     ·skip
      refine RW.gt rfl rfl rfl rfl (V.loadPrim (d := .r (sl 3 Entry.c l.entries)) rfl rfl (.inr ⟨_, rfl⟩) rfl rfl rfl) ?_
      refine RW.gt rfl rfl rfl rfl (V.mv (d := I (i : Int)) rfl rfl) ?_
      refine RW.gt rfl rfl rfl rfl (V.indexS rfl rfl rfl rfl rfl rfl Entry.len hei) ?_
      refine RW.gt rfl rfl rfl rfl (V.fieldR rfl rfl rfl rfl (by decide) rfl (Nat.le_of_ble_eq_true rfl)) ?_
      refine RW.gt rfl rfl rfl rfl (V.loadPrimR (t0 := .v (.int .i64 ei.term_)) rfl rfl (.inl rfl) rfl rfl) ?_
      refine RW.gt rfl rfl rfl rfl (V.mv (d := I t) rfl rfl) ?_
      refine RW.gt rfl rfl rfl rfl (V.cmpInt rfl rfl rfl rfl) ?_
      refine RW.v rfl (V.pickF (d := Bo (decide (ei.term_ < t))) rfl rfl rfl) ?_
      refine RW.nil ?_
      exact ⟨_, by first | rfl | (simp_all; done) | (simp_all; omega) | grind, rfl, Le.c rfl <| Le.c rfl <| Le.c rfl <| Le.e⟩
     ·skip
      refine RW.guardF rfl rfl rfl rfl ?_
      refine RW.guardF rfl rfl rfl rfl ?_
      refine RW.guardF rfl rfl rfl rfl ?_
      refine RW.guardF rfl rfl rfl rfl ?_
      refine RW.guardF rfl rfl rfl rfl ?_
      refine RW.guardF rfl rfl rfl rfl ?_
      refine RW.guardF rfl rfl rfl rfl ?_
      refine RW.v rfl (V.pickT (d := Bo true) rfl rfl rfl) ?_
      refine RW.nil ?_
      exact ⟨_, by first | rfl | (simp_all; done) | (simp_all; omega) | grind, rfl, Le.c rfl <| Le.c rfl <| Le.c rfl <| Le.e⟩
    ·intro v11 hv14
     refine CW.cond rfl (fun h15 => ?_) (fun h15 => ?_)
     ·skip
      refine CW.seq ?_
      refine CW.region ?_
      refine RW.v rfl (V.as (d := Bo false) rfl rfl) ?_
      refine RW.nil ?_
      refine CW.le [(2, Bo false)] rfl (Le.of rfl) ?_
      refine CW.ret ?_
      exact Post.one (RV.b rfl (by have ht : termsOk l.startTerm l.entries = false := (by rw [← hr, hdi, termsOk]; first | (simp_all; done) | grind); simp [logOk, ht])) (AOs.a rfl AOs.e)
     ·skip
      refine CW.skip ?_
      refine CW.le [(1, .obj b1 ((Log.c l).map .r)), (4, I (i : Int))] rfl (Le.of rfl) ?_
      refine CW.region ?_
      refine RW.v rfl (V.field rfl rfl rfl rfl (by decide) rfl) ?_
      refine RW.v rfl (V.loadPrim (d := .r (sl 3 Entry.c l.entries)) rfl rfl (.inr ⟨_, rfl⟩) rfl rfl rfl) ?_
      refine RW.v rfl (V.mv (d := I (i : Int)) rfl rfl) ?_
      refine RW.v rfl (V.indexS rfl rfl rfl rfl rfl rfl Entry.len hei) ?_
      refine RW.v rfl (V.fieldR rfl rfl rfl rfl (by decide) rfl (Nat.le_of_ble_eq_true rfl)) ?_
      refine RW.v rfl (V.loadPrimR (t0 := .v (.int .i64 ei.term_)) rfl rfl (.inl rfl) rfl rfl) ?_
      refine RW.v rfl (V.as (d := I ei.term_) rfl rfl) ?_
      refine RW.nil ?_
      refine CW.le [(1, .obj b1 ((Log.c l).map .r)), (3, I ei.term_), (4, I (i : Int))] rfl (Le.of rfl) ?_
      refine CW.region ?_
      refine RW.v rfl (V.mv (d := I (i : Int)) rfl rfl) ?_
      refine RW.v rfl (V.inc rfl rfl rfl hii hl0) ?_
      refine RW.v rfl (V.as (d := I ((i + 1 : Nat) : Int)) rfl rfl) ?_
      refine RW.nil ?_
      exact ⟨(i + 1, _), by simp only []; omega, ⟨by omega, by rw [← hr, hdi, termsOk]; simp_all⟩, rfl, Le.c rfl <| Le.c rfl <| Le.c rfl <| Le.e⟩
   ·skip
    have hii : l.entries.length ≤ i := by have := h10; simp at this; first | exact this | omega | (simp; done) | (simp; omega)
    have hdi : l.entries.drop i = [] := List.drop_eq_nil_of_le hii
    refine CW.exit ?_
    refine CW.le [] rfl (Le.of rfl) ?_
    refine CW.seq ?_
    refine CW.region ?_
    refine RW.v rfl (V.as (d := Bo true) rfl rfl) ?_
    refine RW.nil ?_
    refine CW.le [(2, Bo true)] rfl (Le.of rfl) ?_
    refine CW.ret ?_
    exact Post.one (RV.b rfl (by have ht : termsOk l.startTerm l.entries = true := (by rw [← hr, hdi]; rfl); clear hr hdi; first | (simp_all [logOk]; done) | grind [logOk])) (AOs.a rfl AOs.e)
set_option maxHeartbeats 4000000 in
theorem impl_LogOk_fn (l : Log) (hok : okToLog l) : Eng.Fn E.P 68 [.agg ((Log.c l).map .r)] (.one (.one (.w (.v (.bool (logOk l)))))) [.agg ((Log.c l).map .r)] := by
 refine Eng.Fn.intro (E := E) (rvs := [.tmp 2]) Try.func68 rfl rfl rfl (by simp [outSlots, moved, rvSlot, sl]) ?_
 intro B g bo
 refine CW.le [(0, .agg ((Log.c l).map .r))] rfl (Le.of rfl) ?_
 have hl0 : l.entries.length ≤ maxLen := by have := hok.1; simp only [maxLen]; omega
 refine CW.seq ?_
 refine CW.region ?_
 refine RW.box (ds := ((Log.c l).map .r)) rfl rfl rfl fun b1 => ?_
 refine RW.v rfl (V.as (d := Bo false) rfl rfl) ?_
 refine RW.nil ?_
 refine CW.le [(1, .obj b1 ((Log.c l).map .r))] rfl (Le.of rfl) ?_
 refine CW.seq ?_
 refine CW.region ?_
 refine RW.v rfl (V.field rfl rfl rfl rfl (by decide) rfl) ?_
 refine RW.v rfl (V.loadPrim (d := I l.startTerm) rfl rfl (.inl rfl) rfl rfl rfl) ?_
 refine RW.v rfl (V.as (d := I l.startTerm) rfl rfl) ?_
 refine RW.nil ?_
 refine CW.le [(1, .obj b1 ((Log.c l).map .r)), (3, I l.startTerm)] rfl (Le.of rfl) ?_
 refine CW.seq ?_
 refine CW.seq ?_
 refine CW.region ?_
 refine RW.v rfl (V.field rfl rfl rfl rfl (by decide) rfl) ?_
 refine RW.v rfl (V.loadPrim (d := .r (sl 3 Entry.c l.entries)) rfl rfl (.inr ⟨_, rfl⟩) rfl rfl rfl) ?_
 refine RW.v rfl (V.lenT (n := l.entries.length) rfl rfl rfl .r) ?_
 refine RW.v rfl (V.mv (d := I 0) rfl rfl) ?_
 refine RW.nil ?_
 refine CW.le [(1, .obj b1 ((Log.c l).map .r)), (3, I l.startTerm), (9, .r (sl 3 Entry.c l.entries)), (10, I (l.entries.length : Int)), (11, I 0)] rfl (Le.of rfl) ?_
 refine CW.block ?_
 refine CW.loopI 50 (fun (x : Nat × Int) => match x with | (i, t) => [(1, .obj b1 ((Log.c l).map .r)), (3, I t), (9, .r (sl 3 Entry.c l.entries)), (10, I (l.entries.length : Int)), (11, I (i : Int))]) (fun (x : Nat × Int) => match x with | (i, t) => i ≤ l.entries.length ∧ termsOk t (l.entries.drop i) = termsOk l.startTerm l.entries) (fun (x : Nat × Int) => match x with | (i, t) => l.entries.length - i) (0, _) rfl (Le.c rfl <| Le.c rfl <| Le.c rfl <| Le.c rfl <| Le.c rfl <| Le.e) ⟨by omega, by simp⟩ ?_
 rintro ⟨i, t⟩ ⟨hb, hr⟩
 refine CW.seq ?_
 refine CW.region ?_
 refine RW.v rfl (V.cmpInt rfl rfl rfl rfl) ?_
 refine RW.nil ?_
 refine CW.le [(1, .obj b1 ((Log.c l).map .r)), (3, I t), (9, .r (sl 3 Entry.c l.entries)), (10, I (l.entries.length : Int)), (11, I (i : Int)), (12, Bo (decide ((i : Int) < (l.entries.length : Int))))] rfl (Le.of rfl) ?_
 refine CW.seq ?_
 refine CW.cond rfl (fun h2 => ?_) (fun h2 => ?_)
 ·skip
  have hii : i < l.entries.length := by have := h2; simp at this; first | exact this | omega | (simp; done) | (simp; omega)
  obtain ⟨ei, hei⟩ : ∃ e, l.entries[i]? = some e := ⟨_, List.getElem?_eq_getElem hii⟩
  have hdi := drop_get hei
  refine CW.skip ?_
  refine CW.le [(1, .obj b1 ((Log.c l).map .r)), (3, I t), (9, .r (sl 3 Entry.c l.entries)), (10, I (l.entries.length : Int)), (11, I (i : Int))] rfl (Le.of rfl) ?_
  refine CW.seq ?_
  refine CW.block ?_
  refine CW.seq ?_
  refine CW.region ?_
  refine RW.v rfl (V.indexS rfl rfl rfl rfl rfl rfl Entry.len hei) ?_
  refine RW.v rfl (V.loadAggR rfl rfl rfl rfl (Nat.le_of_ble_eq_true rfl)) ?_
  refine RW.alloc (ds := [I 0, I 0, S (⟨#[]⟩)]) rfl rfl rfl rfl fun b3 => ?_
  refine RW.storeAgg (es := ((Entry.c ei).map .r)) rfl rfl rfl rfl rfl rfl rfl rfl (Nat.le_of_ble_eq_true rfl) rfl ?_
  refine RW.nil ?_
  refine CW.le [(1, .obj b1 ((Log.c l).map .r)), (3, I t), (5, .obj b3 ((Entry.c ei).map .r)), (9, .r (sl 3 Entry.c l.entries)), (10, I (l.entries.length : Int)), (11, I (i : Int))] rfl (Le.of rfl) ?_
  refine CW.seq ?_
  refine CW.seqJ 50 (fun (v4 : Bool) => [(1, .obj b1 ((Log.c l).map .r)), (5, .obj b3 ((Entry.c ei).map .r)), (9, .r (sl 3 Entry.c l.entries)), (10, I (l.entries.length : Int)), (11, I (i : Int)), (23, Bo v4)]) (fun v4 => v4 = ((!(entOk ei)) || decide (ei.term_ < t))) ?_ ?_
  ·refine CW.region ?_
   refine RW.v rfl (V.loadAgg rfl rfl rfl rfl rfl (Nat.le_of_ble_eq_true rfl)) ?_
   refine RW.call rfl (impl_EntryOk_fn ei (hok.2 ei (List.mem_of_getElem? hei))) rfl (.cons (.agg (.cons (.r .r) (.cons (.r .r) (.cons (.r .r) (.nil))))) (.nil)) fun g5 => ?_
   refine RW.v rfl (V.not rfl rfl) ?_
   refine RW.v rfl (V.mv (d := Bo (!(entOk ei))) rfl rfl) ?_
   refine RW.gv rfl rfl rfl rfl (fun h6 => V.field rfl rfl rfl rfl (by decide) rfl) (fun h6 => ?_) (fun h6 => ?_)
   ·skip
    refine RW.gt rfl rfl rfl rfl (V.loadPrim (d := I ei.term_) rfl rfl (.inl rfl) rfl rfl rfl) ?_
    refine RW.gt rfl rfl rfl rfl (V.mv (d := I t) rfl rfl) ?_
    refine RW.gt rfl rfl rfl rfl (V.cmpInt rfl rfl rfl rfl) ?_
    refine RW.v rfl (V.pickF (d := Bo (decide (ei.term_ < t))) rfl rfl rfl) ?_
    refine RW.nil ?_
    exact ⟨_, by first | rfl | (simp_all; done) | (simp_all; omega) | grind, rfl, Le.c rfl <| Le.c rfl <| Le.c rfl <| Le.c rfl <| Le.c rfl <| Le.c rfl <| Le.e⟩
   ·skip
    refine RW.guardF rfl rfl rfl rfl ?_
    refine RW.guardF rfl rfl rfl rfl ?_
    refine RW.guardF rfl rfl rfl rfl ?_
    refine RW.v rfl (V.pickT (d := Bo true) rfl rfl rfl) ?_
    refine RW.nil ?_
    exact ⟨_, by first | rfl | (simp_all; done) | (simp_all; omega) | grind, rfl, Le.c rfl <| Le.c rfl <| Le.c rfl <| Le.c rfl <| Le.c rfl <| Le.c rfl <| Le.e⟩
  ·intro v4 hv7
   refine CW.cond rfl (fun h8 => ?_) (fun h8 => ?_)
   ·skip
    refine CW.seq ?_
    refine CW.region ?_
    refine RW.v rfl (V.as (d := Bo false) rfl rfl) ?_
    refine RW.nil ?_
    refine CW.le [(2, Bo false)] rfl (Le.of rfl) ?_
    refine CW.ret ?_
    exact Post.one (RV.b rfl (by have ht : termsOk l.startTerm l.entries = false := (by rw [← hr, hdi, termsOk]; first | (simp_all; done) | grind); simp [logOk, ht])) (AOs.a rfl AOs.e)
   ·skip
    refine CW.skip ?_
    refine CW.le [(1, .obj b1 ((Log.c l).map .r)), (5, .obj b3 ((Entry.c ei).map .r)), (9, .r (sl 3 Entry.c l.entries)), (10, I (l.entries.length : Int)), (11, I (i : Int))] rfl (Le.of rfl) ?_
    refine CW.region ?_
    refine RW.v rfl (V.field rfl rfl rfl rfl (by decide) rfl) ?_
    refine RW.v rfl (V.loadPrim (d := I ei.term_) rfl rfl (.inl rfl) rfl rfl rfl) ?_
    refine RW.v rfl (V.as (d := I ei.term_) rfl rfl) ?_
    refine RW.nil ?_
    refine CW.le [(1, .obj b1 ((Log.c l).map .r)), (3, I ei.term_), (9, .r (sl 3 Entry.c l.entries)), (10, I (l.entries.length : Int)), (11, I (i : Int))] rfl (Le.of rfl) ?_
    refine CW.region ?_
    refine RW.v rfl (V.inc rfl rfl rfl hii hl0) ?_
    refine RW.v rfl (V.mv (d := I ((i + 1 : Nat) : Int)) rfl rfl) ?_
    refine RW.nil ?_
    exact ⟨(i + 1, _), by simp only []; omega, ⟨by omega, by rw [← hr, hdi, termsOk]; simp_all⟩, rfl, Le.c rfl <| Le.c rfl <| Le.c rfl <| Le.c rfl <| Le.c rfl <| Le.e⟩
 ·skip
  have hii : l.entries.length ≤ i := by have := h2; simp at this; first | exact this | omega | (simp; done) | (simp; omega)
  have hdi : l.entries.drop i = [] := List.drop_eq_nil_of_le hii
  refine CW.exit ?_
  refine CW.le [(1, .obj b1 ((Log.c l).map .r))] rfl (Le.of rfl) ?_
  refine CW.seqJ 50 (fun (v9 : Bool) => [(2, Bo v9)]) (fun v9 => v9 = ((((inR l.start 0 1000000) && (inR l.startTerm 0 100000)) && decide ((l.entries.length : Int) ≤ 60)) && decide ((IntKind.i64.wrap (l.start + (l.entries.length : Int))) ≤ 1000000))) ?_ ?_
  ·refine CW.region ?_
   refine RW.v rfl (V.field rfl rfl rfl rfl (by decide) rfl) ?_
   refine RW.v rfl (V.loadPrim (d := I l.start) rfl rfl (.inl rfl) rfl rfl rfl) ?_
   refine RW.call rfl (impl_isIndex_fn l.start) rfl (.cons (.one (.r .r)) (.nil)) fun g10 => ?_
   refine RW.v rfl (V.mv (d := Bo (inR l.start 0 1000000)) rfl rfl) ?_
   refine RW.gv rfl rfl rfl rfl (fun h11 => V.field rfl rfl rfl rfl (by decide) rfl) (fun h11 => ?_) (fun h11 => ?_)
   ·skip
    refine RW.gt rfl rfl rfl rfl (V.loadPrim (d := I l.startTerm) rfl rfl (.inl rfl) rfl rfl rfl) ?_
    refine RW.gcall rfl rfl rfl rfl (impl_isTerm_fn l.startTerm) rfl (.cons (.one (.r .r)) (.nil)) fun g12 => ?_
    refine RW.v rfl (V.pickT (d := Bo (inR l.startTerm 0 100000)) rfl rfl rfl) ?_
    refine RW.v rfl (V.mv (d := Bo (inR l.startTerm 0 100000)) rfl rfl) ?_
    refine RW.gv rfl rfl rfl rfl (fun h13 => V.field rfl rfl rfl rfl (by decide) rfl) (fun h13 => ?_) (fun h13 => ?_)
    ·skip
     refine RW.gt rfl rfl rfl rfl (V.loadPrim (d := .r (sl 3 Entry.c l.entries)) rfl rfl (.inr ⟨_, rfl⟩) rfl rfl rfl) ?_
     refine RW.gt rfl rfl rfl rfl (V.lenT (n := l.entries.length) rfl rfl rfl .r) ?_
     refine RW.gt rfl rfl rfl rfl (V.cmpInt rfl rfl rfl rfl) ?_
     refine RW.v rfl (V.pickT (d := Bo (decide ((l.entries.length : Int) ≤ 60))) rfl rfl rfl) ?_
     refine RW.v rfl (V.mv (d := Bo (decide ((l.entries.length : Int) ≤ 60))) rfl rfl) ?_
     refine RW.gv rfl rfl rfl rfl (fun h14 => V.field rfl rfl rfl rfl (by decide) rfl) (fun h14 => ?_) (fun h14 => ?_)
     ·skip
      refine RW.gt rfl rfl rfl rfl (V.loadPrim (d := I l.start) rfl rfl (.inl rfl) rfl rfl rfl) ?_
      refine RW.gt rfl rfl rfl rfl (V.field rfl rfl rfl rfl (by decide) rfl) ?_
      refine RW.gt rfl rfl rfl rfl (V.loadPrim (d := .r (sl 3 Entry.c l.entries)) rfl rfl (.inr ⟨_, rfl⟩) rfl rfl rfl) ?_
      refine RW.gt rfl rfl rfl rfl (V.lenT (n := l.entries.length) rfl rfl rfl .r) ?_
      refine RW.gt rfl rfl rfl rfl (V.arInt rfl rfl rfl rfl) ?_
      refine RW.gt rfl rfl rfl rfl (V.cmpInt rfl rfl rfl rfl) ?_
      refine RW.v rfl (V.pickT (d := Bo (decide ((IntKind.i64.wrap (l.start + (l.entries.length : Int))) ≤ 1000000))) rfl rfl rfl) ?_
      refine RW.v rfl (V.as (d := Bo (decide ((IntKind.i64.wrap (l.start + (l.entries.length : Int))) ≤ 1000000))) rfl rfl) ?_
      refine RW.nil ?_
      exact ⟨_, by first | rfl | (simp_all; done) | (simp_all; omega) | grind, rfl, Le.c rfl <| Le.e⟩
     ·skip
      refine RW.guardF rfl rfl rfl rfl ?_
      refine RW.guardF rfl rfl rfl rfl ?_
      refine RW.guardF rfl rfl rfl rfl ?_
      refine RW.guardF rfl rfl rfl rfl ?_
      refine RW.guardF rfl rfl rfl rfl ?_
      refine RW.guardF rfl rfl rfl rfl ?_
      refine RW.v rfl (V.pickF (d := Bo false) rfl rfl rfl) ?_
      refine RW.v rfl (V.as (d := Bo false) rfl rfl) ?_
      refine RW.nil ?_
      exact ⟨_, by first | rfl | (simp_all; done) | (simp_all; omega) | grind, rfl, Le.c rfl <| Le.e⟩
    ·skip
     refine RW.guardF rfl rfl rfl rfl ?_
     refine RW.guardF rfl rfl rfl rfl ?_
     refine RW.guardF rfl rfl rfl rfl ?_
     refine RW.v rfl (V.pickF (d := Bo false) rfl rfl rfl) ?_
     refine RW.v rfl (V.mv (d := Bo false) rfl rfl) ?_
     refine RW.guardF rfl rfl rfl rfl ?_
     refine RW.guardF rfl rfl rfl rfl ?_
     refine RW.guardF rfl rfl rfl rfl ?_
     refine RW.guardF rfl rfl rfl rfl ?_
     refine RW.guardF rfl rfl rfl rfl ?_
     refine RW.guardF rfl rfl rfl rfl ?_
     refine RW.guardF rfl rfl rfl rfl ?_
     refine RW.v rfl (V.pickF (d := Bo false) rfl rfl rfl) ?_
     refine RW.v rfl (V.as (d := Bo false) rfl rfl) ?_
     refine RW.nil ?_
     exact ⟨_, by first | rfl | (simp_all; done) | (simp_all; omega) | grind, rfl, Le.c rfl <| Le.e⟩
   ·skip
    refine RW.guardF rfl rfl rfl rfl ?_
    refine RW.guardF rfl rfl rfl rfl ?_
    refine RW.v rfl (V.pickF (d := Bo false) rfl rfl rfl) ?_
    refine RW.v rfl (V.mv (d := Bo false) rfl rfl) ?_
    refine RW.guardF rfl rfl rfl rfl ?_
    refine RW.guardF rfl rfl rfl rfl ?_
    refine RW.guardF rfl rfl rfl rfl ?_
    refine RW.guardF rfl rfl rfl rfl ?_
    refine RW.v rfl (V.pickF (d := Bo false) rfl rfl rfl) ?_
    refine RW.v rfl (V.mv (d := Bo false) rfl rfl) ?_
    refine RW.guardF rfl rfl rfl rfl ?_
    refine RW.guardF rfl rfl rfl rfl ?_
    refine RW.guardF rfl rfl rfl rfl ?_
    refine RW.guardF rfl rfl rfl rfl ?_
    refine RW.guardF rfl rfl rfl rfl ?_
    refine RW.guardF rfl rfl rfl rfl ?_
    refine RW.guardF rfl rfl rfl rfl ?_
    refine RW.v rfl (V.pickF (d := Bo false) rfl rfl rfl) ?_
    refine RW.v rfl (V.as (d := Bo false) rfl rfl) ?_
    refine RW.nil ?_
    exact ⟨_, by first | rfl | (simp_all; done) | (simp_all; omega) | grind, rfl, Le.c rfl <| Le.e⟩
  ·intro v9 hv15
   refine CW.ret ?_
   exact Post.one (RV.b rfl (by have ht : termsOk l.startTerm l.entries = true := (by rw [← hr, hdi]; rfl); clear hr hdi; first | (simp_all [logOk]; done) | grind [logOk])) (AOs.a rfl AOs.e)
set_option maxHeartbeats 4000000 in
theorem spec_l18Others_fn (a : List Int) (n : Int) (hm : a.length ≤ 1048576) : Eng.Fn E.P 61 [.one (.r (sl 1 cI a)), .one (.r (.v (.int .i64 n)))] (.one (.one (.w (sl 1 cI (others a n))))) [.one (.r (sl 1 cI a)), .one (.r (.v (.int .i64 n)))] := by
 refine Eng.Fn.intro (E := E) (rvs := [.tmp 4]) Try.func61 rfl rfl rfl (by simp [outSlots, moved, rvSlot, sl]) ?_
 intro B g bo
 refine CW.bound (x := .tmp 0) (n := a.length) (AsT.r) (fun hl0 => ?_)
 refine CW.le [(0, .r (sl 1 cI a)), (1, I n)] rfl (Le.of rfl) ?_
 refine CW.seq ?_
 refine CW.region ?_
 refine RW.v rfl (V.as (d := .r (.v (.slice none 0 0))) rfl rfl) ?_
 refine RW.nil ?_
 refine CW.le [(0, .r (sl 1 cI a)), (1, I n)] rfl (Le.of rfl) ?_
 refine CW.seq ?_
 refine CW.region ?_
 refine RW.build0 cI rfl rfl rfl rfl rfl fun X1 => ?_
 refine RW.assignMove rfl rfl rfl (by decide) (Nat.le_of_ble_eq_true rfl) (Nat.le_of_ble_eq_true rfl) ?_
 refine RW.nil ?_
 refine CW.le [(0, .r (sl 1 cI a)), (1, I n), (5, .w (sl 1 cI ([] : List Int)) X1)] rfl (Le.of rfl) ?_
 refine CW.seq ?_
 refine CW.seq ?_
 refine CW.region ?_
 refine RW.v rfl (V.as (d := I 0) rfl rfl) ?_
 refine RW.nil ?_
 refine CW.le [(0, .r (sl 1 cI a)), (1, I n), (5, .w (sl 1 cI ([] : List Int)) X1), (6, I 0)] rfl (Le.of rfl) ?_
 refine CW.block ?_
 refine CW.loopI 28 (fun (x : Nat × Value) => match x with | (i, X) => [(0, .r (sl 1 cI a)), (1, I n), (5, .w (sl 1 cI (others (a.take i) n)) X), (6, I (i : Int))]) (fun (x : Nat × Value) => match x with | (i, X) => i ≤ a.length) (fun (x : Nat × Value) => match x with | (i, X) => a.length - i) (0, _) rfl (Le.c rfl <| Le.c rfl <| Le.c rfl <| Le.c rfl <| Le.e) (by omega) ?_
 rintro ⟨i, X⟩ hb
 refine CW.seq ?_
 refine CW.seq ?_
 refine CW.region ?_
 refine RW.v rfl (V.mv (d := I (i : Int)) rfl rfl) ?_
 refine RW.v rfl (V.mv (d := .r (sl 1 cI a)) rfl rfl) ?_
 refine RW.v rfl (V.lenT (n := a.length) rfl rfl rfl .r) ?_
 refine RW.v rfl (V.cmpInt rfl rfl rfl rfl) ?_
 refine RW.nil ?_
 refine CW.le [(0, .r (sl 1 cI a)), (1, I n), (5, .w (sl 1 cI (others (a.take i) n)) X), (6, I (i : Int)), (11, Bo (decide ((i : Int) < (a.length : Int))))] rfl (Le.of rfl) ?_
 refine CW.cond rfl (fun h2 => ?_) (fun h2 => ?_)
 ·skip
  have hii : i < a.length := by have := h2; simp at this; first | exact this | omega | (simp; done) | (simp; omega)
  obtain ⟨ei, hei⟩ : ∃ e, a[i]? = some e := ⟨_, List.getElem?_eq_getElem hii⟩
  have hdi := drop_get hei
  refine CW.skip ?_
  refine CW.le [(0, .r (sl 1 cI a)), (1, I n), (5, .w (sl 1 cI (others (a.take i) n)) X), (6, I (i : Int))] rfl (Le.of rfl) ?_
  refine CW.seq ?_
  refine CW.block ?_
  refine CW.seq ?_
  refine CW.region ?_
  refine RW.v rfl (V.mv (d := .r (sl 1 cI a)) rfl rfl) ?_
  refine RW.v rfl (V.mv (d := I (i : Int)) rfl rfl) ?_
  refine RW.v rfl (V.indexS rfl rfl rfl rfl rfl rfl cI.len hei) ?_
  refine RW.v rfl (V.loadPrimR (t0 := .v (.int .i64 ei)) rfl rfl (.inl rfl) rfl rfl) ?_
  refine RW.v rfl (V.mv (d := I n) rfl rfl) ?_
  refine RW.v rfl (V.cmpInt rfl rfl rfl rfl) ?_
  refine RW.nil ?_
  refine CW.le [(0, .r (sl 1 cI a)), (1, I n), (5, .w (sl 1 cI (others (a.take i) n)) X), (6, I (i : Int)), (19, Bo (ei != n))] rfl (Le.of rfl) ?_
  refine CW.cond rfl (fun h3 => ?_) (fun h3 => ?_)
  ·skip
   refine CW.region ?_
   refine RW.v rfl (V.mv (d := .al 5 none 1 ((others (a.take i) n).length) X 0) rfl rfl) ?_
   refine RW.v rfl (V.mv (d := .r (sl 1 cI a)) rfl rfl) ?_
   refine RW.v rfl (V.mv (d := I (i : Int)) rfl rfl) ?_
   refine RW.v rfl (V.indexS rfl rfl rfl rfl rfl rfl cI.len hei) ?_
   refine RW.v rfl (V.loadPrimR (t0 := .v (.int .i64 ei)) rfl rfl (.inl rfl) rfl rfl) ?_
   refine RW.build1c (c := cI) (v := ei) (u := .v (.int .i64 ei)) rfl rfl rfl rfl rfl rfl (.inl rfl) rfl rfl fun X4 => ?_
   refine RW.appendSR (c := cI) (l1 := (others (a.take i) n)) (l2 := [ei]) rfl rfl rfl rfl rfl rfl rfl rfl (.al (k := none) (i := 25) (sz := 1) (V := X4) rfl rfl nofun) (by decide) (Nat.le_of_ble_eq_true rfl) cI.len (fun _ => rfl) rfl (by have h9 := others_len (a.take i) n; have h10 : (a.take i).length ≤ a.length := (by rw [List.length_take]; omega); simp only [maxLen, List.length_singleton]; omega) (by have h9 := others_len (a.take i) n; have h10 : (a.take i).length ≤ a.length := (by rw [List.length_take]; omega); simp only [maxLen, List.length_singleton]; omega) fun X5 => ?_
   refine RW.assignMove rfl rfl rfl (by decide) (Nat.le_of_ble_eq_true rfl) (Nat.le_of_ble_eq_true rfl) ?_
   refine RW.nil ?_
   refine CW.le [(0, .r (sl 1 cI a)), (1, I n), (5, .w (sl 1 cI ((others (a.take i) n) ++ ([ei]))) X5), (6, I (i : Int))] rfl (Le.of rfl) ?_
   refine CW.region ?_
   refine RW.v rfl (V.mv (d := I (i : Int)) rfl rfl) ?_
   refine RW.v rfl (V.inc rfl rfl rfl hii hl0) ?_
   refine RW.v rfl (V.as (d := I ((i + 1 : Nat) : Int)) rfl rfl) ?_
   refine RW.nil ?_
   exact ⟨(i + 1, _), by simp only []; omega, (by omega), rfl, Le.c rfl <| Le.c rfl <| Le.c (Dw_congr (by unfold others; rw [take_snoc hei, List.filter_append]; simp_all)) <| Le.c rfl <| Le.e⟩
  ·skip
   refine CW.skip ?_
   refine CW.le [(0, .r (sl 1 cI a)), (1, I n), (5, .w (sl 1 cI (others (a.take i) n)) X), (6, I (i : Int))] rfl (Le.of rfl) ?_
   refine CW.region ?_
   refine RW.v rfl (V.mv (d := I (i : Int)) rfl rfl) ?_
   refine RW.v rfl (V.inc rfl rfl rfl hii hl0) ?_
   refine RW.v rfl (V.as (d := I ((i + 1 : Nat) : Int)) rfl rfl) ?_
   refine RW.nil ?_
   exact ⟨(i + 1, _), by simp only []; omega, (by omega), rfl, Le.c rfl <| Le.c rfl <| Le.c (Dw_congr (by unfold others; rw [take_snoc hei, List.filter_append]; simp_all)) <| Le.c rfl <| Le.e⟩
 ·skip
  have hii : a.length ≤ i := by have := h2; simp at this; first | exact this | omega | (simp; done) | (simp; omega)
  have hdi : a.drop i = [] := List.drop_eq_nil_of_le hii
  refine CW.exit ?_
  refine CW.le [(5, .w (sl 1 cI (others (a.take i) n)) X)] rfl (Le.of rfl) ?_
  refine CW.seq ?_
  refine CW.region ?_
  refine RW.v rfl (V.mv (d := .al 5 none 1 ((others (a.take i) n).length) X 0) rfl rfl) ?_
  refine RW.v rfl (V.as (d := .al 5 none 1 ((others (a.take i) n).length) X 0) rfl rfl) ?_
  refine RW.pullS 4 5 (by decide) rfl rfl ?_
  refine RW.nil ?_
  refine CW.le [(4, .w (sl 1 cI (others (a.take i) n)) X)] rfl (Le.of rfl) ?_
  refine CW.ret ?_
  exact Post.one (RV.w rfl (by rw [List.take_of_length_le hii])) (AOs.r (AOs.r AOs.e))
set_option maxHeartbeats 4000000 in
theorem impl_copyInts_fn (a : List Int) (hm : a.length ≤ 1048576) : Eng.Fn E.P 75 [.one (.r (sl 1 cI a))] (.one (.one (.w (sl 1 cI a)))) [.one (.r (sl 1 cI a))] := by
 refine Eng.Fn.intro (E := E) (rvs := [.tmp 2]) Try.func75 rfl rfl rfl (by simp [outSlots, moved, rvSlot, sl]) ?_
 intro B g bo
 refine CW.bound (x := .tmp 0) (n := a.length) (AsT.r) (fun hl0 => ?_)
 refine CW.le [(0, .r (sl 1 cI a))] rfl (Le.of rfl) ?_
 refine CW.seq ?_
 refine CW.region ?_
 refine RW.v rfl (V.as (d := .r (.v (.slice none 0 0))) rfl rfl) ?_
 refine RW.nil ?_
 refine CW.le [(0, .r (sl 1 cI a))] rfl (Le.of rfl) ?_
 refine CW.seq ?_
 refine CW.region ?_
 refine RW.build0 cI rfl rfl rfl rfl rfl fun X1 => ?_
 refine RW.v rfl (V.mv (d := .r (sl 1 cI a)) rfl rfl) ?_
 refine RW.appendSR (c := cI) (l1 := ([] : List Int)) (l2 := a) rfl rfl rfl rfl rfl rfl rfl rfl .r (by decide) (Nat.le_of_ble_eq_true rfl) cI.len (fun _ => rfl) rfl (by simp only [maxLen, List.length_nil]; omega) (by simp only [maxLen, List.length_nil]; omega) fun X2 => ?_
 refine RW.assignMove rfl rfl rfl (by decide) (Nat.le_of_ble_eq_true rfl) (Nat.le_of_ble_eq_true rfl) ?_
 refine RW.nil ?_
 refine CW.le [(2, .w (sl 1 cI (([] : List Int) ++ a)) X2)] rfl (Le.of rfl) ?_
 refine CW.ret ?_
 exact Post.one (RV.w rfl (by rfl)) (AOs.r AOs.e)
set_option maxHeartbeats 4000000 in
theorem slices_IndexFunc___int_int__fn (a : List Int) (f_id : Nat) (f_ts : List T) (f_p : Int → Bool) (f_h : ∀ x, Eng.Fn E.P f_id [.one (.r (.v (.int .i64 x))), .one (.r (.f none f_ts))] (wB (f_p x)) [.one (.r (.v (.int .i64 x))), .one (.r (.f none f_ts))]) : Eng.Fn E.P 137 [.one (.r (sl 1 cI a)), .one (.r (.f (some f_id) f_ts))] (.one (.one (.w (.v (.int .i64 (idxF f_p a)))))) [.one (.r (sl 1 cI a)), .one (.r (.f (some f_id) f_ts))] := by
 refine Eng.Fn.intro (E := E) (rvs := [.tmp 4]) Try.func137 rfl rfl rfl (by simp [outSlots, moved, rvSlot, sl]) ?_
 intro B g bo
 refine CW.bound (x := .tmp 0) (n := a.length) (AsT.r) (fun hl0 => ?_)
 refine CW.le [(0, .r (sl 1 cI a)), (1, .r (.f (some f_id) f_ts))] rfl (Le.of rfl) ?_
 refine CW.seq ?_
 refine CW.region ?_
 refine RW.v rfl (V.as (d := I 0) rfl rfl) ?_
 refine RW.nil ?_
 refine CW.le [(0, .r (sl 1 cI a)), (1, .r (.f (some f_id) f_ts))] rfl (Le.of rfl) ?_
 refine CW.seq ?_
 refine CW.seq ?_
 refine CW.region ?_
 refine RW.v rfl (V.mv (d := .r (sl 1 cI a)) rfl rfl) ?_
 refine RW.v rfl (V.lenT (n := a.length) rfl rfl rfl .r) ?_
 refine RW.v rfl (V.mv (d := I 0) rfl rfl) ?_
 refine RW.nil ?_
 refine CW.le [(0, .r (sl 1 cI a)), (1, .r (.f (some f_id) f_ts)), (7, I (a.length : Int)), (8, I 0)] rfl (Le.of rfl) ?_
 refine CW.block ?_
 refine CW.loopI 19 (fun (i : Nat) => [(0, .r (sl 1 cI a)), (1, .r (.f (some f_id) f_ts)), (7, I (a.length : Int)), (8, I (i : Int))]) (fun (i : Nat) => i ≤ a.length ∧ (a.take i).any f_p = false) (fun (i : Nat) => a.length - i) 0 rfl (Le.c rfl <| Le.c rfl <| Le.c rfl <| Le.c rfl <| Le.e) ⟨by omega, by simp⟩ ?_
 rintro i ⟨hb, hr⟩
 refine CW.seq ?_
 refine CW.region ?_
 refine RW.v rfl (V.cmpInt rfl rfl rfl rfl) ?_
 refine RW.nil ?_
 refine CW.le [(0, .r (sl 1 cI a)), (1, .r (.f (some f_id) f_ts)), (7, I (a.length : Int)), (8, I (i : Int)), (9, Bo (decide ((i : Int) < (a.length : Int))))] rfl (Le.of rfl) ?_
 refine CW.seq ?_
 refine CW.cond rfl (fun h1 => ?_) (fun h1 => ?_)
 ·skip
  have hii : i < a.length := by have := h1; simp at this; first | exact this | omega | (simp; done) | (simp; omega)
  obtain ⟨ei, hei⟩ : ∃ e, a[i]? = some e := ⟨_, List.getElem?_eq_getElem hii⟩
  have hdi := drop_get hei
  refine CW.skip ?_
  refine CW.le [(0, .r (sl 1 cI a)), (1, .r (.f (some f_id) f_ts)), (7, I (a.length : Int)), (8, I (i : Int))] rfl (Le.of rfl) ?_
  refine CW.seq ?_
  refine CW.block ?_
  refine CW.seq ?_
  refine CW.region ?_
  refine RW.v rfl (V.mv (d := I (i : Int)) rfl rfl) ?_
  refine RW.v rfl (V.as (d := I (i : Int)) rfl rfl) ?_
  refine RW.nil ?_
  refine CW.le [(0, .r (sl 1 cI a)), (1, .r (.f (some f_id) f_ts)), (5, I (i : Int)), (7, I (a.length : Int)), (8, I (i : Int))] rfl (Le.of rfl) ?_
  refine CW.seq ?_
  refine CW.region ?_
  refine RW.v rfl (V.mv (d := .r (.f (some f_id) f_ts)) rfl rfl) ?_
  refine RW.v rfl (V.mv (d := .r (sl 1 cI a)) rfl rfl) ?_
  refine RW.v rfl (V.mv (d := I (i : Int)) rfl rfl) ?_
  refine RW.v rfl (V.indexS rfl rfl rfl rfl rfl rfl cI.len hei) ?_
  refine RW.v rfl (V.loadPrimR (t0 := .v (.int .i64 ei)) rfl rfl (.inl rfl) rfl rfl) ?_
  refine RW.callF (ars := [.one (.r (.v (.int .i64 ei)))]) rfl (f_h ei) rfl rfl (.cons (.one (.r .r)) .nil) ?_
  refine RW.nil ?_
  refine CW.le [(0, .r (sl 1 cI a)), (1, .r (.f (some f_id) f_ts)), (5, I (i : Int)), (7, I (a.length : Int)), (8, I (i : Int)), (16, Bo (f_p ei))] rfl (Le.of rfl) ?_
  refine CW.cond rfl (fun h2 => ?_) (fun h2 => ?_)
  ·skip
   refine CW.seq ?_
   refine CW.region ?_
   refine RW.v rfl (V.mv (d := I (i : Int)) rfl rfl) ?_
   refine RW.v rfl (V.as (d := I (i : Int)) rfl rfl) ?_
   refine RW.nil ?_
   refine CW.le [(4, I (i : Int))] rfl (Le.of rfl) ?_
   refine CW.ret ?_
   exact Post.one (RV.i rfl (by exact idxF_at hr hei h2)) (AOs.r (AOs.r AOs.e))
  ·skip
   refine CW.skip ?_
   refine CW.le [(0, .r (sl 1 cI a)), (1, .r (.f (some f_id) f_ts)), (7, I (a.length : Int)), (8, I (i : Int))] rfl (Le.of rfl) ?_
   refine CW.region ?_
   refine RW.v rfl (V.inc rfl rfl rfl hii hl0) ?_
   refine RW.v rfl (V.mv (d := I ((i + 1 : Nat) : Int)) rfl rfl) ?_
   refine RW.nil ?_
   exact ⟨i + 1, by omega, ⟨by omega, any_snoc hr hei h2⟩, rfl, Le.c rfl <| Le.c rfl <| Le.c rfl <| Le.c rfl <| Le.e⟩
 ·skip
  have hii : a.length ≤ i := by have := h1; simp at this; first | exact this | omega | (simp; done) | (simp; omega)
  have hdi : a.drop i = [] := List.drop_eq_nil_of_le hii
  refine CW.exit ?_
  refine CW.le [] rfl (Le.of rfl) ?_
  refine CW.seq ?_
  refine CW.region ?_
  refine RW.v rfl (V.as (d := I (-1)) rfl rfl) ?_
  refine RW.nil ?_
  refine CW.le [(4, I (-1))] rfl (Le.of rfl) ?_
  refine CW.ret ?_
  exact Post.one (RV.i rfl (by exact idxF_no hr hii)) (AOs.r (AOs.r AOs.e))
set_option maxHeartbeats 4000000 in
theorem slices_DeleteFunc___int_int__fn (a : List Int) (f_id : Nat) (f_ts : List T) (f_p : Int → Bool) (f_h : ∀ x, Eng.Fn E.P f_id [.one (.r (.v (.int .i64 x))), .one (.r (.f none f_ts))] (wB (f_p x)) [.one (.r (.v (.int .i64 x))), .one (.r (.f none f_ts))]) : Eng.Fn E.P 129 [.one (.w (sl 1 cI a)), .one (.r (.f (some f_id) f_ts))] (.one (.one (.w (sl 1 cI (a.filter (fun x => !f_p x)))))) [.gone, .one (.r (.f (some f_id) f_ts))] := by
 refine Eng.Fn.intro (E := E) (rvs := [.tmp 4]) Try.func129 rfl rfl rfl (by simp [outSlots, moved, rvSlot, sl]) ?_
 intro B g bo
 refine CW.bound (x := .tmp 0) (n := a.length) (AsT.al rfl rfl nofun) (fun hl0 => ?_)
 refine CW.le [(0, .w (sl 1 cI a) (g 0 0)), (1, .r (.f (some f_id) f_ts))] rfl (Le.of rfl) ?_
 refine CW.seq ?_
 refine CW.region ?_
 refine RW.v rfl (V.as (d := .r (.v (.slice none 0 0))) rfl rfl) ?_
 refine RW.nil ?_
 refine CW.le [(0, .w (sl 1 cI a) (g 0 0)), (1, .r (.f (some f_id) f_ts))] rfl (Le.of rfl) ?_
 refine CW.seq ?_
 refine CW.region ?_
 refine RW.v rfl (V.mv (d := .al 0 none 1 a.length (g 0 0) 0) rfl rfl) ?_
 refine RW.v rfl (V.mv (d := .r (.f (some f_id) f_ts)) rfl rfl) ?_
 refine RW.callOwn rfl (slices_IndexFunc___int_int__fn a f_id f_ts f_p f_h) rfl (.cons (.one (.r (.al (k := none) (i := 0) (sz := 1) (V := (g 0 0)) rfl rfl nofun))) (.cons (.one (.r .r)) (.nil))) rfl fun g1 => ?_
 refine RW.v rfl (V.as (d := I (idxF f_p a)) rfl rfl) ?_
 refine RW.nil ?_
 refine CW.le [(0, .w (sl 1 cI a) (g 0 0)), (1, .r (.f (some f_id) f_ts)), (5, I (idxF f_p a))] rfl (Le.of rfl) ?_
 refine CW.seq ?_
 refine CW.seq ?_
 refine CW.region ?_
 refine RW.v rfl (V.mv (d := I (idxF f_p a)) rfl rfl) ?_
 refine RW.v rfl (V.cmpInt rfl rfl rfl rfl) ?_
 refine RW.nil ?_
 refine CW.le [(0, .w (sl 1 cI a) (g 0 0)), (1, .r (.f (some f_id) f_ts)), (5, I (idxF f_p a)), (12, Bo ((idxF f_p a) == (-1)))] rfl (Le.of rfl) ?_
 refine CW.cond rfl (fun h2 => ?_) (fun h2 => ?_)
 ·skip
  refine CW.seq ?_
  refine CW.region ?_
  refine RW.v rfl (V.mv (d := .al 0 none 1 a.length (g 0 0) 0) rfl rfl) ?_
  refine RW.v rfl (V.as (d := .al 0 none 1 a.length (g 0 0) 0) rfl rfl) ?_
  refine RW.pullS 4 0 (by decide) rfl rfl ?_
  refine RW.nil ?_
  refine CW.le [(4, .w (sl 1 cI a) (g 0 0))] rfl (Le.of rfl) ?_
  refine CW.ret ?_
  exact Post.one (RV.w rfl (by exact idxF_none h2)) (AOs.gn (AOs.r AOs.e))
 ·skip
  obtain ⟨m, hm1, hm2, hm3⟩ := idxF_some h2
  refine CW.skip ?_
  refine CW.le [(0, .w (sl 1 cI a) (g 0 0)), (1, .r (.f (some f_id) f_ts)), (5, I (idxF f_p a))] rfl (Le.of rfl) ?_
  refine CW.seq ?_
  refine CW.seq ?_
  refine CW.region ?_
  refine RW.v rfl (V.mv (d := I (idxF f_p a)) rfl rfl) ?_
  refine RW.v rfl (V.arInt rfl rfl rfl rfl) ?_
  refine RW.v rfl (V.as (d := I (IntKind.i64.wrap ((idxF f_p a) + 1))) rfl rfl) ?_
  refine RW.nil ?_
  refine CW.le [(0, .w (sl 1 cI a) (g 0 0)), (1, .r (.f (some f_id) f_ts)), (5, I (idxF f_p a)), (6, I (IntKind.i64.wrap ((idxF f_p a) + 1)))] rfl (Le.of rfl) ?_
  refine CW.block ?_
  refine CW.loopI 42 (fun (x : Nat × Nat × List Int) => match x with | (i, j, b) => [(0, .w (sl 1 cI b) (g 0 0)), (1, .r (.f (some f_id) f_ts)), (5, I (i : Int)), (6, I (j : Int))]) (fun (x : Nat × Nat × List Int) => match x with | (i, j, b) => DelP f_p a i j b) (fun (x : Nat × Nat × List Int) => match x with | (i, j, b) => a.length - j) (m, m + 1, a) rfl (Le.c rfl <| Le.c rfl <| Le.c (congrArg I hm1) <| Le.c (congrArg I (by rw [hm1]; exact wrap_nat (n := m + 1) (by omega))) <| Le.e) ⟨by omega, by omega, rfl, hm3, rfl⟩ ?_
  rintro ⟨i, j, b⟩ hP
  have hPl := hP.len
  have hPt := hP.lt
  have hPe := hP.le
  refine CW.seq ?_
  refine CW.seq ?_
  refine CW.region ?_
  refine RW.v rfl (V.mv (d := I (j : Int)) rfl rfl) ?_
  refine RW.v rfl (V.mv (d := .al 0 none 1 b.length (g 0 0) 0) rfl rfl) ?_
  refine RW.v rfl (V.lenT (n := b.length) rfl rfl rfl (.al rfl rfl nofun)) ?_
  refine RW.v rfl (V.cmpInt rfl rfl rfl rfl) ?_
  refine RW.nil ?_
  refine CW.le [(0, .w (sl 1 cI b) (g 0 0)), (1, .r (.f (some f_id) f_ts)), (5, I (i : Int)), (6, I (j : Int)), (19, Bo (decide ((j : Int) < (b.length : Int))))] rfl (Le.of rfl) ?_
  refine CW.cond rfl (fun h3 => ?_) (fun h3 => ?_)
  ·skip
   have hij : j < b.length := by have := h3; simp at this; first | exact this | omega | (simp; done) | (simp; omega)
   obtain ⟨ej, hej⟩ : ∃ e, b[j]? = some e := ⟨_, List.getElem?_eq_getElem hij⟩
   have hdj := drop_get hej
   refine CW.skip ?_
   refine CW.le [(0, .w (sl 1 cI b) (g 0 0)), (1, .r (.f (some f_id) f_ts)), (5, I (i : Int)), (6, I (j : Int))] rfl (Le.of rfl) ?_
   refine CW.seq ?_
   refine CW.block ?_
   refine CW.seq ?_
   refine CW.region ?_
   refine RW.v rfl (V.mv (d := .al 0 none 1 b.length (g 0 0) 0) rfl rfl) ?_
   refine RW.v rfl (V.mv (d := I (j : Int)) rfl rfl) ?_
   refine RW.v rfl (V.indexW rfl rfl rfl rfl rfl rfl rfl hij) ?_
   refine RW.v rfl (V.loadF (m := j) (off := 0) rfl rfl (.inl rfl) rfl rfl cI.len hej (by decide) rfl) ?_
   refine RW.v rfl (V.as (d := I ej) rfl rfl) ?_
   refine RW.nil ?_
   refine CW.le [(0, .w (sl 1 cI b) (g 0 0)), (1, .r (.f (some f_id) f_ts)), (5, I (i : Int)), (6, I (j : Int)), (7, I ej)] rfl (Le.of rfl) ?_
   refine CW.seq ?_
   refine CW.region ?_
   refine RW.v rfl (V.mv (d := .r (.f (some f_id) f_ts)) rfl rfl) ?_
   refine RW.v rfl (V.mv (d := I ej) rfl rfl) ?_
   refine RW.callF (ars := [.one (.r (.v (.int .i64 ej)))]) rfl (f_h ej) rfl rfl (.cons (.one (.r .r)) .nil) ?_
   refine RW.v rfl (V.not rfl rfl) ?_
   refine RW.nil ?_
   refine CW.le [(0, .w (sl 1 cI b) (g 0 0)), (1, .r (.f (some f_id) f_ts)), (5, I (i : Int)), (6, I (j : Int)), (7, I ej), (29, Bo (!(f_p ej)))] rfl (Le.of rfl) ?_
   refine CW.cond rfl (fun h4 => ?_) (fun h4 => ?_)
   ·skip
    refine CW.seq ?_
    refine CW.region ?_
    refine RW.v rfl (V.mv (d := .al 0 none 1 b.length (g 0 0) 0) rfl rfl) ?_
    refine RW.v rfl (V.mv (d := I (i : Int)) rfl rfl) ?_
    refine RW.v rfl (V.mv (d := I ej) rfl rfl) ?_
    refine RW.v rfl (V.indexW rfl rfl rfl rfl rfl rfl rfl (by omega)) ?_
    refine RW.storeS1 (v := ej) (c := cI) (u := .v (.int .i64 ej)) rfl rfl rfl rfl rfl rfl rfl (.inl rfl) rfl cI.len (by omega) rfl ?_
    refine RW.nil ?_
    refine CW.le [(0, .w (sl 1 cI (b.set i ej)) (g 0 0)), (1, .r (.f (some f_id) f_ts)), (5, I (i : Int)), (6, I (j : Int))] rfl (Le.of rfl) ?_
    refine CW.region ?_
    refine RW.v rfl (V.mv (d := I (i : Int)) rfl rfl) ?_
    refine RW.v rfl (V.inc rfl rfl rfl (show i < a.length by omega) hl0) ?_
    refine RW.v rfl (V.as (d := I ((i + 1 : Nat) : Int)) rfl rfl) ?_
    refine RW.nil ?_
    refine CW.le [(0, .w (sl 1 cI (b.set i ej)) (g 0 0)), (1, .r (.f (some f_id) f_ts)), (5, I ((i + 1 : Nat) : Int)), (6, I (j : Int))] rfl (Le.of rfl) ?_
    refine CW.region ?_
    refine RW.v rfl (V.mv (d := I (j : Int)) rfl rfl) ?_
    refine RW.v rfl (V.inc rfl rfl rfl (show j < a.length by omega) hl0) ?_
    refine RW.v rfl (V.as (d := I ((j + 1 : Nat) : Int)) rfl rfl) ?_
    refine RW.nil ?_
    exact ⟨(i + 1, j + 1, (b.set i ej)), by simp only []; omega, (by first | exact hP.keep hej h4 | exact hP.skip hej h4), rfl, Le.c rfl <| Le.c rfl <| Le.c rfl <| Le.c rfl <| Le.e⟩
   ·skip
    refine CW.skip ?_
    refine CW.le [(0, .w (sl 1 cI b) (g 0 0)), (1, .r (.f (some f_id) f_ts)), (5, I (i : Int)), (6, I (j : Int))] rfl (Le.of rfl) ?_
    refine CW.region ?_
    refine RW.v rfl (V.mv (d := I (j : Int)) rfl rfl) ?_
    refine RW.v rfl (V.inc rfl rfl rfl (show j < a.length by omega) hl0) ?_
    refine RW.v rfl (V.as (d := I ((j + 1 : Nat) : Int)) rfl rfl) ?_
    refine RW.nil ?_
    exact ⟨(i, j + 1, b), by simp only []; omega, (by first | exact hP.keep hej h4 | exact hP.skip hej h4), rfl, Le.c rfl <| Le.c rfl <| Le.c rfl <| Le.c rfl <| Le.e⟩
  ·skip
   have hij : b.length ≤ j := by have := h3; simp at this; first | exact this | omega | (simp; done) | (simp; omega)
   have hdj : b.drop j = [] := List.drop_eq_nil_of_le hij
   refine CW.exit ?_
   refine CW.le [(0, .w (sl 1 cI b) (g 0 0)), (5, I (i : Int))] rfl (Le.of rfl) ?_
   refine CW.seq ?_
   refine CW.region ?_
   refine RW.v rfl (V.mv (d := .al 0 none 1 b.length (g 0 0) 0) rfl rfl) ?_
   refine RW.v rfl (V.mv (d := I (i : Int)) rfl rfl) ?_
   refine RW.v rfl (V.sliceLo (m := i) rfl rfl rfl rfl rfl rfl rfl (by first | omega | (simp; omega))) ?_
   refine RW.clearT (0) rfl rfl rfl rfl rfl rfl rfl rfl rfl rfl rfl (fun _ => ⟨_, rfl⟩) rfl (by first | omega | (simp; omega)) ?_
   refine RW.nil ?_
   refine CW.le [(0, .w (sl 1 cI (b.take i ++ List.replicate (b.length - i) 0)) (g 0 0)), (5, I (i : Int))] rfl (Le.of rfl) ?_
   refine CW.seq ?_
   refine CW.region ?_
   refine RW.v rfl (V.mv (d := .al 0 none 1 ((b.take i ++ List.replicate (b.length - i) 0).length) (g 0 0) 0) rfl rfl) ?_
   refine RW.v rfl (V.mv (d := I (i : Int)) rfl rfl) ?_
   refine RW.takeOwn (m := i) rfl rfl rfl rfl rfl rfl rfl rfl rfl cI.len (by first | omega | (simp; omega)) (by decide) (Nat.le_of_ble_eq_true rfl) fun Y5 => ?_
   refine RW.assignMove rfl rfl rfl (by decide) (Nat.le_of_ble_eq_true rfl) (Nat.le_of_ble_eq_true rfl) ?_
   refine RW.nil ?_
   refine CW.le [(4, .w (sl 1 cI ((b.take i ++ List.replicate (b.length - i) 0).take i)) Y5)] rfl (Le.of rfl) ?_
   refine CW.ret ?_
   exact Post.one (RV.w rfl (by exact hP.fin hij)) (AOs.gn (AOs.r AOs.e))
set_option maxHeartbeats 4000000 in
theorem impl_without_1_fn (x : Int) (c : Int) : Eng.Fn E.P 130 [.one (.r (.v (.int .i64 x))), .one (.r (.f none [.v (.int .i64 c)]))] (.one (.one (.w (.v (.bool (x == c)))))) [.one (.r (.v (.int .i64 x))), .one (.r (.f none [.v (.int .i64 c)]))] := by
 refine Eng.Fn.intro (E := E) (rvs := [.tmp 3]) Try.func130 rfl rfl rfl (by simp [outSlots, moved, rvSlot, sl]) ?_
 intro B g bo
 refine CW.asRp 1 rfl ?_
 refine CW.le [(0, I x), (1, .rp [.v (.int .i64 c)])] rfl (Le.of rfl) ?_
 refine CW.seq ?_
 refine CW.region ?_
 refine RW.v rfl (V.as (d := Bo false) rfl rfl) ?_
 refine RW.nil ?_
 refine CW.le [(0, I x), (1, .rp [.v (.int .i64 c)])] rfl (Le.of rfl) ?_
 refine CW.seq ?_
 refine CW.region ?_
 refine RW.v rfl (V.mv (d := I x) rfl rfl) ?_
 refine RW.v rfl (V.loadPrimR (t0 := .v (.int .i64 c)) rfl rfl (.inl rfl) rfl rfl) ?_
 refine RW.v rfl (V.cmpInt rfl rfl rfl rfl) ?_
 refine RW.v rfl (V.as (d := Bo (x == c)) rfl rfl) ?_
 refine RW.nil ?_
 refine CW.le [(3, Bo (x == c))] rfl (Le.of rfl) ?_
 refine CW.ret ?_
 exact Post.one (RV.b rfl (by rfl)) (AOs.r (AOs.r AOs.e))
set_option maxHeartbeats 4000000 in
theorem impl_without_fn (a : List Int) (n : Int) (hm : a.length ≤ 1048576) : Eng.Fn E.P 98 [.one (.r (sl 1 cI a)), .one (.r (.v (.int .i64 n)))] (.one (.one (.w (sl 1 cI (others a n))))) [.one (.r (sl 1 cI a)), .one (.r (.v (.int .i64 n)))] := by
 refine Eng.Fn.intro (E := E) (rvs := [.tmp 4]) Try.func98 rfl rfl rfl (by simp [outSlots, moved, rvSlot, sl]) ?_
 intro B g bo
 refine CW.bound (x := .tmp 0) (n := a.length) (AsT.r) (fun hl0 => ?_)
 refine CW.le [(0, .r (sl 1 cI a)), (1, I n)] rfl (Le.of rfl) ?_
 refine CW.seq ?_
 refine CW.region ?_
 refine RW.box1 rfl rfl rfl rfl fun b1 => ?_
 refine RW.v rfl (V.as (d := .r (.v (.slice none 0 0))) rfl rfl) ?_
 refine RW.nil ?_
 refine CW.le [(0, .r (sl 1 cI a)), (3, .obj b1 [I n])] rfl (Le.of rfl) ?_
 refine CW.seq ?_
 refine CW.region ?_
 refine RW.v rfl (V.mv (d := .r (sl 1 cI a)) rfl rfl) ?_
 refine RW.call rfl (impl_copyInts_fn a hm) rfl (.cons (.one (.r .r)) (.nil)) fun g2 => ?_
 refine RW.freezeB (ts := [.v (.int .i64 n)]) 3 rfl (DRd.r DRd.e) ?_
 refine RW.v rfl (V.mkFunc rfl rfl) ?_
 refine RW.callW (k := 6) (slices_DeleteFunc___int_int__fn a 130 ([.v (.int .i64 n)]) (fun x => x == n) (fun x => impl_without_1_fn x n)) rfl rfl (Nat.le_of_ble_eq_true rfl) (by decide) (.here (AsW.gone) (.cons (.one (.r .r)) (.nil))) rfl fun g3 q4 => ?_
 refine RW.assignMove rfl rfl rfl (by decide) (Nat.le_of_ble_eq_true rfl) (Nat.le_of_ble_eq_true rfl) ?_
 refine RW.nil ?_
 refine CW.le [(4, .w (sl 1 cI (a.filter (fun x => !(fun x => x == n) x))) (g3 0 0))] rfl (Le.of rfl) ?_
 refine CW.ret ?_
 exact Post.one (RV.w rfl (by rfl)) (AOs.r (AOs.r AOs.e))
set_option maxHeartbeats 4000000 in
theorem slices_Equal___int_int__fn (a : List Int) (b : List Int) : Eng.Fn E.P 121 [.one (.r (sl 1 cI a)), .one (.r (sl 1 cI b))] (.one (.one (.w (.v (.bool (eqS eqI a b)))))) [.one (.r (sl 1 cI a)), .one (.r (sl 1 cI b))] := by
 refine Eng.Fn.intro (E := E) (rvs := [.tmp 4]) Try.func121 rfl rfl rfl (by simp [outSlots, moved, rvSlot, sl]) ?_
 intro B g bo
 refine CW.bound (x := .tmp 0) (n := a.length) (AsT.r) (fun hl0 => ?_)
 refine CW.bound (x := .tmp 1) (n := b.length) (AsT.r) (fun hl1 => ?_)
 refine CW.le [(0, .r (sl 1 cI a)), (1, .r (sl 1 cI b))] rfl (Le.of rfl) ?_
 refine CW.seq ?_
 refine CW.region ?_
 refine RW.v rfl (V.as (d := Bo false) rfl rfl) ?_
 refine RW.nil ?_
 refine CW.le [(0, .r (sl 1 cI a)), (1, .r (sl 1 cI b))] rfl (Le.of rfl) ?_
 refine CW.seq ?_
 refine CW.seq ?_
 refine CW.region ?_
 refine RW.v rfl (V.mv (d := .r (sl 1 cI a)) rfl rfl) ?_
 refine RW.v rfl (V.lenT (n := a.length) rfl rfl rfl .r) ?_
 refine RW.v rfl (V.mv (d := .r (sl 1 cI b)) rfl rfl) ?_
 refine RW.v rfl (V.lenT (n := b.length) rfl rfl rfl .r) ?_
 refine RW.v rfl (V.cmpInt rfl rfl rfl rfl) ?_
 refine RW.nil ?_
 refine CW.le [(0, .r (sl 1 cI a)), (1, .r (sl 1 cI b)), (10, Bo ((a.length : Int) != (b.length : Int)))] rfl (Le.of rfl) ?_
 refine CW.cond rfl (fun h1 => ?_) (fun h1 => ?_)
 ·skip
  refine CW.seq ?_
  refine CW.region ?_
  refine RW.v rfl (V.as (d := Bo false) rfl rfl) ?_
  refine RW.nil ?_
  refine CW.le [(4, Bo false)] rfl (Le.of rfl) ?_
  refine CW.ret ?_
  exact Post.one (RV.b rfl (by exact (eqS_ne (by have := h1; simp at this; omega)).symm)) (AOs.r (AOs.r AOs.e))
 ·skip
  refine CW.skip ?_
  refine CW.le [(0, .r (sl 1 cI a)), (1, .r (sl 1 cI b))] rfl (Le.of rfl) ?_
  refine CW.seq ?_
  refine CW.seq ?_
  refine CW.region ?_
  refine RW.v rfl (V.mv (d := .r (sl 1 cI a)) rfl rfl) ?_
  refine RW.v rfl (V.lenT (n := a.length) rfl rfl rfl .r) ?_
  refine RW.v rfl (V.mv (d := I 0) rfl rfl) ?_
  refine RW.nil ?_
  refine CW.le [(0, .r (sl 1 cI a)), (1, .r (sl 1 cI b)), (12, I (a.length : Int)), (13, I 0)] rfl (Le.of rfl) ?_
  refine CW.block ?_
  refine CW.loopI 26 (fun (i : Nat) => [(0, .r (sl 1 cI a)), (1, .r (sl 1 cI b)), (12, I (a.length : Int)), (13, I (i : Int))]) (fun (i : Nat) => i ≤ a.length ∧ eqS eqI (a.drop i) (b.drop i) = eqS eqI a b) (fun (i : Nat) => a.length - i) 0 rfl (Le.c rfl <| Le.c rfl <| Le.c rfl <| Le.c rfl <| Le.e) ⟨by omega, by simp⟩ ?_
  rintro i ⟨hb, hr⟩
  have hlen : a.length = b.length := by simp at h1; omega
  refine CW.seq ?_
  refine CW.region ?_
  refine RW.v rfl (V.cmpInt rfl rfl rfl rfl) ?_
  refine RW.nil ?_
  refine CW.le [(0, .r (sl 1 cI a)), (1, .r (sl 1 cI b)), (12, I (a.length : Int)), (13, I (i : Int)), (14, Bo (decide ((i : Int) < (a.length : Int))))] rfl (Le.of rfl) ?_
  refine CW.seq ?_
  refine CW.cond rfl (fun h2 => ?_) (fun h2 => ?_)
  ·skip
   have hii : i < a.length := by have := h2; simp at this; first | exact this | omega | (simp; done) | (simp; omega)
   obtain ⟨ei, hei⟩ : ∃ e, a[i]? = some e := ⟨_, List.getElem?_eq_getElem hii⟩
   have hdi := drop_get hei
   have hib : i < b.length := by omega
   obtain ⟨eb, heb⟩ : ∃ e, b[i]? = some e := ⟨_, List.getElem?_eq_getElem hib⟩
   have hdb := drop_get heb
   refine CW.skip ?_
   refine CW.le [(0, .r (sl 1 cI a)), (1, .r (sl 1 cI b)), (12, I (a.length : Int)), (13, I (i : Int))] rfl (Le.of rfl) ?_
   refine CW.seq ?_
   refine CW.block ?_
   refine CW.seq ?_
   refine CW.region ?_
   refine RW.v rfl (V.mv (d := I (i : Int)) rfl rfl) ?_
   refine RW.v rfl (V.as (d := I (i : Int)) rfl rfl) ?_
   refine RW.nil ?_
   refine CW.le [(0, .r (sl 1 cI a)), (1, .r (sl 1 cI b)), (5, I (i : Int)), (12, I (a.length : Int)), (13, I (i : Int))] rfl (Le.of rfl) ?_
   refine CW.seq ?_
   refine CW.drawn (by kernel_rfl) ?_
   refine RQ.v rfl (V.mv (d := .r (sl 1 cI a)) rfl rfl) ?_
   refine RQ.v rfl (V.mv (d := I (i : Int)) rfl rfl) ?_
   refine RQ.v rfl (V.indexS rfl rfl rfl rfl rfl rfl cI.len hei) ?_
   refine RQ.v rfl (V.loadPrimR (t0 := .v (.int .i64 ei)) rfl rfl (.inl rfl) rfl rfl) ?_
   refine RQ.v rfl (V.mv (d := .r (sl 1 cI b)) rfl rfl) ?_
   refine RQ.v rfl (V.mv (d := I (i : Int)) rfl rfl) ?_
   refine RQ.v rfl (V.indexS rfl rfl rfl rfl rfl rfl cI.len heb) ?_
   refine RQ.v rfl (V.loadPrimR (t0 := .v (.int .i64 eb)) rfl rfl (.inl rfl) rfl rfl) ?_
   refine RQ.v rfl (V.cmpInt rfl rfl rfl rfl) ?_
   refine RQ.nil ?_
   refine CW.le [(0, .r (sl 1 cI a)), (1, .r (sl 1 cI b)), (12, I (a.length : Int)), (13, I (i : Int)), (24, Bo (ei != eb))] rfl (Le.of rfl) ?_
   refine CW.cond rfl (fun h3 => ?_) (fun h3 => ?_)
   ·skip
    refine CW.seq ?_
    refine CW.region ?_
    refine RW.v rfl (V.as (d := Bo false) rfl rfl) ?_
    refine RW.nil ?_
    refine CW.le [(4, Bo false)] rfl (Le.of rfl) ?_
    refine CW.ret ?_
    exact Post.one (RV.b rfl (by rw [← hr, hdi, hdb]; simp_all [eqS, eqI])) (AOs.r (AOs.r AOs.e))
   ·skip
    refine CW.skip ?_
    refine CW.le [(0, .r (sl 1 cI a)), (1, .r (sl 1 cI b)), (12, I (a.length : Int)), (13, I (i : Int))] rfl (Le.of rfl) ?_
    refine CW.region ?_
    refine RW.v rfl (V.inc rfl rfl rfl hii hl0) ?_
    refine RW.v rfl (V.mv (d := I ((i + 1 : Nat) : Int)) rfl rfl) ?_
    refine RW.nil ?_
    exact ⟨i + 1, by omega, ⟨by omega, by simp_all [eqS, eqI]⟩, rfl, Le.c rfl <| Le.c rfl <| Le.c rfl <| Le.c rfl <| Le.e⟩
  ·skip
   have hii : a.length ≤ i := by have := h2; simp at this; first | exact this | omega | (simp; done) | (simp; omega)
   have hdi : a.drop i = [] := List.drop_eq_nil_of_le hii
   refine CW.exit ?_
   refine CW.le [] rfl (Le.of rfl) ?_
   refine CW.seq ?_
   refine CW.region ?_
   refine RW.v rfl (V.as (d := Bo true) rfl rfl) ?_
   refine RW.nil ?_
   refine CW.le [(4, Bo true)] rfl (Le.of rfl) ?_
   refine CW.ret ?_
   exact Post.one (RV.b rfl (by rw [← hr, hdi, List.drop_eq_nil_of_le (show b.length ≤ i by omega)]; rfl)) (AOs.r (AOs.r AOs.e))
set_option maxHeartbeats 4000000 in
theorem impl_lastConf_fn (n : Node) (idx : Int) (hok : okToNode n) : Eng.Fn E.P 113 [.agg ((Node.c n).map .r), .one (.r (.v (.int .i64 idx)))] (.tup [.one (.w (.v (.int .i64 ((lastC n idx).1)))), .one (.w (sl 1 cI ((lastC n idx).2)))]) [.agg ((Node.c n).map .r), .one (.r (.v (.int .i64 idx)))] := by
 refine Eng.Fn.intro (E := E) (rvs := [.tmp 4, .tmp 5]) Try.func113 rfl rfl rfl (by simp [outSlots, moved, rvSlot, sl]) ?_
 intro B g bo
 refine CW.le [(0, .agg ((Node.c n).map .r)), (1, I idx)] rfl (Le.of rfl) ?_
 have hl0 : n.log.entries.length ≤ maxLen := by have := hok.2.1.1; simp only [maxLen]; omega
 refine CW.seq ?_
 refine CW.region ?_
 refine RW.box (ds := ((Node.c n).map .r)) rfl rfl rfl fun b1 => ?_
 refine RW.v rfl (V.as (d := I 0) rfl rfl) ?_
 refine RW.v rfl (V.as (d := .r (.v (.slice none 0 0))) rfl rfl) ?_
 refine RW.nil ?_
 refine CW.le [(1, I idx), (2, .obj b1 ((Node.c n).map .r))] rfl (Le.of rfl) ?_
 refine CW.seq ?_
 refine CW.seq ?_
 refine CW.region ?_
 refine RW.v rfl (V.field rfl rfl rfl rfl (by decide) rfl) ?_
 refine RW.v rfl (V.field rfl rfl rfl rfl (by decide) rfl) ?_
 refine RW.v rfl (V.loadPrim (d := .r (sl 3 Entry.c n.log.entries)) rfl rfl (.inr ⟨_, rfl⟩) rfl rfl rfl) ?_
 refine RW.v rfl (V.lenT (n := n.log.entries.length) rfl rfl rfl .r) ?_
 refine RW.v rfl (V.arInt rfl rfl rfl rfl) ?_
 refine RW.v rfl (V.as (d := I (IntKind.i64.wrap ((n.log.entries.length : Int) - 1))) rfl rfl) ?_
 refine RW.nil ?_
 refine CW.le [(1, I idx), (2, .obj b1 ((Node.c n).map .r)), (6, I (IntKind.i64.wrap ((n.log.entries.length : Int) - 1)))] rfl (Le.of rfl) ?_
 refine CW.block ?_
 refine CW.loopI 57 (fun (i : Nat) => [(1, I idx), (2, .obj b1 ((Node.c n).map .r)), (6, I ((i : Int) - 1))]) (fun (i : Nat) => i ≤ n.log.entries.length ∧ lcGo n.log.start idx n.log.entries i = lcGo n.log.start idx n.log.entries n.log.entries.length) (fun (i : Nat) => i) n.log.entries.length rfl (Le.c rfl <| Le.c rfl <| Le.c (congrArg I (wrap_pred hl0)) <| Le.e) ⟨by omega, rfl⟩ ?_
 rintro i ⟨hb, hr⟩
 refine CW.seq ?_
 refine CW.seq ?_
 refine CW.region ?_
 refine RW.v rfl (V.mv (d := I ((i : Int) - 1)) rfl rfl) ?_
 refine RW.v rfl (V.cmpInt rfl rfl rfl rfl) ?_
 refine RW.nil ?_
 refine CW.le [(1, I idx), (2, .obj b1 ((Node.c n).map .r)), (6, I ((i : Int) - 1)), (16, Bo (decide (((i : Int) - 1) ≥ 0)))] rfl (Le.of rfl) ?_
 refine CW.cond rfl (fun h2 => ?_) (fun h2 => ?_)
 ·skip
  have hi1 : 0 < i := by simp at h2; omega
  refine CW.skip ?_
  refine CW.le [(1, I idx), (2, .obj b1 ((Node.c n).map .r)), (6, I ((i : Int) - 1))] rfl (Le.of rfl) ?_
  refine CW.seq ?_
  refine CW.block ?_
  refine CW.seq ?_
  refine CW.region ?_
  refine RW.v rfl (V.field rfl rfl rfl rfl (by decide) rfl) ?_
  refine RW.v rfl (V.field rfl rfl rfl rfl (by decide) rfl) ?_
  refine RW.v rfl (V.loadPrim (d := .r (sl 3 Entry.c n.log.entries)) rfl rfl (.inr ⟨_, rfl⟩) rfl rfl rfl) ?_
  refine RW.v rfl (V.mv (d := I ((i : Int) - 1)) rfl rfl) ?_
  refine RW.v rfl (V.indexZ (m := (i - 1)) (v := (n.log.entries.getD (i - 1) Entry.z)) rfl rfl rfl rfl rfl rfl (by omega) Entry.len (getD_some (by omega))) ?_
  refine RW.v rfl (V.loadAggR rfl rfl rfl rfl (Nat.le_of_ble_eq_true rfl)) ?_
  refine RW.alloc (ds := [I 0, I 0, S (⟨#[]⟩)]) rfl rfl rfl rfl fun b3 => ?_
  refine RW.storeAgg (es := ((Entry.c (n.log.entries.getD (i - 1) Entry.z)).map .r)) rfl rfl rfl rfl rfl rfl rfl rfl (Nat.le_of_ble_eq_true rfl) rfl ?_
  refine RW.nil ?_
  refine CW.le [(1, I idx), (2, .obj b1 ((Node.c n).map .r)), (6, I ((i : Int) - 1)), (7, .obj b3 ((Entry.c (n.log.entries.getD (i - 1) Entry.z)).map .r))] rfl (Le.of rfl) ?_
  refine CW.seq ?_
  refine CW.region ?_
  refine RW.v rfl (V.field rfl rfl rfl rfl (by decide) rfl) ?_
  refine RW.v rfl (V.loadPrim (d := S ((n.log.entries.getD (i - 1) Entry.z).data)) rfl rfl (.inl rfl) rfl rfl rfl) ?_
  refine RW.call rfl (impl_ReadConf_fn ((n.log.entries.getD (i - 1) Entry.z).data) (hok.2.1.2 _ (getD_mem (by omega)))) rfl (.cons (.one (.r .r)) (.nil)) fun g4 => ?_
  refine RW.moveMove rfl rfl rfl (by decide) (Nat.le_of_ble_eq_true rfl) (Nat.le_of_ble_eq_true rfl) ?_
  refine RW.extract (d := .w (sl 1 cI ((readConf ((n.log.entries.getD (i - 1) Entry.z).data)).1)) (g4 0 0)) rfl rfl rfl (by decide) (Nat.le_of_ble_eq_true rfl) rfl rfl ?_
  refine RW.extract (d := Bo ((readConf ((n.log.entries.getD (i - 1) Entry.z).data)).2)) rfl rfl rfl (by decide) (Nat.le_of_ble_eq_true rfl) rfl rfl ?_
  refine RW.assignMove rfl rfl rfl (by decide) (Nat.le_of_ble_eq_true rfl) (Nat.le_of_ble_eq_true rfl) ?_
  refine RW.v rfl (V.as (d := Bo ((readConf ((n.log.entries.getD (i - 1) Entry.z).data)).2)) rfl rfl) ?_
  refine RW.nil ?_
  refine CW.le [(1, I idx), (2, .obj b1 ((Node.c n).map .r)), (6, I ((i : Int) - 1)), (7, .obj b3 ((Entry.c (n.log.entries.getD (i - 1) Entry.z)).map .r)), (8, .w (sl 1 cI ((readConf ((n.log.entries.getD (i - 1) Entry.z).data)).1)) (g4 0 0)), (9, Bo ((readConf ((n.log.entries.getD (i - 1) Entry.z).data)).2))] rfl (Le.of rfl) ?_
  refine CW.seqJ 57 (fun (v5 : Bool) => [(1, I idx), (2, .obj b1 ((Node.c n).map .r)), (6, I ((i : Int) - 1)), (8, .w (sl 1 cI ((readConf ((n.log.entries.getD (i - 1) Entry.z).data)).1)) (g4 0 0)), (46, Bo v5)]) (fun v5 => v5 = ((((readConf ((n.log.entries.getD (i - 1) Entry.z).data)).2) && ((n.log.entries.getD (i - 1) Entry.z).kind == 2)) && decide ((IntKind.i64.wrap ((IntKind.i64.wrap (n.log.start + ((i : Int) - 1))) + 1)) ≤ idx))) ?_ ?_
  ·refine CW.region ?_
   refine RW.v rfl (V.mv (d := Bo ((readConf ((n.log.entries.getD (i - 1) Entry.z).data)).2)) rfl rfl) ?_
   refine RW.v rfl (V.mv (d := Bo ((readConf ((n.log.entries.getD (i - 1) Entry.z).data)).2)) rfl rfl) ?_
   refine RW.gv rfl rfl rfl rfl (fun h6 => V.field rfl rfl rfl rfl (by decide) rfl) (fun h6 => ?_) (fun h6 => ?_)
   ·skip
    refine RW.gt rfl rfl rfl rfl (V.loadPrim (d := I ((n.log.entries.getD (i - 1) Entry.z).kind)) rfl rfl (.inl rfl) rfl rfl rfl) ?_
    refine RW.gt rfl rfl rfl rfl (V.cmpInt rfl rfl rfl rfl) ?_
    refine RW.v rfl (V.pickT (d := Bo ((n.log.entries.getD (i - 1) Entry.z).kind == 2)) rfl rfl rfl) ?_
    refine RW.v rfl (V.mv (d := Bo ((n.log.entries.getD (i - 1) Entry.z).kind == 2)) rfl rfl) ?_
    refine RW.gv rfl rfl rfl rfl (fun h7 => V.field rfl rfl rfl rfl (by decide) rfl) (fun h7 => ?_) (fun h7 => ?_)
    ·skip
     refine RW.gt rfl rfl rfl rfl (V.field rfl rfl rfl rfl (by decide) rfl) ?_
     refine RW.gt rfl rfl rfl rfl (V.loadPrim (d := I n.log.start) rfl rfl (.inl rfl) rfl rfl rfl) ?_
     refine RW.gt rfl rfl rfl rfl (V.mv (d := I ((i : Int) - 1)) rfl rfl) ?_
     refine RW.gt rfl rfl rfl rfl (V.arInt rfl rfl rfl rfl) ?_
     refine RW.gt rfl rfl rfl rfl (V.arInt rfl rfl rfl rfl) ?_
     refine RW.gt rfl rfl rfl rfl (V.mv (d := I idx) rfl rfl) ?_
     refine RW.gt rfl rfl rfl rfl (V.cmpInt rfl rfl rfl rfl) ?_
     refine RW.v rfl (V.pickT (d := Bo (decide ((IntKind.i64.wrap ((IntKind.i64.wrap (n.log.start + ((i : Int) - 1))) + 1)) ≤ idx))) rfl rfl rfl) ?_
     refine RW.nil ?_
     exact ⟨_, by first | rfl | (simp_all; done) | (simp_all; omega) | grind, rfl, Le.c rfl <| Le.c rfl <| Le.c rfl <| Le.c rfl <| Le.c rfl <| Le.e⟩
    ·skip
     refine RW.guardF rfl rfl rfl rfl ?_
     refine RW.guardF rfl rfl rfl rfl ?_
     refine RW.guardF rfl rfl rfl rfl ?_
     refine RW.guardF rfl rfl rfl rfl ?_
     refine RW.guardF rfl rfl rfl rfl ?_
     refine RW.guardF rfl rfl rfl rfl ?_
     refine RW.guardF rfl rfl rfl rfl ?_
     refine RW.v rfl (V.pickF (d := Bo false) rfl rfl rfl) ?_
     refine RW.nil ?_
     exact ⟨_, by first | rfl | (simp_all; done) | (simp_all; omega) | grind, rfl, Le.c rfl <| Le.c rfl <| Le.c rfl <| Le.c rfl <| Le.c rfl <| Le.e⟩
   ·skip
    refine RW.guardF rfl rfl rfl rfl ?_
    refine RW.guardF rfl rfl rfl rfl ?_
    refine RW.v rfl (V.pickF (d := Bo false) rfl rfl rfl) ?_
    refine RW.v rfl (V.mv (d := Bo false) rfl rfl) ?_
    refine RW.guardF rfl rfl rfl rfl ?_
    refine RW.guardF rfl rfl rfl rfl ?_
    refine RW.guardF rfl rfl rfl rfl ?_
    refine RW.guardF rfl rfl rfl rfl ?_
    refine RW.guardF rfl rfl rfl rfl ?_
    refine RW.guardF rfl rfl rfl rfl ?_
    refine RW.guardF rfl rfl rfl rfl ?_
    refine RW.guardF rfl rfl rfl rfl ?_
    refine RW.v rfl (V.pickF (d := Bo false) rfl rfl rfl) ?_
    refine RW.nil ?_
    exact ⟨_, by first | rfl | (simp_all; done) | (simp_all; omega) | grind, rfl, Le.c rfl <| Le.c rfl <| Le.c rfl <| Le.c rfl <| Le.c rfl <| Le.e⟩
  ·intro v5 hv8
   refine CW.cond rfl (fun h9 => ?_) (fun h9 => ?_)
   ·skip
    refine CW.seq ?_
    refine CW.region ?_
    refine RW.v rfl (V.field rfl rfl rfl rfl (by decide) rfl) ?_
    refine RW.v rfl (V.field rfl rfl rfl rfl (by decide) rfl) ?_
    refine RW.v rfl (V.loadPrim (d := I n.log.start) rfl rfl (.inl rfl) rfl rfl rfl) ?_
    refine RW.v rfl (V.mv (d := I ((i : Int) - 1)) rfl rfl) ?_
    refine RW.v rfl (V.arInt rfl rfl rfl rfl) ?_
    refine RW.v rfl (V.arInt rfl rfl rfl rfl) ?_
    refine RW.v rfl (V.mv (d := .al 8 none 1 (((readConf ((n.log.entries.getD (i - 1) Entry.z).data)).1).length) (g4 0 0) 0) rfl rfl) ?_
    refine RW.v rfl (V.as (d := I (IntKind.i64.wrap ((IntKind.i64.wrap (n.log.start + ((i : Int) - 1))) + 1))) rfl rfl) ?_
    refine RW.v rfl (V.as (d := .al 8 none 1 (((readConf ((n.log.entries.getD (i - 1) Entry.z).data)).1).length) (g4 0 0) 0) rfl rfl) ?_
    refine RW.pullS 5 8 (by decide) rfl rfl ?_
    refine RW.nil ?_
    refine CW.le [(4, I (IntKind.i64.wrap ((IntKind.i64.wrap (n.log.start + ((i : Int) - 1))) + 1))), (5, .w (sl 1 cI ((readConf ((n.log.entries.getD (i - 1) Entry.z).data)).1)) (g4 0 0))] rfl (Le.of rfl) ?_
    refine CW.ret ?_
    exact Post.tup (by decide) (RVs.c (RV.i rfl (by rw [lastC, ← hr, lc_at hi1, if_pos (by rw [← hv8]; exact h9)]; rfl)) (RVs.c (RV.w rfl (by rw [lastC, ← hr, lc_at hi1, if_pos (by rw [← hv8]; exact h9)]; rfl)) RVs.e)) (AOs.a rfl (AOs.r AOs.e))
   ·skip
    refine CW.skip ?_
    refine CW.le [(1, I idx), (2, .obj b1 ((Node.c n).map .r)), (6, I ((i : Int) - 1))] rfl (Le.of rfl) ?_
    refine CW.region ?_
    refine RW.v rfl (V.mv (d := I ((i : Int) - 1)) rfl rfl) ?_
    refine RW.v rfl (V.arInt rfl rfl rfl rfl) ?_
    refine RW.v rfl (V.as (d := I (IntKind.i64.wrap (((i : Int) - 1) - 1))) rfl rfl) ?_
    refine RW.nil ?_
    exact ⟨i - 1, by omega, ⟨by omega, by rw [← hr, lc_at hi1, if_neg (by rw [← hv8, h9]; simp)]⟩, rfl, Le.c rfl <| Le.c rfl <| Le.c (congrArg I (wrap_pp hi1 hb hl0)) <| Le.e⟩
 ·skip
  have hi0 : i = 0 := by simp at h2; omega
  refine CW.exit ?_
  refine CW.le [(2, .obj b1 ((Node.c n).map .r))] rfl (Le.of rfl) ?_
  refine CW.seq ?_
  refine CW.region ?_
  refine RW.v rfl (V.field rfl rfl rfl rfl (by decide) rfl) ?_
  refine RW.v rfl (V.loadPrim (d := .r (sl 1 cI n.conf)) rfl rfl (.inr ⟨_, rfl⟩) rfl rfl rfl) ?_
  refine RW.call rfl (impl_copyInts_fn n.conf (hok.1.1)) rfl (.cons (.one (.r .r)) (.nil)) fun g10 => ?_
  refine RW.v rfl (V.as (d := I (-1)) rfl rfl) ?_
  refine RW.assignMove rfl rfl rfl (by decide) (Nat.le_of_ble_eq_true rfl) (Nat.le_of_ble_eq_true rfl) ?_
  refine RW.nil ?_
  refine CW.le [(4, I (-1)), (5, .w (sl 1 cI n.conf) (g10 0 0))] rfl (Le.of rfl) ?_
  refine CW.ret ?_
  exact Post.tup (by decide) (RVs.c (RV.i rfl (by subst hi0; rw [lastC, ← hr]; rfl)) (RVs.c (RV.w rfl (by subst hi0; rw [lastC, ← hr]; rfl)) RVs.e)) (AOs.a rfl (AOs.r AOs.e))
set_option maxHeartbeats 4000000 in
theorem impl_ConfOf_fn (n : Node) (hok : okToNode n) : Eng.Fn E.P 44 [.agg ((Node.c n).map .r)] (.one (.one (.w (sl 1 cI ((lastC n (logLast n.log).1).2))))) [.agg ((Node.c n).map .r)] := by
 refine Eng.Fn.intro (E := E) (rvs := [.tmp 2]) Try.func44 rfl rfl rfl (by simp [outSlots, moved, rvSlot, sl]) ?_
 intro B g bo
 refine CW.le [(0, .agg ((Node.c n).map .r))] rfl (Le.of rfl) ?_
 refine CW.seq ?_
 refine CW.region ?_
 refine RW.box (ds := ((Node.c n).map .r)) rfl rfl rfl fun b1 => ?_
 refine RW.v rfl (V.as (d := .r (.v (.slice none 0 0))) rfl rfl) ?_
 refine RW.nil ?_
 refine CW.le [(1, .obj b1 ((Node.c n).map .r))] rfl (Le.of rfl) ?_
 refine CW.seq ?_
 refine CW.region ?_
 refine RW.v rfl (V.field rfl rfl rfl rfl (by decide) rfl) ?_
 refine RW.v rfl (V.loadAgg rfl rfl rfl rfl rfl (Nat.le_of_ble_eq_true rfl)) ?_
 refine RW.call rfl (impl_LogLast_fn n.log (hok.2.1)) rfl (.cons (.agg (.cons (.r .r) (.cons (.r .r) (.cons (.r .r) (.nil))))) (.nil)) fun g2 => ?_
 refine RW.moveMove rfl rfl rfl (by decide) (Nat.le_of_ble_eq_true rfl) (Nat.le_of_ble_eq_true rfl) ?_
 refine RW.extract (d := I ((logLast n.log).1)) rfl rfl rfl (by decide) (Nat.le_of_ble_eq_true rfl) rfl rfl ?_
 refine RW.extract (d := I ((logLast n.log).2)) rfl rfl rfl (by decide) (Nat.le_of_ble_eq_true rfl) rfl rfl ?_
 refine RW.v rfl (V.as (d := I ((logLast n.log).1)) rfl rfl) ?_
 refine RW.v rfl (V.as (d := I ((logLast n.log).2)) rfl rfl) ?_
 refine RW.nil ?_
 refine CW.le [(1, .obj b1 ((Node.c n).map .r)), (3, I ((logLast n.log).1))] rfl (Le.of rfl) ?_
 refine CW.seq ?_
 refine CW.region ?_
 refine RW.v rfl (V.loadAgg rfl rfl rfl rfl rfl (Nat.le_of_ble_eq_true rfl)) ?_
 refine RW.v rfl (V.mv (d := I ((logLast n.log).1)) rfl rfl) ?_
 refine RW.call rfl (impl_lastConf_fn n ((logLast n.log).1) hok) rfl (.cons (.agg (.cons (.r .r) (.cons (.r .r) (.cons (.r .r) (.cons (.r .r) (.cons (.r .r) (.cons (.r .r) (.cons (.r .r) (.cons (.r .r) (.cons (.r .r) (.cons (.r .r) (.cons (.r .r) (.cons (.r .r) (.cons (.r .r) (.cons (.r .r) (.nil)))))))))))))))) (.cons (.one (.r .r)) (.nil))) fun g3 => ?_
 refine RW.moveMove rfl rfl rfl (by decide) (Nat.le_of_ble_eq_true rfl) (Nat.le_of_ble_eq_true rfl) ?_
 refine RW.extract (d := I ((lastC n ((logLast n.log).1)).1)) rfl rfl rfl (by decide) (Nat.le_of_ble_eq_true rfl) rfl rfl ?_
 refine RW.extract (d := .w (sl 1 cI ((lastC n ((logLast n.log).1)).2)) (g3 1 0)) rfl rfl rfl (by decide) (Nat.le_of_ble_eq_true rfl) rfl rfl ?_
 refine RW.v rfl (V.as (d := I ((lastC n ((logLast n.log).1)).1)) rfl rfl) ?_
 refine RW.assignMove rfl rfl rfl (by decide) (Nat.le_of_ble_eq_true rfl) (Nat.le_of_ble_eq_true rfl) ?_
 refine RW.nil ?_
 refine CW.le [(6, .w (sl 1 cI ((lastC n ((logLast n.log).1)).2)) (g3 1 0))] rfl (Le.of rfl) ?_
 refine CW.seq ?_
 refine CW.region ?_
 refine RW.v rfl (V.mv (d := .al 6 none 1 (((lastC n ((logLast n.log).1)).2).length) (g3 1 0) 0) rfl rfl) ?_
 refine RW.v rfl (V.as (d := .al 6 none 1 (((lastC n ((logLast n.log).1)).2).length) (g3 1 0) 0) rfl rfl) ?_
 refine RW.pullS 2 6 (by decide) rfl rfl ?_
 refine RW.nil ?_
 refine CW.le [(2, .w (sl 1 cI ((lastC n ((logLast n.log).1)).2)) (g3 1 0))] rfl (Le.of rfl) ?_
 refine CW.ret ?_
 exact Post.one (RV.w rfl (by rfl)) (AOs.a rfl AOs.e)
set_option maxHeartbeats 4000000 in
theorem spec_ConfAt_fn (n : Node) (idx : Int) (hok : okToNode n) : Eng.Fn E.P 82 [.agg ((Node.c n).map .r), .one (.r (.v (.int .i64 idx)))] (.one (.one (.w (sl 1 cI (confAtS n idx))))) [.agg ((Node.c n).map .r), .one (.r (.v (.int .i64 idx)))] := by
 refine Eng.Fn.intro (E := E) (rvs := [.tmp 4]) Try.func82 rfl rfl rfl (by simp [outSlots, moved, rvSlot, sl]) ?_
 intro B g bo
 refine CW.le [(0, .agg ((Node.c n).map .r)), (1, I idx)] rfl (Le.of rfl) ?_
 have hl0 : n.log.entries.length ≤ maxLen := by have := hok.2.1.1; simp only [maxLen]; omega
 refine CW.seq ?_
 refine CW.region ?_
 refine RW.box (ds := ((Node.c n).map .r)) rfl rfl rfl fun b1 => ?_
 refine RW.v rfl (V.as (d := .r (.v (.slice none 0 0))) rfl rfl) ?_
 refine RW.nil ?_
 refine CW.le [(1, I idx), (2, .obj b1 ((Node.c n).map .r))] rfl (Le.of rfl) ?_
 refine CW.seq ?_
 refine CW.region ?_
 refine RW.build0 cI rfl rfl rfl rfl rfl fun X2 => ?_
 refine RW.v rfl (V.field rfl rfl rfl rfl (by decide) rfl) ?_
 refine RW.v rfl (V.loadPrim (d := .r (sl 1 cI n.conf)) rfl rfl (.inr ⟨_, rfl⟩) rfl rfl rfl) ?_
 refine RW.appendSR (c := cI) (l1 := ([] : List Int)) (l2 := n.conf) rfl rfl rfl rfl rfl rfl rfl rfl .r (by decide) (Nat.le_of_ble_eq_true rfl) cI.len (fun _ => rfl) rfl (by have := hok.1.1; simp only [maxLen, List.length_nil]; omega) (by have := hok.1.1; simp only [maxLen, List.length_nil]; omega) fun X3 => ?_
 refine RW.assignMove rfl rfl rfl (by decide) (Nat.le_of_ble_eq_true rfl) (Nat.le_of_ble_eq_true rfl) ?_
 refine RW.nil ?_
 refine CW.le [(1, I idx), (2, .obj b1 ((Node.c n).map .r)), (5, .w (sl 1 cI (([] : List Int) ++ n.conf)) X3)] rfl (Le.of rfl) ?_
 refine CW.seq ?_
 refine CW.seq ?_
 refine CW.region ?_
 refine RW.v rfl (V.as (d := I 0) rfl rfl) ?_
 refine RW.nil ?_
 refine CW.le [(1, I idx), (2, .obj b1 ((Node.c n).map .r)), (5, .w (sl 1 cI (([] : List Int) ++ n.conf)) X3), (6, I 0)] rfl (Le.of rfl) ?_
 refine CW.block ?_
 refine CW.loopI 53 (fun (x : Nat × List Int × Value) => match x with | (i, out, X) => [(1, I idx), (2, .obj b1 ((Node.c n).map .r)), (5, .w (sl 1 cI out) X), (6, I (i : Int))]) (fun (x : Nat × List Int × Value) => match x with | (i, out, X) => i ≤ n.log.entries.length ∧ cfGo n.log.start idx i (n.log.entries.drop i) out = cfGo n.log.start idx 0 n.log.entries n.conf) (fun (x : Nat × List Int × Value) => match x with | (i, out, X) => n.log.entries.length - i) (0, _, _) rfl (Le.c rfl <| Le.c rfl <| Le.c rfl <| Le.c rfl <| Le.e) ⟨by omega, by simp⟩ ?_
 rintro ⟨i, out, X⟩ ⟨hb, hr⟩
 refine CW.seq ?_
 refine CW.seqJ 53 (fun (v4 : Bool) => [(1, I idx), (2, .obj b1 ((Node.c n).map .r)), (5, .w (sl 1 cI out) X), (6, I (i : Int)), (28, Bo v4)]) (fun v4 => v4 = (decide ((i : Int) < (n.log.entries.length : Int)) && decide ((IntKind.i64.wrap ((IntKind.i64.wrap (n.log.start + 1)) + (i : Int))) ≤ idx))) ?_ ?_
 ·refine CW.region ?_
  refine RW.v rfl (V.mv (d := I (i : Int)) rfl rfl) ?_
  refine RW.v rfl (V.field rfl rfl rfl rfl (by decide) rfl) ?_
  refine RW.v rfl (V.field rfl rfl rfl rfl (by decide) rfl) ?_
  refine RW.v rfl (V.loadPrim (d := .r (sl 3 Entry.c n.log.entries)) rfl rfl (.inr ⟨_, rfl⟩) rfl rfl rfl) ?_
  refine RW.v rfl (V.lenT (n := n.log.entries.length) rfl rfl rfl .r) ?_
  refine RW.v rfl (V.cmpInt rfl rfl rfl rfl) ?_
  refine RW.v rfl (V.mv (d := Bo (decide ((i : Int) < (n.log.entries.length : Int)))) rfl rfl) ?_
  refine RW.gv rfl rfl rfl rfl (fun h5 => V.field rfl rfl rfl rfl (by decide) rfl) (fun h5 => ?_) (fun h5 => ?_)
  ·skip
   refine RW.gt rfl rfl rfl rfl (V.field rfl rfl rfl rfl (by decide) rfl) ?_
   refine RW.gt rfl rfl rfl rfl (V.loadPrim (d := I n.log.start) rfl rfl (.inl rfl) rfl rfl rfl) ?_
   refine RW.gt rfl rfl rfl rfl (V.arInt rfl rfl rfl rfl) ?_
   refine RW.gt rfl rfl rfl rfl (V.mv (d := I (i : Int)) rfl rfl) ?_
   refine RW.gt rfl rfl rfl rfl (V.arInt rfl rfl rfl rfl) ?_
   refine RW.gt rfl rfl rfl rfl (V.mv (d := I idx) rfl rfl) ?_
   refine RW.gt rfl rfl rfl rfl (V.cmpInt rfl rfl rfl rfl) ?_
   refine RW.v rfl (V.pickT (d := Bo (decide ((IntKind.i64.wrap ((IntKind.i64.wrap (n.log.start + 1)) + (i : Int))) ≤ idx))) rfl rfl rfl) ?_
   refine RW.nil ?_
   exact ⟨_, by first | rfl | (simp_all; done) | (simp_all; omega) | grind, rfl, Le.c rfl <| Le.c rfl <| Le.c rfl <| Le.c rfl <| Le.c rfl <| Le.e⟩
  ·skip
   refine RW.guardF rfl rfl rfl rfl ?_
   refine RW.guardF rfl rfl rfl rfl ?_
   refine RW.guardF rfl rfl rfl rfl ?_
   refine RW.guardF rfl rfl rfl rfl ?_
   refine RW.guardF rfl rfl rfl rfl ?_
   refine RW.guardF rfl rfl rfl rfl ?_
   refine RW.guardF rfl rfl rfl rfl ?_
   refine RW.v rfl (V.pickF (d := Bo false) rfl rfl rfl) ?_
   refine RW.nil ?_
   exact ⟨_, by first | rfl | (simp_all; done) | (simp_all; omega) | grind, rfl, Le.c rfl <| Le.c rfl <| Le.c rfl <| Le.c rfl <| Le.c rfl <| Le.e⟩
 ·intro v4 hv6
  refine CW.cond rfl (fun h7 => ?_) (fun h7 => ?_)
  ·skip
   have hii : i < n.log.entries.length := by rw [hv6] at h7; simp at h7; omega
   have hle : IntKind.i64.wrap (IntKind.i64.wrap (n.log.start + 1) + (i : Int)) ≤ idx := by rw [hv6] at h7; simp at h7; exact h7.2
   obtain ⟨ei, hei⟩ : ∃ e, n.log.entries[i]? = some e := ⟨_, List.getElem?_eq_getElem hii⟩
   have hdi := drop_get hei
   refine CW.skip ?_
   refine CW.le [(1, I idx), (2, .obj b1 ((Node.c n).map .r)), (5, .w (sl 1 cI out) X), (6, I (i : Int))] rfl (Le.of rfl) ?_
   refine CW.seq ?_
   refine CW.block ?_
   refine CW.seq ?_
   refine CW.region ?_
   refine RW.v rfl (V.field rfl rfl rfl rfl (by decide) rfl) ?_
   refine RW.v rfl (V.field rfl rfl rfl rfl (by decide) rfl) ?_
   refine RW.v rfl (V.loadPrim (d := .r (sl 3 Entry.c n.log.entries)) rfl rfl (.inr ⟨_, rfl⟩) rfl rfl rfl) ?_
   refine RW.v rfl (V.mv (d := I (i : Int)) rfl rfl) ?_
   refine RW.v rfl (V.indexS rfl rfl rfl rfl rfl rfl Entry.len hei) ?_
   refine RW.v rfl (V.fieldR rfl rfl rfl rfl (by decide) rfl (Nat.le_of_ble_eq_true rfl)) ?_
   refine RW.v rfl (V.loadPrimR (t0 := .v (.int .i64 ei.kind)) rfl rfl (.inl rfl) rfl rfl) ?_
   refine RW.v rfl (V.cmpInt rfl rfl rfl rfl) ?_
   refine RW.nil ?_
   refine CW.le [(1, I idx), (2, .obj b1 ((Node.c n).map .r)), (5, .w (sl 1 cI out) X), (6, I (i : Int)), (38, Bo (ei.kind == 2))] rfl (Le.of rfl) ?_
   refine CW.cond rfl (fun h8 => ?_) (fun h8 => ?_)
   ·skip
    refine CW.seq ?_
    refine CW.region ?_
    refine RW.v rfl (V.field rfl rfl rfl rfl (by decide) rfl) ?_
    refine RW.v rfl (V.field rfl rfl rfl rfl (by decide) rfl) ?_
    refine RW.v rfl (V.loadPrim (d := .r (sl 3 Entry.c n.log.entries)) rfl rfl (.inr ⟨_, rfl⟩) rfl rfl rfl) ?_
    refine RW.v rfl (V.mv (d := I (i : Int)) rfl rfl) ?_
    refine RW.v rfl (V.indexS rfl rfl rfl rfl rfl rfl Entry.len hei) ?_
    refine RW.v rfl (V.fieldR rfl rfl rfl rfl (by decide) rfl (Nat.le_of_ble_eq_true rfl)) ?_
    refine RW.v rfl (V.loadPrimR (t0 := .v (.string ei.data)) rfl rfl (.inl rfl) rfl rfl) ?_
    refine RW.call rfl (spec_ReadConf_fn ei.data (hok.2.1.2 ei (List.mem_of_getElem? hei))) rfl (.cons (.one (.r .r)) (.nil)) fun g9 => ?_
    refine RW.moveMove rfl rfl rfl (by decide) (Nat.le_of_ble_eq_true rfl) (Nat.le_of_ble_eq_true rfl) ?_
    refine RW.extract (d := .w (sl 1 cI ((readConf ei.data).1)) (g9 0 0)) rfl rfl rfl (by decide) (Nat.le_of_ble_eq_true rfl) rfl rfl ?_
    refine RW.extract (d := Bo ((readConf ei.data).2)) rfl rfl rfl (by decide) (Nat.le_of_ble_eq_true rfl) rfl rfl ?_
    refine RW.assignMove rfl rfl rfl (by decide) (Nat.le_of_ble_eq_true rfl) (Nat.le_of_ble_eq_true rfl) ?_
    refine RW.v rfl (V.as (d := Bo ((readConf ei.data).2)) rfl rfl) ?_
    refine RW.nil ?_
    refine CW.le [(1, I idx), (2, .obj b1 ((Node.c n).map .r)), (5, .w (sl 1 cI out) X), (6, I (i : Int)), (7, .w (sl 1 cI ((readConf ei.data).1)) (g9 0 0)), (8, Bo ((readConf ei.data).2))] rfl (Le.of rfl) ?_
    refine CW.seq ?_
    refine CW.region ?_
    refine RW.v rfl (V.mv (d := Bo ((readConf ei.data).2)) rfl rfl) ?_
    refine RW.nil ?_
    refine CW.le [(1, I idx), (2, .obj b1 ((Node.c n).map .r)), (5, .w (sl 1 cI out) X), (6, I (i : Int)), (7, .w (sl 1 cI ((readConf ei.data).1)) (g9 0 0)), (50, Bo ((readConf ei.data).2))] rfl (Le.of rfl) ?_
    refine CW.cond rfl (fun h10 => ?_) (fun h10 => ?_)
    ·skip
     refine CW.region ?_
     refine RW.v rfl (V.mv (d := .al 7 none 1 (((readConf ei.data).1).length) (g9 0 0) 0) rfl rfl) ?_
     refine RW.v rfl (V.as (d := .al 7 none 1 (((readConf ei.data).1).length) (g9 0 0) 0) rfl rfl) ?_
     refine RW.pullS 5 7 (by decide) rfl rfl ?_
     refine RW.nil ?_
     refine CW.le [(1, I idx), (2, .obj b1 ((Node.c n).map .r)), (5, .w (sl 1 cI ((readConf ei.data).1)) (g9 0 0)), (6, I (i : Int))] rfl (Le.of rfl) ?_
     refine CW.region ?_
     refine RW.v rfl (V.mv (d := I (i : Int)) rfl rfl) ?_
     refine RW.v rfl (V.inc rfl rfl rfl hii hl0) ?_
     refine RW.v rfl (V.as (d := I ((i + 1 : Nat) : Int)) rfl rfl) ?_
     refine RW.nil ?_
     exact ⟨(i + 1, (readConf ei.data).1, _), by simp only []; omega, ⟨by omega, by rw [← hr, hdi]; exact cf_step hle (by simp_all)⟩, rfl, Le.c rfl <| Le.c rfl <| Le.c rfl <| Le.c rfl <| Le.e⟩
    ·skip
     refine CW.skip ?_
     refine CW.le [(1, I idx), (2, .obj b1 ((Node.c n).map .r)), (5, .w (sl 1 cI out) X), (6, I (i : Int))] rfl (Le.of rfl) ?_
     refine CW.region ?_
     refine RW.v rfl (V.mv (d := I (i : Int)) rfl rfl) ?_
     refine RW.v rfl (V.inc rfl rfl rfl hii hl0) ?_
     refine RW.v rfl (V.as (d := I ((i + 1 : Nat) : Int)) rfl rfl) ?_
     refine RW.nil ?_
     exact ⟨(i + 1, out, _), by simp only []; omega, ⟨by omega, by rw [← hr, hdi]; exact cf_step hle (by simp_all)⟩, rfl, Le.c rfl <| Le.c rfl <| Le.c rfl <| Le.c rfl <| Le.e⟩
   ·skip
    refine CW.skip ?_
    refine CW.le [(1, I idx), (2, .obj b1 ((Node.c n).map .r)), (5, .w (sl 1 cI out) X), (6, I (i : Int))] rfl (Le.of rfl) ?_
    refine CW.region ?_
    refine RW.v rfl (V.mv (d := I (i : Int)) rfl rfl) ?_
    refine RW.v rfl (V.inc rfl rfl rfl hii hl0) ?_
    refine RW.v rfl (V.as (d := I ((i + 1 : Nat) : Int)) rfl rfl) ?_
    refine RW.nil ?_
    exact ⟨(i + 1, out, _), by simp only []; omega, ⟨by omega, by rw [← hr, hdi]; exact cf_step hle (by simp_all)⟩, rfl, Le.c rfl <| Le.c rfl <| Le.c rfl <| Le.c rfl <| Le.e⟩
  ·skip
   refine CW.exit ?_
   refine CW.le [(5, .w (sl 1 cI out) X)] rfl (Le.of rfl) ?_
   refine CW.seq ?_
   refine CW.region ?_
   refine RW.v rfl (V.mv (d := .al 5 none 1 out.length X 0) rfl rfl) ?_
   refine RW.v rfl (V.as (d := .al 5 none 1 out.length X 0) rfl rfl) ?_
   refine RW.pullS 4 5 (by decide) rfl rfl ?_
   refine RW.nil ?_
   refine CW.le [(4, .w (sl 1 cI out) X)] rfl (Le.of rfl) ?_
   refine CW.ret ?_
   exact Post.one (RV.w rfl (by rw [confAtS, ← hr]; exact cf_stop hv6 h7)) (AOs.a rfl (AOs.r AOs.e))
set_option maxHeartbeats 4000000 in
theorem spec_ConfOf_fn (n : Node) (hok : okToNode n) : Eng.Fn E.P 62 [.agg ((Node.c n).map .r)] (.one (.one (.w (sl 1 cI (confAtS n 1000060))))) [.agg ((Node.c n).map .r)] := by
 refine Eng.Fn.intro (E := E) (rvs := [.tmp 2]) Try.func62 rfl rfl rfl (by simp [outSlots, moved, rvSlot, sl]) ?_
 intro B g bo
 refine CW.le [(0, .agg ((Node.c n).map .r))] rfl (Le.of rfl) ?_
 refine CW.seq ?_
 refine CW.region ?_
 refine RW.box (ds := ((Node.c n).map .r)) rfl rfl rfl fun b1 => ?_
 refine RW.v rfl (V.as (d := .r (.v (.slice none 0 0))) rfl rfl) ?_
 refine RW.nil ?_
 refine CW.le [(1, .obj b1 ((Node.c n).map .r))] rfl (Le.of rfl) ?_
 refine CW.seq ?_
 refine CW.region ?_
 refine RW.v rfl (V.loadAgg rfl rfl rfl rfl rfl (Nat.le_of_ble_eq_true rfl)) ?_
 refine RW.call rfl (spec_ConfAt_fn n 1000060 hok) rfl (.cons (.agg (.cons (.r .r) (.cons (.r .r) (.cons (.r .r) (.cons (.r .r) (.cons (.r .r) (.cons (.r .r) (.cons (.r .r) (.cons (.r .r) (.cons (.r .r) (.cons (.r .r) (.cons (.r .r) (.cons (.r .r) (.cons (.r .r) (.cons (.r .r) (.nil)))))))))))))))) (.cons (.one (.r .r)) (.nil))) fun g2 => ?_
 refine RW.assignMove rfl rfl rfl (by decide) (Nat.le_of_ble_eq_true rfl) (Nat.le_of_ble_eq_true rfl) ?_
 refine RW.nil ?_
 refine CW.le [(2, .w (sl 1 cI (confAtS n 1000060)) (g2 0 0))] rfl (Le.of rfl) ?_
 refine CW.ret ?_
 exact Post.one (RV.w rfl (by rfl)) (AOs.a rfl AOs.e)
set_option maxHeartbeats 4000000 in
theorem impl_peersOk_fn (n : Node) (hok : okToNode n) : Eng.Fn E.P 72 [.agg ((Node.c n).map .r)] (.one (.one (.w (.v (.bool (peersOkB n)))))) [.agg ((Node.c n).map .r)] := by
 refine Eng.Fn.intro (E := E) (rvs := [.tmp 2]) Try.func72 rfl rfl rfl (by simp [outSlots, moved, rvSlot, sl]) ?_
 intro B g bo
 refine CW.le [(0, .agg ((Node.c n).map .r))] rfl (Le.of rfl) ?_
 have hl0 : n.peers.length ≤ maxLen := by have := hok.2.2.2.1; simp only [maxLen]; omega
 refine CW.seq ?_
 refine CW.region ?_
 refine RW.box (ds := ((Node.c n).map .r)) rfl rfl rfl fun b1 => ?_
 refine RW.v rfl (V.as (d := Bo false) rfl rfl) ?_
 refine RW.nil ?_
 refine CW.le [(1, .obj b1 ((Node.c n).map .r))] rfl (Le.of rfl) ?_
 refine CW.seq ?_
 refine CW.region ?_
 refine RW.v rfl (V.field rfl rfl rfl rfl (by decide) rfl) ?_
 refine RW.v rfl (V.loadAgg rfl rfl rfl rfl rfl (Nat.le_of_ble_eq_true rfl)) ?_
 refine RW.call rfl (impl_LogLast_fn n.log (hok.2.1)) rfl (.cons (.agg (.cons (.r .r) (.cons (.r .r) (.cons (.r .r) (.nil))))) (.nil)) fun g2 => ?_
 refine RW.moveMove rfl rfl rfl (by decide) (Nat.le_of_ble_eq_true rfl) (Nat.le_of_ble_eq_true rfl) ?_
 refine RW.extract (d := I ((logLast n.log).1)) rfl rfl rfl (by decide) (Nat.le_of_ble_eq_true rfl) rfl rfl ?_
 refine RW.extract (d := I ((logLast n.log).2)) rfl rfl rfl (by decide) (Nat.le_of_ble_eq_true rfl) rfl rfl ?_
 refine RW.v rfl (V.as (d := I ((logLast n.log).1)) rfl rfl) ?_
 refine RW.v rfl (V.as (d := I ((logLast n.log).2)) rfl rfl) ?_
 refine RW.nil ?_
 refine CW.le [(1, .obj b1 ((Node.c n).map .r)), (3, I ((logLast n.log).1))] rfl (Le.of rfl) ?_
 refine CW.seq ?_
 refine CW.region ?_
 refine RW.build0 cI rfl rfl rfl rfl rfl fun X3 => ?_
 refine RW.assignMove rfl rfl rfl (by decide) (Nat.le_of_ble_eq_true rfl) (Nat.le_of_ble_eq_true rfl) ?_
 refine RW.nil ?_
 refine CW.le [(1, .obj b1 ((Node.c n).map .r)), (3, I ((logLast n.log).1)), (5, .w (sl 1 cI ([] : List Int)) X3)] rfl (Le.of rfl) ?_
 refine CW.seq ?_
 refine CW.seq ?_
 refine CW.region ?_
 refine RW.v rfl (V.field rfl rfl rfl rfl (by decide) rfl) ?_
 refine RW.v rfl (V.loadPrim (d := .r (sl 4 Peer.c n.peers)) rfl rfl (.inr ⟨_, rfl⟩) rfl rfl rfl) ?_
 refine RW.v rfl (V.lenT (n := n.peers.length) rfl rfl rfl .r) ?_
 refine RW.v rfl (V.mv (d := I 0) rfl rfl) ?_
 refine RW.nil ?_
 refine CW.le [(1, .obj b1 ((Node.c n).map .r)), (3, I ((logLast n.log).1)), (5, .w (sl 1 cI ([] : List Int)) X3), (16, .r (sl 4 Peer.c n.peers)), (17, I (n.peers.length : Int)), (18, I 0)] rfl (Le.of rfl) ?_
 refine CW.block ?_
 refine CW.loopI 56 (fun (x : Nat × Value) => match x with | (i, X) => [(1, .obj b1 ((Node.c n).map .r)), (3, I ((logLast n.log).1)), (5, .w (sl 1 cI ((n.peers.map (·.id)).take i)) X), (16, .r (sl 4 Peer.c n.peers)), (17, I (n.peers.length : Int)), (18, I (i : Int))]) (fun (x : Nat × Value) => match x with | (i, X) => i ≤ n.peers.length ∧ (n.peers.take i).all (pkOk (logLast n.log).1) = true) (fun (x : Nat × Value) => match x with | (i, X) => n.peers.length - i) (0, _) rfl (Le.c rfl <| Le.c rfl <| Le.c rfl <| Le.c rfl <| Le.c rfl <| Le.c rfl <| Le.e) ⟨by omega, by simp⟩ ?_
 rintro ⟨i, X⟩ ⟨hb, hr⟩
 refine CW.seq ?_
 refine CW.region ?_
 refine RW.v rfl (V.cmpInt rfl rfl rfl rfl) ?_
 refine RW.nil ?_
 refine CW.le [(1, .obj b1 ((Node.c n).map .r)), (3, I ((logLast n.log).1)), (5, .w (sl 1 cI ((n.peers.map (·.id)).take i)) X), (16, .r (sl 4 Peer.c n.peers)), (17, I (n.peers.length : Int)), (18, I (i : Int)), (19, Bo (decide ((i : Int) < (n.peers.length : Int))))] rfl (Le.of rfl) ?_
 refine CW.seq ?_
 refine CW.cond rfl (fun h4 => ?_) (fun h4 => ?_)
 ·skip
  have hii : i < n.peers.length := by have := h4; simp at this; first | exact this | omega | (simp; done) | (simp; omega)
  obtain ⟨ei, hei⟩ : ∃ e, n.peers[i]? = some e := ⟨_, List.getElem?_eq_getElem hii⟩
  have hdi := drop_get hei
  refine CW.skip ?_
  refine CW.le [(1, .obj b1 ((Node.c n).map .r)), (3, I ((logLast n.log).1)), (5, .w (sl 1 cI ((n.peers.map (·.id)).take i)) X), (16, .r (sl 4 Peer.c n.peers)), (17, I (n.peers.length : Int)), (18, I (i : Int))] rfl (Le.of rfl) ?_
  refine CW.seq ?_
  refine CW.block ?_
  refine CW.seq ?_
  refine CW.region ?_
  refine RW.v rfl (V.indexS rfl rfl rfl rfl rfl rfl Peer.len hei) ?_
  refine RW.v rfl (V.loadAggR rfl rfl rfl rfl (Nat.le_of_ble_eq_true rfl)) ?_
  refine RW.alloc (ds := [I 0, I 0, I 0, I 0]) rfl rfl rfl rfl fun b5 => ?_
  refine RW.storeAgg (es := ((Peer.c ei).map .r)) rfl rfl rfl rfl rfl rfl rfl rfl (Nat.le_of_ble_eq_true rfl) rfl ?_
  refine RW.nil ?_
  refine CW.le [(1, .obj b1 ((Node.c n).map .r)), (3, I ((logLast n.log).1)), (5, .w (sl 1 cI ((n.peers.map (·.id)).take i)) X), (7, .obj b5 ((Peer.c ei).map .r)), (16, .r (sl 4 Peer.c n.peers)), (17, I (n.peers.length : Int)), (18, I (i : Int))] rfl (Le.of rfl) ?_
  refine CW.seq ?_
  refine CW.seqJ 56 (fun (v6 : Bool) => [(1, .obj b1 ((Node.c n).map .r)), (3, I ((logLast n.log).1)), (5, .w (sl 1 cI ((n.peers.map (·.id)).take i)) X), (7, .obj b5 ((Peer.c ei).map .r)), (16, .r (sl 4 Peer.c n.peers)), (17, I (n.peers.length : Int)), (18, I (i : Int)), (42, Bo v6)]) (fun v6 => v6 = (((!(inR ei.next 1 (IntKind.i64.wrap (((logLast n.log).1) + 1)))) || (!(inR ei.match_ 0 (IntKind.i64.wrap (ei.next - 1))))) || (!(inR ei.sent 0 20000)))) ?_ ?_
  ·refine CW.region ?_
   refine RW.v rfl (V.field rfl rfl rfl rfl (by decide) rfl) ?_
   refine RW.v rfl (V.loadPrim (d := I ei.next) rfl rfl (.inl rfl) rfl rfl rfl) ?_
   refine RW.v rfl (V.mv (d := I ((logLast n.log).1)) rfl rfl) ?_
   refine RW.v rfl (V.arInt rfl rfl rfl rfl) ?_
   refine RW.call rfl (impl_within_fn ei.next 1 (IntKind.i64.wrap (((logLast n.log).1) + 1))) rfl (.cons (.one (.r .r)) (.cons (.one (.r .r)) (.cons (.one (.r .r)) (.nil)))) fun g7 => ?_
   refine RW.v rfl (V.not rfl rfl) ?_
   refine RW.v rfl (V.mv (d := Bo (!(inR ei.next 1 (IntKind.i64.wrap (((logLast n.log).1) + 1))))) rfl rfl) ?_
   refine RW.gv rfl rfl rfl rfl (fun h8 => V.field rfl rfl rfl rfl (by decide) rfl) (fun h8 => ?_) (fun h8 => ?_)
   ·skip
    refine RW.gt rfl rfl rfl rfl (V.loadPrim (d := I ei.match_) rfl rfl (.inl rfl) rfl rfl rfl) ?_
    refine RW.gt rfl rfl rfl rfl (V.field rfl rfl rfl rfl (by decide) rfl) ?_
    refine RW.gt rfl rfl rfl rfl (V.loadPrim (d := I ei.next) rfl rfl (.inl rfl) rfl rfl rfl) ?_
    refine RW.gt rfl rfl rfl rfl (V.arInt rfl rfl rfl rfl) ?_
    refine RW.gcall rfl rfl rfl rfl (impl_within_fn ei.match_ 0 (IntKind.i64.wrap (ei.next - 1))) rfl (.cons (.one (.r .r)) (.cons (.one (.r .r)) (.cons (.one (.r .r)) (.nil)))) fun g9 => ?_
    refine RW.gt rfl rfl rfl rfl (V.not rfl rfl) ?_
    refine RW.v rfl (V.pickF (d := Bo (!(inR ei.match_ 0 (IntKind.i64.wrap (ei.next - 1))))) rfl rfl rfl) ?_
    refine RW.v rfl (V.mv (d := Bo (!(inR ei.match_ 0 (IntKind.i64.wrap (ei.next - 1))))) rfl rfl) ?_
    refine RW.gv rfl rfl rfl rfl (fun h10 => V.field rfl rfl rfl rfl (by decide) rfl) (fun h10 => ?_) (fun h10 => ?_)
    ·skip
     refine RW.gt rfl rfl rfl rfl (V.loadPrim (d := I ei.sent) rfl rfl (.inl rfl) rfl rfl rfl) ?_
     refine RW.gcall rfl rfl rfl rfl (impl_within_fn ei.sent 0 20000) rfl (.cons (.one (.r .r)) (.cons (.one (.r .r)) (.cons (.one (.r .r)) (.nil)))) fun g11 => ?_
     refine RW.gt rfl rfl rfl rfl (V.not rfl rfl) ?_
     refine RW.v rfl (V.pickF (d := Bo (!(inR ei.sent 0 20000))) rfl rfl rfl) ?_
     refine RW.nil ?_
     exact ⟨_, by first | rfl | (simp_all; done) | (simp_all; omega) | grind, rfl, Le.c rfl <| Le.c rfl <| Le.c rfl <| Le.c rfl <| Le.c rfl <| Le.c rfl <| Le.c rfl <| Le.c rfl <| Le.e⟩
    ·skip
     refine RW.guardF rfl rfl rfl rfl ?_
     refine RW.guardF rfl rfl rfl rfl ?_
     refine RW.guardF rfl rfl rfl rfl ?_
     refine RW.v rfl (V.pickT (d := Bo true) rfl rfl rfl) ?_
     refine RW.nil ?_
     exact ⟨_, by first | rfl | (simp_all; done) | (simp_all; omega) | grind, rfl, Le.c rfl <| Le.c rfl <| Le.c rfl <| Le.c rfl <| Le.c rfl <| Le.c rfl <| Le.c rfl <| Le.c rfl <| Le.e⟩
   ·skip
    refine RW.guardF rfl rfl rfl rfl ?_
    refine RW.guardF rfl rfl rfl rfl ?_
    refine RW.guardF rfl rfl rfl rfl ?_
    refine RW.guardF rfl rfl rfl rfl ?_
    refine RW.guardF rfl rfl rfl rfl ?_
    refine RW.guardF rfl rfl rfl rfl ?_
    refine RW.v rfl (V.pickT (d := Bo true) rfl rfl rfl) ?_
    refine RW.v rfl (V.mv (d := Bo true) rfl rfl) ?_
    refine RW.guardF rfl rfl rfl rfl ?_
    refine RW.guardF rfl rfl rfl rfl ?_
    refine RW.guardF rfl rfl rfl rfl ?_
    refine RW.guardF rfl rfl rfl rfl ?_
    refine RW.v rfl (V.pickT (d := Bo true) rfl rfl rfl) ?_
    refine RW.nil ?_
    exact ⟨_, by first | rfl | (simp_all; done) | (simp_all; omega) | grind, rfl, Le.c rfl <| Le.c rfl <| Le.c rfl <| Le.c rfl <| Le.c rfl <| Le.c rfl <| Le.c rfl <| Le.c rfl <| Le.e⟩
  ·intro v6 hv12
   refine CW.cond rfl (fun h13 => ?_) (fun h13 => ?_)
   ·skip
    refine CW.seq ?_
    refine CW.region ?_
    refine RW.v rfl (V.as (d := Bo false) rfl rfl) ?_
    refine RW.nil ?_
    refine CW.le [(2, Bo false)] rfl (Le.of rfl) ?_
    refine CW.ret ?_
    exact Post.one (RV.b rfl (by have := all_not (p := pkOk (logLast n.log).1) hei (by first | (simp_all [pkOk]; done) | grind [pkOk]); simp [peersOkB, this])) (AOs.a rfl AOs.e)
   ·skip
    refine CW.skip ?_
    refine CW.le [(1, .obj b1 ((Node.c n).map .r)), (3, I ((logLast n.log).1)), (5, .w (sl 1 cI ((n.peers.map (·.id)).take i)) X), (7, .obj b5 ((Peer.c ei).map .r)), (16, .r (sl 4 Peer.c n.peers)), (17, I (n.peers.length : Int)), (18, I (i : Int))] rfl (Le.of rfl) ?_
    refine CW.region ?_
    refine RW.v rfl (V.mv (d := .al 5 none 1 (((n.peers.map (·.id)).take i).length) X 0) rfl rfl) ?_
    refine RW.v rfl (V.field rfl rfl rfl rfl (by decide) rfl) ?_
    refine RW.v rfl (V.loadPrim (d := I ei.id) rfl rfl (.inl rfl) rfl rfl rfl) ?_
    refine RW.build1c (c := cI) (v := ei.id) (u := .v (.int .i64 ei.id)) rfl rfl rfl rfl rfl rfl (.inl rfl) rfl rfl fun X14 => ?_
    refine RW.appendSR (c := cI) (l1 := ((n.peers.map (·.id)).take i)) (l2 := [ei.id]) rfl rfl rfl rfl rfl rfl rfl rfl (.al (k := none) (i := 46) (sz := 1) (V := X14) rfl rfl nofun) (by decide) (Nat.le_of_ble_eq_true rfl) cI.len (fun _ => rfl) rfl (by have h10 : ((n.peers.map (·.id)).take i).length ≤ n.peers.length := (by rw [List.length_take, List.length_map]; omega); have := hok.2.2.2.1; simp only [maxLen, List.length_singleton]; omega) (by have h10 : ((n.peers.map (·.id)).take i).length ≤ n.peers.length := (by rw [List.length_take, List.length_map]; omega); have := hok.2.2.2.1; simp only [maxLen, List.length_singleton]; omega) fun X15 => ?_
    refine RW.assignMove rfl rfl rfl (by decide) (Nat.le_of_ble_eq_true rfl) (Nat.le_of_ble_eq_true rfl) ?_
    refine RW.nil ?_
    refine CW.le [(1, .obj b1 ((Node.c n).map .r)), (3, I ((logLast n.log).1)), (5, .w (sl 1 cI (((n.peers.map (·.id)).take i) ++ ([ei.id]))) X15), (16, .r (sl 4 Peer.c n.peers)), (17, I (n.peers.length : Int)), (18, I (i : Int))] rfl (Le.of rfl) ?_
    refine CW.region ?_
    refine RW.v rfl (V.inc rfl rfl rfl hii hl0) ?_
    refine RW.v rfl (V.mv (d := I ((i + 1 : Nat) : Int)) rfl rfl) ?_
    refine RW.nil ?_
    exact ⟨(i + 1, _), by simp only []; omega, ⟨by omega, all_snoc hr hei (by first | (simp_all [pkOk]; done) | grind [pkOk])⟩, rfl, Le.c rfl <| Le.c rfl <| Le.c (Dw_congr (take_snoc (by simp [hei])).symm) <| Le.c rfl <| Le.c rfl <| Le.c rfl <| Le.e⟩
 ·skip
  have hii : n.peers.length ≤ i := by have := h4; simp at this; first | exact this | omega | (simp; done) | (simp; omega)
  have hdi : n.peers.drop i = [] := List.drop_eq_nil_of_le hii
  refine CW.exit ?_
  refine CW.le [(1, .obj b1 ((Node.c n).map .r)), (5, .w (sl 1 cI ((n.peers.map (·.id)).take i)) X)] rfl (Le.of rfl) ?_
  refine CW.anyJ 56 (fun (x : (Nat → Nat → Value) × (Nat → Nat → Value) × (Nat → Nat → Value)) => match x with | (go16_2_1, go16_5_1, go16_6_1) => [(2, Bo (eqS eqI ((n.peers.map (·.id)).take i) (others ((lastC n (logLast n.log).1).2) n.id)))]) (fun all hall K hK => ?_) ?_
  ·skip
   have ro16_11111111 : ∀ (go16_2_1 : Nat → Nat → Value), ∀ (go16_5_1 : Nat → Nat → Value), ∀ (go16_6_1 : Nat → Nat → Value), RA E B all 0 #[true, true, true, true, true, true, true, true] ⟨56, [(2, Bo (eqS eqI ((n.peers.map (·.id)).take i) (others ((lastC n (logLast n.log).1).2) n.id)))]⟩ K := by
    intro go16_2_1 go16_5_1 go16_6_1
    exact RA.of hall (RA.fin (by kernel_rfl) (hK (go16_2_1, go16_5_1, go16_6_1) _ rfl (Le.of rfl)))
   have ro16_11111110 : ∀ (go16_2_1 : Nat → Nat → Value), ∀ (go16_5_1 : Nat → Nat → Value), ∀ (go16_6_1 : Nat → Nat → Value), RA E B all 1 #[true, true, true, true, true, true, true, false] ⟨56, [(55, Bo (eqS eqI ((n.peers.map (·.id)).take i) (others ((lastC n (logLast n.log).1).2) n.id)))]⟩ K := by
    intro go16_2_1 go16_5_1 go16_6_1
    refine RA.of hall (RA.step (L := [7]) (by kernel_rfl) (by simp) (RA.each ?_ (RA.each0)))
    ·skip
     refine RO.v rfl rfl (V.as (d := Bo (eqS eqI ((n.peers.map (·.id)).take i) (others ((lastC n (logLast n.log).1).2) n.id))) rfl rfl) rfl ?_
     exact RA.to hall (RA.lr (ro16_11111111 go16_2_1 go16_5_1 go16_6_1) rfl rfl)
   have ro16_11111100 : ∀ (go16_2_1 : Nat → Nat → Value), ∀ (go16_5_1 : Nat → Nat → Value), RA E B all 2 #[true, true, true, true, true, true, false, false] ⟨56, [(5, .w (sl 1 cI ((n.peers.map (·.id)).take i)) X), (49, .al 5 none 1 (((n.peers.map (·.id)).take i).length) X 0), (54, .w (sl 1 cI (others ((lastC n (logLast n.log).1).2) n.id)) (go16_5_1 0 0))]⟩ K := by
    intro go16_2_1 go16_5_1
    refine RA.of hall (RA.step (L := [6]) (by kernel_rfl) (by simp) (RA.each ?_ (RA.each0)))
    ·skip
     refine RO.callOwn rfl rfl (slices_Equal___int_int__fn ((n.peers.map (·.id)).take i) (others ((lastC n (logLast n.log).1).2) n.id)) rfl (.cons (.one (.r (.al (k := none) (i := 5) (sz := 1) (V := X) rfl rfl nofun))) (.cons (.one (.r (.al (k := none) (i := 54) (sz := 1) (V := (go16_5_1 0 0)) rfl rfl nofun))) (.nil))) rfl rfl fun go16_6_1 => ?_
     exact RA.to hall (RA.lr (ro16_11111110 go16_2_1 go16_5_1 go16_6_1) rfl rfl)
   have ro16_01111100 : ∀ (go16_2_1 : Nat → Nat → Value), ∀ (go16_5_1 : Nat → Nat → Value), RA E B all 3 #[false, true, true, true, true, true, false, false] ⟨56, [(5, .w (sl 1 cI ((n.peers.map (·.id)).take i)) X), (54, .w (sl 1 cI (others ((lastC n (logLast n.log).1).2) n.id)) (go16_5_1 0 0))]⟩ K := by
    intro go16_2_1 go16_5_1
    refine RA.of hall (RA.step (L := [0]) (by kernel_rfl) (by simp) (RA.each ?_ (RA.each0)))
    ·skip
     refine RO.v rfl rfl (V.mv (d := .al 5 none 1 (((n.peers.map (·.id)).take i).length) X 0) rfl rfl) rfl ?_
     exact RA.to hall (RA.lr (ro16_11111100 go16_2_1 go16_5_1) rfl rfl)
   have ro16_11111000 : ∀ (go16_2_1 : Nat → Nat → Value), RA E B all 3 #[true, true, true, true, true, false, false, false] ⟨56, [(5, .w (sl 1 cI ((n.peers.map (·.id)).take i)) X), (49, .al 5 none 1 (((n.peers.map (·.id)).take i).length) X 0), (51, .w (sl 1 cI ((lastC n (logLast n.log).1).2)) (go16_2_1 0 0)), (53, I n.id)]⟩ K := by
    intro go16_2_1
    refine RA.of hall (RA.step (L := [5]) (by kernel_rfl) (by simp) (RA.each ?_ (RA.each0)))
    ·skip
     refine RO.callOwn rfl rfl (impl_without_fn ((lastC n (logLast n.log).1).2) n.id (lastC_len hok _)) rfl (.cons (.one (.r (.al (k := none) (i := 51) (sz := 1) (V := (go16_2_1 0 0)) rfl rfl nofun))) (.cons (.one (.r .r)) (.nil))) rfl rfl fun go16_5_1 => ?_
     exact RA.to hall (RA.lr (ro16_11111100 go16_2_1 go16_5_1) rfl rfl)
   have ro16_01111000 : ∀ (go16_2_1 : Nat → Nat → Value), RA E B all 4 #[false, true, true, true, true, false, false, false] ⟨56, [(5, .w (sl 1 cI ((n.peers.map (·.id)).take i)) X), (51, .w (sl 1 cI ((lastC n (logLast n.log).1).2)) (go16_2_1 0 0)), (53, I n.id)]⟩ K := by
    intro go16_2_1
    refine RA.of hall (RA.step (L := [0, 5]) (by kernel_rfl) (by simp) (RA.each ?_ (RA.each ?_ (RA.each0))))
    ·skip
     refine RO.v rfl rfl (V.mv (d := .al 5 none 1 (((n.peers.map (·.id)).take i).length) X 0) rfl rfl) rfl ?_
     exact RA.to hall (RA.lr (ro16_11111000 go16_2_1) rfl rfl)
    ·skip
     refine RO.callOwn rfl rfl (impl_without_fn ((lastC n (logLast n.log).1).2) n.id (lastC_len hok _)) rfl (.cons (.one (.r (.al (k := none) (i := 51) (sz := 1) (V := (go16_2_1 0 0)) rfl rfl nofun))) (.cons (.one (.r .r)) (.nil))) rfl rfl fun go16_5_1 => ?_
     exact RA.to hall (RA.lr (ro16_01111100 go16_2_1 go16_5_1) rfl rfl)
   have ro16_11011000 : RA E B all 4 #[true, true, false, true, true, false, false, false] ⟨56, [(5, .w (sl 1 cI ((n.peers.map (·.id)).take i)) X), (49, .al 5 none 1 (((n.peers.map (·.id)).take i).length) X 0), (50, .agg ((Node.c n).map .r)), (53, I n.id)]⟩ K := by
    refine RA.of hall (RA.step (L := [2]) (by kernel_rfl) (by simp) (RA.each ?_ (RA.each0)))
    ·skip
     refine RO.call rfl rfl (impl_ConfOf_fn n hok) rfl (.cons (.agg (.cons (.r .r) (.cons (.r .r) (.cons (.r .r) (.cons (.r .r) (.cons (.r .r) (.cons (.r .r) (.cons (.r .r) (.cons (.r .r) (.cons (.r .r) (.cons (.r .r) (.cons (.r .r) (.cons (.r .r) (.cons (.r .r) (.cons (.r .r) (.nil)))))))))))))))) (.nil)) rfl fun go16_2_1 => ?_
     exact RA.to hall (RA.lr (ro16_11111000 go16_2_1) rfl rfl)
   have ro16_11110000 : ∀ (go16_2_1 : Nat → Nat → Value), RA E B all 4 #[true, true, true, true, false, false, false, false] ⟨56, [(1, .obj b1 ((Node.c n).map .r)), (5, .w (sl 1 cI ((n.peers.map (·.id)).take i)) X), (49, .al 5 none 1 (((n.peers.map (·.id)).take i).length) X 0), (51, .w (sl 1 cI ((lastC n (logLast n.log).1).2)) (go16_2_1 0 0)), (52, .pt 1 b1 0)]⟩ K := by
    intro go16_2_1
    refine RA.of hall (RA.step (L := [4]) (by kernel_rfl) (by simp) (RA.each ?_ (RA.each0)))
    ·skip
     refine RO.v rfl rfl (V.loadPrim (d := I n.id) rfl rfl (.inl rfl) rfl rfl rfl) rfl ?_
     exact RA.to hall (RA.lr (ro16_11111000 go16_2_1) rfl rfl)
   have ro16_01011000 : RA E B all 5 #[false, true, false, true, true, false, false, false] ⟨56, [(5, .w (sl 1 cI ((n.peers.map (·.id)).take i)) X), (50, .agg ((Node.c n).map .r)), (53, I n.id)]⟩ K := by
    refine RA.of hall (RA.step (L := [0, 2]) (by kernel_rfl) (by simp) (RA.each ?_ (RA.each ?_ (RA.each0))))
    ·skip
     refine RO.v rfl rfl (V.mv (d := .al 5 none 1 (((n.peers.map (·.id)).take i).length) X 0) rfl rfl) rfl ?_
     exact RA.to hall (RA.lr ro16_11011000 rfl rfl)
    ·skip
     refine RO.call rfl rfl (impl_ConfOf_fn n hok) rfl (.cons (.agg (.cons (.r .r) (.cons (.r .r) (.cons (.r .r) (.cons (.r .r) (.cons (.r .r) (.cons (.r .r) (.cons (.r .r) (.cons (.r .r) (.cons (.r .r) (.cons (.r .r) (.cons (.r .r) (.cons (.r .r) (.cons (.r .r) (.cons (.r .r) (.nil)))))))))))))))) (.nil)) rfl fun go16_2_1 => ?_
     exact RA.to hall (RA.lr (ro16_01111000 go16_2_1) rfl rfl)
   have ro16_01110000 : ∀ (go16_2_1 : Nat → Nat → Value), RA E B all 5 #[false, true, true, true, false, false, false, false] ⟨56, [(1, .obj b1 ((Node.c n).map .r)), (5, .w (sl 1 cI ((n.peers.map (·.id)).take i)) X), (51, .w (sl 1 cI ((lastC n (logLast n.log).1).2)) (go16_2_1 0 0)), (52, .pt 1 b1 0)]⟩ K := by
    intro go16_2_1
    refine RA.of hall (RA.step (L := [0, 4]) (by kernel_rfl) (by simp) (RA.each ?_ (RA.each ?_ (RA.each0))))
    ·skip
     refine RO.v rfl rfl (V.mv (d := .al 5 none 1 (((n.peers.map (·.id)).take i).length) X 0) rfl rfl) rfl ?_
     exact RA.to hall (RA.lr (ro16_11110000 go16_2_1) rfl rfl)
    ·skip
     refine RO.v rfl rfl (V.loadPrim (d := I n.id) rfl rfl (.inl rfl) rfl rfl rfl) rfl ?_
     exact RA.to hall (RA.lr (ro16_01111000 go16_2_1) rfl rfl)
   have ro16_10011000 : RA E B all 5 #[true, false, false, true, true, false, false, false] ⟨56, [(1, .obj b1 ((Node.c n).map .r)), (5, .w (sl 1 cI ((n.peers.map (·.id)).take i)) X), (49, .al 5 none 1 (((n.peers.map (·.id)).take i).length) X 0), (53, I n.id)]⟩ K := by
    refine RA.of hall (RA.step (L := [1]) (by kernel_rfl) (by simp) (RA.each ?_ (RA.each0)))
    ·skip
     refine RO.v rfl rfl (V.loadAgg rfl rfl rfl rfl rfl (Nat.le_of_ble_eq_true rfl)) rfl ?_
     exact RA.to hall (RA.lr ro16_11011000 rfl rfl)
   have ro16_11010000 : RA E B all 5 #[true, true, false, true, false, false, false, false] ⟨56, [(1, .obj b1 ((Node.c n).map .r)), (5, .w (sl 1 cI ((n.peers.map (·.id)).take i)) X), (49, .al 5 none 1 (((n.peers.map (·.id)).take i).length) X 0), (50, .agg ((Node.c n).map .r)), (52, .pt 1 b1 0)]⟩ K := by
    refine RA.of hall (RA.step (L := [2, 4]) (by kernel_rfl) (by simp) (RA.each ?_ (RA.each ?_ (RA.each0))))
    ·skip
     refine RO.call rfl rfl (impl_ConfOf_fn n hok) rfl (.cons (.agg (.cons (.r .r) (.cons (.r .r) (.cons (.r .r) (.cons (.r .r) (.cons (.r .r) (.cons (.r .r) (.cons (.r .r) (.cons (.r .r) (.cons (.r .r) (.cons (.r .r) (.cons (.r .r) (.cons (.r .r) (.cons (.r .r) (.cons (.r .r) (.nil)))))))))))))))) (.nil)) rfl fun go16_2_1 => ?_
     exact RA.to hall (RA.lr (ro16_11110000 go16_2_1) rfl rfl)
    ·skip
     refine RO.v rfl rfl (V.loadPrim (d := I n.id) rfl rfl (.inl rfl) rfl rfl rfl) rfl ?_
     exact RA.to hall (RA.lr ro16_11011000 rfl rfl)
   have ro16_11100000 : ∀ (go16_2_1 : Nat → Nat → Value), RA E B all 5 #[true, true, true, false, false, false, false, false] ⟨56, [(1, .obj b1 ((Node.c n).map .r)), (5, .w (sl 1 cI ((n.peers.map (·.id)).take i)) X), (49, .al 5 none 1 (((n.peers.map (·.id)).take i).length) X 0), (51, .w (sl 1 cI ((lastC n (logLast n.log).1).2)) (go16_2_1 0 0))]⟩ K := by
    intro go16_2_1
    refine RA.of hall (RA.step (L := [3]) (by kernel_rfl) (by simp) (RA.each ?_ (RA.each0)))
    ·skip
     refine RO.v rfl rfl (V.field rfl rfl rfl rfl (by decide) rfl) rfl ?_
     exact RA.to hall (RA.lr (ro16_11110000 go16_2_1) rfl rfl)
   have ro16_00011000 : RA E B all 6 #[false, false, false, true, true, false, false, false] ⟨56, [(1, .obj b1 ((Node.c n).map .r)), (5, .w (sl 1 cI ((n.peers.map (·.id)).take i)) X), (53, I n.id)]⟩ K := by
    refine RA.of hall (RA.step (L := [0, 1]) (by kernel_rfl) (by simp) (RA.each ?_ (RA.each ?_ (RA.each0))))
    ·skip
     refine RO.v rfl rfl (V.mv (d := .al 5 none 1 (((n.peers.map (·.id)).take i).length) X 0) rfl rfl) rfl ?_
     exact RA.to hall (RA.lr ro16_10011000 rfl rfl)
    ·skip
     refine RO.v rfl rfl (V.loadAgg rfl rfl rfl rfl rfl (Nat.le_of_ble_eq_true rfl)) rfl ?_
     exact RA.to hall (RA.lr ro16_01011000 rfl rfl)
   have ro16_01010000 : RA E B all 6 #[false, true, false, true, false, false, false, false] ⟨56, [(1, .obj b1 ((Node.c n).map .r)), (5, .w (sl 1 cI ((n.peers.map (·.id)).take i)) X), (50, .agg ((Node.c n).map .r)), (52, .pt 1 b1 0)]⟩ K := by
    refine RA.of hall (RA.step (L := [0, 2, 4]) (by kernel_rfl) (by simp) (RA.each ?_ (RA.each ?_ (RA.each ?_ (RA.each0)))))
    ·skip
     refine RO.v rfl rfl (V.mv (d := .al 5 none 1 (((n.peers.map (·.id)).take i).length) X 0) rfl rfl) rfl ?_
     exact RA.to hall (RA.lr ro16_11010000 rfl rfl)
    ·skip
     refine RO.call rfl rfl (impl_ConfOf_fn n hok) rfl (.cons (.agg (.cons (.r .r) (.cons (.r .r) (.cons (.r .r) (.cons (.r .r) (.cons (.r .r) (.cons (.r .r) (.cons (.r .r) (.cons (.r .r) (.cons (.r .r) (.cons (.r .r) (.cons (.r .r) (.cons (.r .r) (.cons (.r .r) (.cons (.r .r) (.nil)))))))))))))))) (.nil)) rfl fun go16_2_1 => ?_
     exact RA.to hall (RA.lr (ro16_01110000 go16_2_1) rfl rfl)
    ·skip
     refine RO.v rfl rfl (V.loadPrim (d := I n.id) rfl rfl (.inl rfl) rfl rfl rfl) rfl ?_
     exact RA.to hall (RA.lr ro16_01011000 rfl rfl)
   have ro16_01100000 : ∀ (go16_2_1 : Nat → Nat → Value), RA E B all 6 #[false, true, true, false, false, false, false, false] ⟨56, [(1, .obj b1 ((Node.c n).map .r)), (5, .w (sl 1 cI ((n.peers.map (·.id)).take i)) X), (51, .w (sl 1 cI ((lastC n (logLast n.log).1).2)) (go16_2_1 0 0))]⟩ K := by
    intro go16_2_1
    refine RA.of hall (RA.step (L := [0, 3]) (by kernel_rfl) (by simp) (RA.each ?_ (RA.each ?_ (RA.each0))))
    ·skip
     refine RO.v rfl rfl (V.mv (d := .al 5 none 1 (((n.peers.map (·.id)).take i).length) X 0) rfl rfl) rfl ?_
     exact RA.to hall (RA.lr (ro16_11100000 go16_2_1) rfl rfl)
    ·skip
     refine RO.v rfl rfl (V.field rfl rfl rfl rfl (by decide) rfl) rfl ?_
     exact RA.to hall (RA.lr (ro16_01110000 go16_2_1) rfl rfl)
   have ro16_10010000 : RA E B all 6 #[true, false, false, true, false, false, false, false] ⟨56, [(1, .obj b1 ((Node.c n).map .r)), (5, .w (sl 1 cI ((n.peers.map (·.id)).take i)) X), (49, .al 5 none 1 (((n.peers.map (·.id)).take i).length) X 0), (52, .pt 1 b1 0)]⟩ K := by
    refine RA.of hall (RA.step (L := [1, 4]) (by kernel_rfl) (by simp) (RA.each ?_ (RA.each ?_ (RA.each0))))
    ·skip
     refine RO.v rfl rfl (V.loadAgg rfl rfl rfl rfl rfl (Nat.le_of_ble_eq_true rfl)) rfl ?_
     exact RA.to hall (RA.lr ro16_11010000 rfl rfl)
    ·skip
     refine RO.v rfl rfl (V.loadPrim (d := I n.id) rfl rfl (.inl rfl) rfl rfl rfl) rfl ?_
     exact RA.to hall (RA.lr ro16_10011000 rfl rfl)
   have ro16_11000000 : RA E B all 6 #[true, true, false, false, false, false, false, false] ⟨56, [(1, .obj b1 ((Node.c n).map .r)), (5, .w (sl 1 cI ((n.peers.map (·.id)).take i)) X), (49, .al 5 none 1 (((n.peers.map (·.id)).take i).length) X 0), (50, .agg ((Node.c n).map .r))]⟩ K := by
    refine RA.of hall (RA.step (L := [2, 3]) (by kernel_rfl) (by simp) (RA.each ?_ (RA.each ?_ (RA.each0))))
    ·skip
     refine RO.call rfl rfl (impl_ConfOf_fn n hok) rfl (.cons (.agg (.cons (.r .r) (.cons (.r .r) (.cons (.r .r) (.cons (.r .r) (.cons (.r .r) (.cons (.r .r) (.cons (.r .r) (.cons (.r .r) (.cons (.r .r) (.cons (.r .r) (.cons (.r .r) (.cons (.r .r) (.cons (.r .r) (.cons (.r .r) (.nil)))))))))))))))) (.nil)) rfl fun go16_2_1 => ?_
     exact RA.to hall (RA.lr (ro16_11100000 go16_2_1) rfl rfl)
    ·skip
     refine RO.v rfl rfl (V.field rfl rfl rfl rfl (by decide) rfl) rfl ?_
     exact RA.to hall (RA.lr ro16_11010000 rfl rfl)
   have ro16_00010000 : RA E B all 7 #[false, false, false, true, false, false, false, false] ⟨56, [(1, .obj b1 ((Node.c n).map .r)), (5, .w (sl 1 cI ((n.peers.map (·.id)).take i)) X), (52, .pt 1 b1 0)]⟩ K := by
    refine RA.of hall (RA.step (L := [0, 1, 4]) (by kernel_rfl) (by simp) (RA.each ?_ (RA.each ?_ (RA.each ?_ (RA.each0)))))
    ·skip
     refine RO.v rfl rfl (V.mv (d := .al 5 none 1 (((n.peers.map (·.id)).take i).length) X 0) rfl rfl) rfl ?_
     exact RA.to hall (RA.lr ro16_10010000 rfl rfl)
    ·skip
     refine RO.v rfl rfl (V.loadAgg rfl rfl rfl rfl rfl (Nat.le_of_ble_eq_true rfl)) rfl ?_
     exact RA.to hall (RA.lr ro16_01010000 rfl rfl)
    ·skip
     refine RO.v rfl rfl (V.loadPrim (d := I n.id) rfl rfl (.inl rfl) rfl rfl rfl) rfl ?_
     exact RA.to hall (RA.lr ro16_00011000 rfl rfl)
   have ro16_01000000 : RA E B all 7 #[false, true, false, false, false, false, false, false] ⟨56, [(1, .obj b1 ((Node.c n).map .r)), (5, .w (sl 1 cI ((n.peers.map (·.id)).take i)) X), (50, .agg ((Node.c n).map .r))]⟩ K := by
    refine RA.of hall (RA.step (L := [0, 2, 3]) (by kernel_rfl) (by simp) (RA.each ?_ (RA.each ?_ (RA.each ?_ (RA.each0)))))
    ·skip
     refine RO.v rfl rfl (V.mv (d := .al 5 none 1 (((n.peers.map (·.id)).take i).length) X 0) rfl rfl) rfl ?_
     exact RA.to hall (RA.lr ro16_11000000 rfl rfl)
    ·skip
     refine RO.call rfl rfl (impl_ConfOf_fn n hok) rfl (.cons (.agg (.cons (.r .r) (.cons (.r .r) (.cons (.r .r) (.cons (.r .r) (.cons (.r .r) (.cons (.r .r) (.cons (.r .r) (.cons (.r .r) (.cons (.r .r) (.cons (.r .r) (.cons (.r .r) (.cons (.r .r) (.cons (.r .r) (.cons (.r .r) (.nil)))))))))))))))) (.nil)) rfl fun go16_2_1 => ?_
     exact RA.to hall (RA.lr (ro16_01100000 go16_2_1) rfl rfl)
    ·skip
     refine RO.v rfl rfl (V.field rfl rfl rfl rfl (by decide) rfl) rfl ?_
     exact RA.to hall (RA.lr ro16_01010000 rfl rfl)
   have ro16_10000000 : RA E B all 7 #[true, false, false, false, false, false, false, false] ⟨56, [(1, .obj b1 ((Node.c n).map .r)), (5, .w (sl 1 cI ((n.peers.map (·.id)).take i)) X), (49, .al 5 none 1 (((n.peers.map (·.id)).take i).length) X 0)]⟩ K := by
    refine RA.of hall (RA.step (L := [1, 3]) (by kernel_rfl) (by simp) (RA.each ?_ (RA.each ?_ (RA.each0))))
    ·skip
     refine RO.v rfl rfl (V.loadAgg rfl rfl rfl rfl rfl (Nat.le_of_ble_eq_true rfl)) rfl ?_
     exact RA.to hall (RA.lr ro16_11000000 rfl rfl)
    ·skip
     refine RO.v rfl rfl (V.field rfl rfl rfl rfl (by decide) rfl) rfl ?_
     exact RA.to hall (RA.lr ro16_10010000 rfl rfl)
   have ro16_00000000 : RA E B all 8 #[false, false, false, false, false, false, false, false] ⟨56, [(1, .obj b1 ((Node.c n).map .r)), (5, .w (sl 1 cI ((n.peers.map (·.id)).take i)) X)]⟩ K := by
    refine RA.of hall (RA.step (L := [0, 1, 3]) (by kernel_rfl) (by simp) (RA.each ?_ (RA.each ?_ (RA.each ?_ (RA.each0)))))
    ·skip
     refine RO.v rfl rfl (V.mv (d := .al 5 none 1 (((n.peers.map (·.id)).take i).length) X 0) rfl rfl) rfl ?_
     exact RA.to hall (RA.lr ro16_10000000 rfl rfl)
    ·skip
     refine RO.v rfl rfl (V.loadAgg rfl rfl rfl rfl rfl (Nat.le_of_ble_eq_true rfl)) rfl ?_
     exact RA.to hall (RA.lr ro16_01000000 rfl rfl)
    ·skip
     refine RO.v rfl rfl (V.field rfl rfl rfl rfl (by decide) rfl) rfl ?_
     exact RA.to hall (RA.lr ro16_00010000 rfl rfl)
   exact RA.start (by kernel_rfl) (by kernel_rfl) (RA.lr ro16_00000000 rfl rfl)
  ·rintro ⟨go16_2_1, go16_5_1, go16_6_1⟩
   refine CW.ret ?_
   exact Post.one (RV.b rfl (by have ht : n.peers.all (pkOk (logLast n.log).1) = true := (by rw [← List.take_of_length_le hii]; exact hr); rw [List.take_of_length_le (by simpa using hii)]; simp [peersOkB, ht])) (AOs.a rfl AOs.e)
set_option maxHeartbeats 4000000 in
theorem impl_NodeOk_fn (n : Node) (hok : okToNode n) : Eng.Fn E.P 22 [.agg ((Node.c n).map .r)] (.one (.one (.w (.v (.bool (nodeOk n)))))) [.agg ((Node.c n).map .r)] := by
 refine Eng.Fn.intro (E := E) (rvs := [.tmp 2]) Try.func22 rfl rfl rfl (by simp [outSlots, moved, rvSlot, sl]) ?_
 intro B g bo
 refine CW.le [(0, .agg ((Node.c n).map .r))] rfl (Le.of rfl) ?_
 refine CW.seq ?_
 refine CW.region ?_
 refine RW.box (ds := ((Node.c n).map .r)) rfl rfl rfl fun b1 => ?_
 refine RW.v rfl (V.as (d := Bo false) rfl rfl) ?_
 refine RW.nil ?_
 refine CW.le [(1, .obj b1 ((Node.c n).map .r))] rfl (Le.of rfl) ?_
 refine CW.seq ?_
 refine CW.region ?_
 refine RW.v rfl (V.field rfl rfl rfl rfl (by decide) rfl) ?_
 refine RW.v rfl (V.loadAgg rfl rfl rfl rfl rfl (Nat.le_of_ble_eq_true rfl)) ?_
 refine RW.call rfl (impl_LogLast_fn n.log (hok.2.1)) rfl (.cons (.agg (.cons (.r .r) (.cons (.r .r) (.cons (.r .r) (.nil))))) (.nil)) fun g2 => ?_
 refine RW.moveMove rfl rfl rfl (by decide) (Nat.le_of_ble_eq_true rfl) (Nat.le_of_ble_eq_true rfl) ?_
 refine RW.extract (d := I ((logLast n.log).1)) rfl rfl rfl (by decide) (Nat.le_of_ble_eq_true rfl) rfl rfl ?_
 refine RW.extract (d := I ((logLast n.log).2)) rfl rfl rfl (by decide) (Nat.le_of_ble_eq_true rfl) rfl rfl ?_
 refine RW.v rfl (V.as (d := I ((logLast n.log).1)) rfl rfl) ?_
 refine RW.v rfl (V.as (d := I ((logLast n.log).2)) rfl rfl) ?_
 refine RW.nil ?_
 refine CW.le [(1, .obj b1 ((Node.c n).map .r)), (3, I ((logLast n.log).1)), (4, I ((logLast n.log).2))] rfl (Le.of rfl) ?_
 refine CW.seq ?_
 refine CW.seqJ 106 (fun (v3 : Bool) => [(1, .obj b1 ((Node.c n).map .r)), (3, I ((logLast n.log).1)), (46, Bo v3)]) (fun v3 => v3 = ((((((!(inR n.id 1 4)) || (!(confOk n.conf))) || (!(logOk n.log))) || (!(inR n.term_ 0 100000 && inR n.vote 0 4))) || decide (n.term_ < ((logLast n.log).2))) || (!(inR n.lead 0 4)))) ?_ ?_
 ·refine CW.region ?_
  refine RW.v rfl (V.field rfl rfl rfl rfl (by decide) rfl) ?_
  refine RW.v rfl (V.loadPrim (d := I n.id) rfl rfl (.inl rfl) rfl rfl rfl) ?_
  refine RW.call rfl (impl_isNode_fn n.id) rfl (.cons (.one (.r .r)) (.nil)) fun g4 => ?_
  refine RW.v rfl (V.not rfl rfl) ?_
  refine RW.v rfl (V.mv (d := Bo (!(inR n.id 1 4))) rfl rfl) ?_
  refine RW.gv rfl rfl rfl rfl (fun h5 => V.field rfl rfl rfl rfl (by decide) rfl) (fun h5 => ?_) (fun h5 => ?_)
  ·skip
   refine RW.gt rfl rfl rfl rfl (V.loadPrim (d := .r (sl 1 cI n.conf)) rfl rfl (.inr ⟨_, rfl⟩) rfl rfl rfl) ?_
   refine RW.gcall rfl rfl rfl rfl (impl_ConfOk_fn n.conf) rfl (.cons (.one (.r .r)) (.nil)) fun g6 => ?_
   refine RW.gt rfl rfl rfl rfl (V.not rfl rfl) ?_
   refine RW.v rfl (V.pickF (d := Bo (!(confOk n.conf))) rfl rfl rfl) ?_
   refine RW.v rfl (V.mv (d := Bo (!(confOk n.conf))) rfl rfl) ?_
   refine RW.gv rfl rfl rfl rfl (fun h7 => V.field rfl rfl rfl rfl (by decide) rfl) (fun h7 => ?_) (fun h7 => ?_)
   ·skip
    refine RW.gt rfl rfl rfl rfl (V.loadAgg rfl rfl rfl rfl rfl (Nat.le_of_ble_eq_true rfl)) ?_
    refine RW.gcall rfl rfl rfl rfl (impl_LogOk_fn n.log (hok.2.1)) rfl (.cons (.agg (.cons (.r .r) (.cons (.r .r) (.cons (.r .r) (.nil))))) (.nil)) fun g8 => ?_
    refine RW.gt rfl rfl rfl rfl (V.not rfl rfl) ?_
    refine RW.v rfl (V.pickF (d := Bo (!(logOk n.log))) rfl rfl rfl) ?_
    refine RW.v rfl (V.mv (d := Bo (!(logOk n.log))) rfl rfl) ?_
    refine RW.gv rfl rfl rfl rfl (fun h9 => V.field rfl rfl rfl rfl (by decide) rfl) (fun h9 => ?_) (fun h9 => ?_)
    ·skip
     refine RW.gt rfl rfl rfl rfl (V.loadPrim (d := I n.term_) rfl rfl (.inl rfl) rfl rfl rfl) ?_
     refine RW.gt rfl rfl rfl rfl (V.field rfl rfl rfl rfl (by decide) rfl) ?_
     refine RW.gt rfl rfl rfl rfl (V.loadPrim (d := I n.vote) rfl rfl (.inl rfl) rfl rfl rfl) ?_
     refine RW.gcall rfl rfl rfl rfl (impl_votesOk_fn n.term_ n.vote) rfl (.cons (.one (.r .r)) (.cons (.one (.r .r)) (.nil))) fun g10 => ?_
     refine RW.gt rfl rfl rfl rfl (V.not rfl rfl) ?_
     refine RW.v rfl (V.pickF (d := Bo (!(inR n.term_ 0 100000 && inR n.vote 0 4))) rfl rfl rfl) ?_
     refine RW.v rfl (V.mv (d := Bo (!(inR n.term_ 0 100000 && inR n.vote 0 4))) rfl rfl) ?_
     refine RW.gv rfl rfl rfl rfl (fun h11 => V.field rfl rfl rfl rfl (by decide) rfl) (fun h11 => ?_) (fun h11 => ?_)
     ·skip
      refine RW.gt rfl rfl rfl rfl (V.loadPrim (d := I n.term_) rfl rfl (.inl rfl) rfl rfl rfl) ?_
      refine RW.gt rfl rfl rfl rfl (V.mv (d := I ((logLast n.log).2)) rfl rfl) ?_
      refine RW.gt rfl rfl rfl rfl (V.cmpInt rfl rfl rfl rfl) ?_
      refine RW.v rfl (V.pickF (d := Bo (decide (n.term_ < ((logLast n.log).2)))) rfl rfl rfl) ?_
      refine RW.v rfl (V.mv (d := Bo (decide (n.term_ < ((logLast n.log).2)))) rfl rfl) ?_
      refine RW.gv rfl rfl rfl rfl (fun h12 => V.field rfl rfl rfl rfl (by decide) rfl) (fun h12 => ?_) (fun h12 => ?_)
      ·skip
       refine RW.gt rfl rfl rfl rfl (V.loadPrim (d := I n.lead) rfl rfl (.inl rfl) rfl rfl rfl) ?_
       refine RW.gcall rfl rfl rfl rfl (impl_within_fn n.lead 0 4) rfl (.cons (.one (.r .r)) (.cons (.one (.r .r)) (.cons (.one (.r .r)) (.nil)))) fun g13 => ?_
       refine RW.gt rfl rfl rfl rfl (V.not rfl rfl) ?_
       refine RW.v rfl (V.pickF (d := Bo (!(inR n.lead 0 4))) rfl rfl rfl) ?_
       refine RW.nil ?_
       exact ⟨_, by first | rfl | (simp_all; done) | (simp_all; omega) | grind, rfl, Le.c rfl <| Le.c rfl <| Le.c rfl <| Le.e⟩
      ·skip
       refine RW.guardF rfl rfl rfl rfl ?_
       refine RW.guardF rfl rfl rfl rfl ?_
       refine RW.guardF rfl rfl rfl rfl ?_
       refine RW.v rfl (V.pickT (d := Bo true) rfl rfl rfl) ?_
       refine RW.nil ?_
       exact ⟨_, by first | rfl | (simp_all; done) | (simp_all; omega) | grind, rfl, Le.c rfl <| Le.c rfl <| Le.c rfl <| Le.e⟩
     ·skip
      refine RW.guardF rfl rfl rfl rfl ?_
      refine RW.guardF rfl rfl rfl rfl ?_
      refine RW.guardF rfl rfl rfl rfl ?_
      refine RW.v rfl (V.pickT (d := Bo true) rfl rfl rfl) ?_
      refine RW.v rfl (V.mv (d := Bo true) rfl rfl) ?_
      refine RW.guardF rfl rfl rfl rfl ?_
      refine RW.guardF rfl rfl rfl rfl ?_
      refine RW.guardF rfl rfl rfl rfl ?_
      refine RW.guardF rfl rfl rfl rfl ?_
      refine RW.v rfl (V.pickT (d := Bo true) rfl rfl rfl) ?_
      refine RW.nil ?_
      exact ⟨_, by first | rfl | (simp_all; done) | (simp_all; omega) | grind, rfl, Le.c rfl <| Le.c rfl <| Le.c rfl <| Le.e⟩
    ·skip
     refine RW.guardF rfl rfl rfl rfl ?_
     refine RW.guardF rfl rfl rfl rfl ?_
     refine RW.guardF rfl rfl rfl rfl ?_
     refine RW.guardF rfl rfl rfl rfl ?_
     refine RW.guardF rfl rfl rfl rfl ?_
     refine RW.v rfl (V.pickT (d := Bo true) rfl rfl rfl) ?_
     refine RW.v rfl (V.mv (d := Bo true) rfl rfl) ?_
     refine RW.guardF rfl rfl rfl rfl ?_
     refine RW.guardF rfl rfl rfl rfl ?_
     refine RW.guardF rfl rfl rfl rfl ?_
     refine RW.guardF rfl rfl rfl rfl ?_
     refine RW.v rfl (V.pickT (d := Bo true) rfl rfl rfl) ?_
     refine RW.v rfl (V.mv (d := Bo true) rfl rfl) ?_
     refine RW.guardF rfl rfl rfl rfl ?_
     refine RW.guardF rfl rfl rfl rfl ?_
     refine RW.guardF rfl rfl rfl rfl ?_
     refine RW.guardF rfl rfl rfl rfl ?_
     refine RW.v rfl (V.pickT (d := Bo true) rfl rfl rfl) ?_
     refine RW.nil ?_
     exact ⟨_, by first | rfl | (simp_all; done) | (simp_all; omega) | grind, rfl, Le.c rfl <| Le.c rfl <| Le.c rfl <| Le.e⟩
   ·skip
    refine RW.guardF rfl rfl rfl rfl ?_
    refine RW.guardF rfl rfl rfl rfl ?_
    refine RW.guardF rfl rfl rfl rfl ?_
    refine RW.v rfl (V.pickT (d := Bo true) rfl rfl rfl) ?_
    refine RW.v rfl (V.mv (d := Bo true) rfl rfl) ?_
    refine RW.guardF rfl rfl rfl rfl ?_
    refine RW.guardF rfl rfl rfl rfl ?_
    refine RW.guardF rfl rfl rfl rfl ?_
    refine RW.guardF rfl rfl rfl rfl ?_
    refine RW.guardF rfl rfl rfl rfl ?_
    refine RW.guardF rfl rfl rfl rfl ?_
    refine RW.v rfl (V.pickT (d := Bo true) rfl rfl rfl) ?_
    refine RW.v rfl (V.mv (d := Bo true) rfl rfl) ?_
    refine RW.guardF rfl rfl rfl rfl ?_
    refine RW.guardF rfl rfl rfl rfl ?_
    refine RW.guardF rfl rfl rfl rfl ?_
    refine RW.guardF rfl rfl rfl rfl ?_
    refine RW.v rfl (V.pickT (d := Bo true) rfl rfl rfl) ?_
    refine RW.v rfl (V.mv (d := Bo true) rfl rfl) ?_
    refine RW.guardF rfl rfl rfl rfl ?_
    refine RW.guardF rfl rfl rfl rfl ?_
    refine RW.guardF rfl rfl rfl rfl ?_
    refine RW.guardF rfl rfl rfl rfl ?_
    refine RW.v rfl (V.pickT (d := Bo true) rfl rfl rfl) ?_
    refine RW.nil ?_
    exact ⟨_, by first | rfl | (simp_all; done) | (simp_all; omega) | grind, rfl, Le.c rfl <| Le.c rfl <| Le.c rfl <| Le.e⟩
  ·skip
   refine RW.guardF rfl rfl rfl rfl ?_
   refine RW.guardF rfl rfl rfl rfl ?_
   refine RW.guardF rfl rfl rfl rfl ?_
   refine RW.v rfl (V.pickT (d := Bo true) rfl rfl rfl) ?_
   refine RW.v rfl (V.mv (d := Bo true) rfl rfl) ?_
   refine RW.guardF rfl rfl rfl rfl ?_
   refine RW.guardF rfl rfl rfl rfl ?_
   refine RW.guardF rfl rfl rfl rfl ?_
   refine RW.guardF rfl rfl rfl rfl ?_
   refine RW.v rfl (V.pickT (d := Bo true) rfl rfl rfl) ?_
   refine RW.v rfl (V.mv (d := Bo true) rfl rfl) ?_
   refine RW.guardF rfl rfl rfl rfl ?_
   refine RW.guardF rfl rfl rfl rfl ?_
   refine RW.guardF rfl rfl rfl rfl ?_
   refine RW.guardF rfl rfl rfl rfl ?_
   refine RW.guardF rfl rfl rfl rfl ?_
   refine RW.guardF rfl rfl rfl rfl ?_
   refine RW.v rfl (V.pickT (d := Bo true) rfl rfl rfl) ?_
   refine RW.v rfl (V.mv (d := Bo true) rfl rfl) ?_
   refine RW.guardF rfl rfl rfl rfl ?_
   refine RW.guardF rfl rfl rfl rfl ?_
   refine RW.guardF rfl rfl rfl rfl ?_
   refine RW.guardF rfl rfl rfl rfl ?_
   refine RW.v rfl (V.pickT (d := Bo true) rfl rfl rfl) ?_
   refine RW.v rfl (V.mv (d := Bo true) rfl rfl) ?_
   refine RW.guardF rfl rfl rfl rfl ?_
   refine RW.guardF rfl rfl rfl rfl ?_
   refine RW.guardF rfl rfl rfl rfl ?_
   refine RW.guardF rfl rfl rfl rfl ?_
   refine RW.v rfl (V.pickT (d := Bo true) rfl rfl rfl) ?_
   refine RW.nil ?_
   exact ⟨_, by first | rfl | (simp_all; done) | (simp_all; omega) | grind, rfl, Le.c rfl <| Le.c rfl <| Le.c rfl <| Le.e⟩
 ·intro v3 hv14
  refine CW.cond rfl (fun h15 => ?_) (fun h15 => ?_)
  ·skip
   refine CW.seq ?_
   refine CW.region ?_
   refine RW.v rfl (V.as (d := Bo false) rfl rfl) ?_
   refine RW.nil ?_
   refine CW.le [(2, Bo false)] rfl (Le.of rfl) ?_
   refine CW.ret ?_
   exact Post.one (RV.b rfl (by first | (simp_all [nodeOk]; done) | grind [nodeOk])) (AOs.a rfl AOs.e)
  ·skip
   refine CW.skip ?_
   refine CW.le [(1, .obj b1 ((Node.c n).map .r)), (3, I ((logLast n.log).1))] rfl (Le.of rfl) ?_
   refine CW.seq ?_
   refine CW.seqJ 106 (fun (v16 : Bool) => [(1, .obj b1 ((Node.c n).map .r)), (72, Bo v16)]) (fun v16 => v16 = ((((!(inR n.commit n.log.start ((logLast n.log).1))) || (!(inR n.clock 0 20))) || (!(inR n.limit 1 20))) || (!(riseOk 1 4 none n.votes)))) ?_ ?_
   ·refine CW.region ?_
    refine RW.v rfl (V.field rfl rfl rfl rfl (by decide) rfl) ?_
    refine RW.v rfl (V.loadPrim (d := I n.commit) rfl rfl (.inl rfl) rfl rfl rfl) ?_
    refine RW.v rfl (V.field rfl rfl rfl rfl (by decide) rfl) ?_
    refine RW.v rfl (V.field rfl rfl rfl rfl (by decide) rfl) ?_
    refine RW.v rfl (V.loadPrim (d := I n.log.start) rfl rfl (.inl rfl) rfl rfl rfl) ?_
    refine RW.v rfl (V.mv (d := I ((logLast n.log).1)) rfl rfl) ?_
    refine RW.call rfl (impl_within_fn n.commit n.log.start ((logLast n.log).1)) rfl (.cons (.one (.r .r)) (.cons (.one (.r .r)) (.cons (.one (.r .r)) (.nil)))) fun g17 => ?_
    refine RW.v rfl (V.not rfl rfl) ?_
    refine RW.v rfl (V.mv (d := Bo (!(inR n.commit n.log.start ((logLast n.log).1)))) rfl rfl) ?_
    refine RW.gv rfl rfl rfl rfl (fun h18 => V.field rfl rfl rfl rfl (by decide) rfl) (fun h18 => ?_) (fun h18 => ?_)
    ·skip
     refine RW.gt rfl rfl rfl rfl (V.loadPrim (d := I n.clock) rfl rfl (.inl rfl) rfl rfl rfl) ?_
     refine RW.gcall rfl rfl rfl rfl (impl_within_fn n.clock 0 20) rfl (.cons (.one (.r .r)) (.cons (.one (.r .r)) (.cons (.one (.r .r)) (.nil)))) fun g19 => ?_
     refine RW.gt rfl rfl rfl rfl (V.not rfl rfl) ?_
     refine RW.v rfl (V.pickF (d := Bo (!(inR n.clock 0 20))) rfl rfl rfl) ?_
     refine RW.v rfl (V.mv (d := Bo (!(inR n.clock 0 20))) rfl rfl) ?_
     refine RW.gv rfl rfl rfl rfl (fun h20 => V.field rfl rfl rfl rfl (by decide) rfl) (fun h20 => ?_) (fun h20 => ?_)
     ·skip
      refine RW.gt rfl rfl rfl rfl (V.loadPrim (d := I n.limit) rfl rfl (.inl rfl) rfl rfl rfl) ?_
      refine RW.gcall rfl rfl rfl rfl (impl_within_fn n.limit 1 20) rfl (.cons (.one (.r .r)) (.cons (.one (.r .r)) (.cons (.one (.r .r)) (.nil)))) fun g21 => ?_
      refine RW.gt rfl rfl rfl rfl (V.not rfl rfl) ?_
      refine RW.v rfl (V.pickF (d := Bo (!(inR n.limit 1 20))) rfl rfl rfl) ?_
      refine RW.v rfl (V.mv (d := Bo (!(inR n.limit 1 20))) rfl rfl) ?_
      refine RW.gv rfl rfl rfl rfl (fun h22 => V.field rfl rfl rfl rfl (by decide) rfl) (fun h22 => ?_) (fun h22 => ?_)
      ·skip
       refine RW.gt rfl rfl rfl rfl (V.loadPrim (d := .r (sl 1 cI n.votes)) rfl rfl (.inr ⟨_, rfl⟩) rfl rfl rfl) ?_
       refine RW.gcall rfl rfl rfl rfl (impl_nodesOk_fn n.votes) rfl (.cons (.one (.r .r)) (.nil)) fun g23 => ?_
       refine RW.gt rfl rfl rfl rfl (V.not rfl rfl) ?_
       refine RW.v rfl (V.pickF (d := Bo (!(riseOk 1 4 none n.votes))) rfl rfl rfl) ?_
       refine RW.nil ?_
       exact ⟨_, by first | rfl | (simp_all; done) | (simp_all; omega) | grind, rfl, Le.c rfl <| Le.c rfl <| Le.e⟩
      ·skip
       refine RW.guardF rfl rfl rfl rfl ?_
       refine RW.guardF rfl rfl rfl rfl ?_
       refine RW.guardF rfl rfl rfl rfl ?_
       refine RW.v rfl (V.pickT (d := Bo true) rfl rfl rfl) ?_
       refine RW.nil ?_
       exact ⟨_, by first | rfl | (simp_all; done) | (simp_all; omega) | grind, rfl, Le.c rfl <| Le.c rfl <| Le.e⟩
     ·skip
      refine RW.guardF rfl rfl rfl rfl ?_
      refine RW.guardF rfl rfl rfl rfl ?_
      refine RW.guardF rfl rfl rfl rfl ?_
      refine RW.v rfl (V.pickT (d := Bo true) rfl rfl rfl) ?_
      refine RW.v rfl (V.mv (d := Bo true) rfl rfl) ?_
      refine RW.guardF rfl rfl rfl rfl ?_
      refine RW.guardF rfl rfl rfl rfl ?_
      refine RW.guardF rfl rfl rfl rfl ?_
      refine RW.guardF rfl rfl rfl rfl ?_
      refine RW.v rfl (V.pickT (d := Bo true) rfl rfl rfl) ?_
      refine RW.nil ?_
      exact ⟨_, by first | rfl | (simp_all; done) | (simp_all; omega) | grind, rfl, Le.c rfl <| Le.c rfl <| Le.e⟩
    ·skip
     refine RW.guardF rfl rfl rfl rfl ?_
     refine RW.guardF rfl rfl rfl rfl ?_
     refine RW.guardF rfl rfl rfl rfl ?_
     refine RW.v rfl (V.pickT (d := Bo true) rfl rfl rfl) ?_
     refine RW.v rfl (V.mv (d := Bo true) rfl rfl) ?_
     refine RW.guardF rfl rfl rfl rfl ?_
     refine RW.guardF rfl rfl rfl rfl ?_
     refine RW.guardF rfl rfl rfl rfl ?_
     refine RW.guardF rfl rfl rfl rfl ?_
     refine RW.v rfl (V.pickT (d := Bo true) rfl rfl rfl) ?_
     refine RW.v rfl (V.mv (d := Bo true) rfl rfl) ?_
     refine RW.guardF rfl rfl rfl rfl ?_
     refine RW.guardF rfl rfl rfl rfl ?_
     refine RW.guardF rfl rfl rfl rfl ?_
     refine RW.guardF rfl rfl rfl rfl ?_
     refine RW.v rfl (V.pickT (d := Bo true) rfl rfl rfl) ?_
     refine RW.nil ?_
     exact ⟨_, by first | rfl | (simp_all; done) | (simp_all; omega) | grind, rfl, Le.c rfl <| Le.c rfl <| Le.e⟩
   ·intro v16 hv24
    refine CW.cond rfl (fun h25 => ?_) (fun h25 => ?_)
    ·skip
     refine CW.seq ?_
     refine CW.region ?_
     refine RW.v rfl (V.as (d := Bo false) rfl rfl) ?_
     refine RW.nil ?_
     refine CW.le [(2, Bo false)] rfl (Le.of rfl) ?_
     refine CW.ret ?_
     exact Post.one (RV.b rfl (by first | (simp_all [nodeOk]; done) | grind [nodeOk])) (AOs.a rfl AOs.e)
    ·skip
     refine CW.skip ?_
     refine CW.le [(1, .obj b1 ((Node.c n).map .r))] rfl (Le.of rfl) ?_
     refine CW.seq ?_
     refine CW.seq ?_
     refine CW.region ?_
     refine RW.v rfl (V.field rfl rfl rfl rfl (by decide) rfl) ?_
     refine RW.v rfl (V.loadPrim (d := I n.role) rfl rfl (.inl rfl) rfl rfl rfl) ?_
     refine RW.nil ?_
     refine CW.le [(1, .obj b1 ((Node.c n).map .r)), (74, I n.role)] rfl (Le.of rfl) ?_
     refine CW.block ?_
     refine CW.seq ?_
     refine CW.region ?_
     refine RW.v rfl (V.cmpInt rfl rfl rfl rfl) ?_
     refine RW.v rfl (V.as (d := Bo (n.role == 0)) rfl rfl) ?_
     refine RW.nil ?_
     refine CW.le [(1, .obj b1 ((Node.c n).map .r)), (74, I n.role), (75, Bo (n.role == 0))] rfl (Le.of rfl) ?_
     refine CW.cond rfl (fun h26 => ?_) (fun h26 => ?_)
     ·skip
      refine CW.seqJ 106 (fun (v27 : Bool) => [(2, Bo v27)]) (fun v27 => v27 = (((n.votes.length : Int) == 0) && ((n.peers.length : Int) == 0))) ?_ ?_
      ·refine CW.region ?_
       refine RW.v rfl (V.field rfl rfl rfl rfl (by decide) rfl) ?_
       refine RW.v rfl (V.loadPrim (d := .r (sl 1 cI n.votes)) rfl rfl (.inr ⟨_, rfl⟩) rfl rfl rfl) ?_
       refine RW.v rfl (V.lenT (n := n.votes.length) rfl rfl rfl .r) ?_
       refine RW.v rfl (V.cmpInt rfl rfl rfl rfl) ?_
       refine RW.v rfl (V.mv (d := Bo ((n.votes.length : Int) == 0)) rfl rfl) ?_
       refine RW.gv rfl rfl rfl rfl (fun h28 => V.field rfl rfl rfl rfl (by decide) rfl) (fun h28 => ?_) (fun h28 => ?_)
       ·skip
        refine RW.gt rfl rfl rfl rfl (V.loadPrim (d := .r (sl 4 Peer.c n.peers)) rfl rfl (.inr ⟨_, rfl⟩) rfl rfl rfl) ?_
        refine RW.gt rfl rfl rfl rfl (V.lenT (n := n.peers.length) rfl rfl rfl .r) ?_
        refine RW.gt rfl rfl rfl rfl (V.cmpInt rfl rfl rfl rfl) ?_
        refine RW.v rfl (V.pickT (d := Bo ((n.peers.length : Int) == 0)) rfl rfl rfl) ?_
        refine RW.v rfl (V.as (d := Bo ((n.peers.length : Int) == 0)) rfl rfl) ?_
        refine RW.nil ?_
        exact ⟨_, by first | rfl | (simp_all; done) | (simp_all; omega) | grind, rfl, Le.c rfl <| Le.e⟩
       ·skip
        refine RW.guardF rfl rfl rfl rfl ?_
        refine RW.guardF rfl rfl rfl rfl ?_
        refine RW.guardF rfl rfl rfl rfl ?_
        refine RW.v rfl (V.pickF (d := Bo false) rfl rfl rfl) ?_
        refine RW.v rfl (V.as (d := Bo false) rfl rfl) ?_
        refine RW.nil ?_
        exact ⟨_, by first | rfl | (simp_all; done) | (simp_all; omega) | grind, rfl, Le.c rfl <| Le.e⟩
      ·intro v27 hv29
       refine CW.ret ?_
       exact Post.one (RV.b rfl (by first | (simp_all [nodeOk]; done) | grind [nodeOk])) (AOs.a rfl AOs.e)
     ·skip
      refine CW.seq ?_
      refine CW.region ?_
      refine RW.v rfl (V.cmpInt rfl rfl rfl rfl) ?_
      refine RW.v rfl (V.as (d := Bo (n.role == 1)) rfl rfl) ?_
      refine RW.nil ?_
      refine CW.le [(1, .obj b1 ((Node.c n).map .r)), (87, Bo (n.role == 1))] rfl (Le.of rfl) ?_
      refine CW.cond rfl (fun h30 => ?_) (fun h30 => ?_)
      ·skip
       refine CW.seq ?_
       refine CW.region ?_
       refine RW.v rfl (V.field rfl rfl rfl rfl (by decide) rfl) ?_
       refine RW.v rfl (V.loadPrim (d := .r (sl 4 Peer.c n.peers)) rfl rfl (.inr ⟨_, rfl⟩) rfl rfl rfl) ?_
       refine RW.v rfl (V.lenT (n := n.peers.length) rfl rfl rfl .r) ?_
       refine RW.v rfl (V.cmpInt rfl rfl rfl rfl) ?_
       refine RW.v rfl (V.as (d := Bo ((n.peers.length : Int) == 0)) rfl rfl) ?_
       refine RW.nil ?_
       refine CW.le [(2, Bo ((n.peers.length : Int) == 0))] rfl (Le.of rfl) ?_
       refine CW.ret ?_
       exact Post.one (RV.b rfl (by first | (simp_all [nodeOk]; done) | grind [nodeOk])) (AOs.a rfl AOs.e)
      ·skip
       refine CW.skip ?_
       refine CW.le [(1, .obj b1 ((Node.c n).map .r))] rfl (Le.of rfl) ?_
       refine CW.seqJ 106 (fun (v31 : Bool) => [(2, Bo v31)]) (fun v31 => v31 = (((n.role == 2) && ((n.votes.length : Int) == 0)) && (peersOkB n))) ?_ ?_
       ·refine CW.region ?_
        refine RW.v rfl (V.field rfl rfl rfl rfl (by decide) rfl) ?_
        refine RW.v rfl (V.loadPrim (d := I n.role) rfl rfl (.inl rfl) rfl rfl rfl) ?_
        refine RW.v rfl (V.cmpInt rfl rfl rfl rfl) ?_
        refine RW.v rfl (V.mv (d := Bo (n.role == 2)) rfl rfl) ?_
        refine RW.gv rfl rfl rfl rfl (fun h32 => V.field rfl rfl rfl rfl (by decide) rfl) (fun h32 => ?_) (fun h32 => ?_)
        ·skip
         refine RW.gt rfl rfl rfl rfl (V.loadPrim (d := .r (sl 1 cI n.votes)) rfl rfl (.inr ⟨_, rfl⟩) rfl rfl rfl) ?_
         refine RW.gt rfl rfl rfl rfl (V.lenT (n := n.votes.length) rfl rfl rfl .r) ?_
         refine RW.gt rfl rfl rfl rfl (V.cmpInt rfl rfl rfl rfl) ?_
         refine RW.v rfl (V.pickT (d := Bo ((n.votes.length : Int) == 0)) rfl rfl rfl) ?_
         refine RW.v rfl (V.mv (d := Bo ((n.votes.length : Int) == 0)) rfl rfl) ?_
         refine RW.gv rfl rfl rfl rfl (fun h33 => V.loadAgg rfl rfl rfl rfl rfl (Nat.le_of_ble_eq_true rfl)) (fun h33 => ?_) (fun h33 => ?_)
         ·skip
          refine RW.gcall rfl rfl rfl rfl (impl_peersOk_fn n hok) rfl (.cons (.agg (.cons (.r .r) (.cons (.r .r) (.cons (.r .r) (.cons (.r .r) (.cons (.r .r) (.cons (.r .r) (.cons (.r .r) (.cons (.r .r) (.cons (.r .r) (.cons (.r .r) (.cons (.r .r) (.cons (.r .r) (.cons (.r .r) (.cons (.r .r) (.nil)))))))))))))))) (.nil)) fun g34 => ?_
          refine RW.v rfl (V.pickT (d := Bo (peersOkB n)) rfl rfl rfl) ?_
          refine RW.v rfl (V.as (d := Bo (peersOkB n)) rfl rfl) ?_
          refine RW.nil ?_
          exact ⟨_, by first | rfl | (simp_all; done) | (simp_all; omega) | grind, rfl, Le.c rfl <| Le.e⟩
         ·skip
          refine RW.guardF rfl rfl rfl rfl ?_
          refine RW.v rfl (V.pickF (d := Bo false) rfl rfl rfl) ?_
          refine RW.v rfl (V.as (d := Bo false) rfl rfl) ?_
          refine RW.nil ?_
          exact ⟨_, by first | rfl | (simp_all; done) | (simp_all; omega) | grind, rfl, Le.c rfl <| Le.e⟩
        ·skip
         refine RW.guardF rfl rfl rfl rfl ?_
         refine RW.guardF rfl rfl rfl rfl ?_
         refine RW.guardF rfl rfl rfl rfl ?_
         refine RW.v rfl (V.pickF (d := Bo false) rfl rfl rfl) ?_
         refine RW.v rfl (V.mv (d := Bo false) rfl rfl) ?_
         refine RW.guardF rfl rfl rfl rfl ?_
         refine RW.guardF rfl rfl rfl rfl ?_
         refine RW.v rfl (V.pickF (d := Bo false) rfl rfl rfl) ?_
         refine RW.v rfl (V.as (d := Bo false) rfl rfl) ?_
         refine RW.nil ?_
         exact ⟨_, by first | rfl | (simp_all; done) | (simp_all; omega) | grind, rfl, Le.c rfl <| Le.e⟩
       ·intro v31 hv35
        refine CW.ret ?_
        exact Post.one (RV.b rfl (by first | (simp_all [nodeOk]; done) | grind [nodeOk])) (AOs.a rfl AOs.e)
set_option maxHeartbeats 4000000 in
theorem spec_NodeOk_fn (n : Node) (hok : okToNode n) : Eng.Fn E.P 20 [.agg ((Node.c n).map .r)] (.one (.one (.w (.v (.bool (nodeOk n)))))) [.agg ((Node.c n).map .r)] := by
 refine Eng.Fn.intro (E := E) (rvs := [.tmp 2]) Try.func20 rfl rfl rfl (by simp [outSlots, moved, rvSlot, sl]) ?_
 intro B g bo
 refine CW.le [(0, .agg ((Node.c n).map .r))] rfl (Le.of rfl) ?_
 refine CW.seq ?_
 refine CW.region ?_
 refine RW.box (ds := ((Node.c n).map .r)) rfl rfl rfl fun b1 => ?_
 refine RW.v rfl (V.as (d := Bo false) rfl rfl) ?_
 refine RW.nil ?_
 refine CW.le [(1, .obj b1 ((Node.c n).map .r))] rfl (Le.of rfl) ?_
 refine CW.seq ?_
 refine CW.seqJ 153 (fun (v2 : Bool) => [(1, .obj b1 ((Node.c n).map .r)), (47, Bo v2)]) (fun v2 => v2 = (((((((!(inR n.id 1 4)) || (!(confOk n.conf))) || (!(logOk n.log))) || (!(inR n.term_ 0 100000))) || (!(inR n.vote 0 4))) || (!(inR n.lead 0 4))) || (!(inR n.role 0 2)))) ?_ ?_
 ·refine CW.region ?_
  refine RW.v rfl (V.field rfl rfl rfl rfl (by decide) rfl) ?_
  refine RW.v rfl (V.loadPrim (d := I n.id) rfl rfl (.inl rfl) rfl rfl rfl) ?_
  refine RW.call rfl (spec_l01In_fn n.id 1 4) rfl (.cons (.one (.r .r)) (.cons (.one (.r .r)) (.cons (.one (.r .r)) (.nil)))) fun g3 => ?_
  refine RW.v rfl (V.not rfl rfl) ?_
  refine RW.v rfl (V.mv (d := Bo (!(inR n.id 1 4))) rfl rfl) ?_
  refine RW.gv rfl rfl rfl rfl (fun h4 => V.field rfl rfl rfl rfl (by decide) rfl) (fun h4 => ?_) (fun h4 => ?_)
  ·skip
   refine RW.gt rfl rfl rfl rfl (V.loadPrim (d := .r (sl 1 cI n.conf)) rfl rfl (.inr ⟨_, rfl⟩) rfl rfl rfl) ?_
   refine RW.gcall rfl rfl rfl rfl (spec_ConfOk_fn n.conf) rfl (.cons (.one (.r .r)) (.nil)) fun g5 => ?_
   refine RW.gt rfl rfl rfl rfl (V.not rfl rfl) ?_
   refine RW.v rfl (V.pickF (d := Bo (!(confOk n.conf))) rfl rfl rfl) ?_
   refine RW.v rfl (V.mv (d := Bo (!(confOk n.conf))) rfl rfl) ?_
   refine RW.gv rfl rfl rfl rfl (fun h6 => V.field rfl rfl rfl rfl (by decide) rfl) (fun h6 => ?_) (fun h6 => ?_)
   ·skip
    refine RW.gt rfl rfl rfl rfl (V.loadAgg rfl rfl rfl rfl rfl (Nat.le_of_ble_eq_true rfl)) ?_
    refine RW.gcall rfl rfl rfl rfl (spec_LogOk_fn n.log (hok.2.1)) rfl (.cons (.agg (.cons (.r .r) (.cons (.r .r) (.cons (.r .r) (.nil))))) (.nil)) fun g7 => ?_
    refine RW.gt rfl rfl rfl rfl (V.not rfl rfl) ?_
    refine RW.v rfl (V.pickF (d := Bo (!(logOk n.log))) rfl rfl rfl) ?_
    refine RW.v rfl (V.mv (d := Bo (!(logOk n.log))) rfl rfl) ?_
    refine RW.gv rfl rfl rfl rfl (fun h8 => V.field rfl rfl rfl rfl (by decide) rfl) (fun h8 => ?_) (fun h8 => ?_)
    ·skip
     refine RW.gt rfl rfl rfl rfl (V.loadPrim (d := I n.term_) rfl rfl (.inl rfl) rfl rfl rfl) ?_
     refine RW.gcall rfl rfl rfl rfl (spec_l01In_fn n.term_ 0 100000) rfl (.cons (.one (.r .r)) (.cons (.one (.r .r)) (.cons (.one (.r .r)) (.nil)))) fun g9 => ?_
     refine RW.gt rfl rfl rfl rfl (V.not rfl rfl) ?_
     refine RW.v rfl (V.pickF (d := Bo (!(inR n.term_ 0 100000))) rfl rfl rfl) ?_
     refine RW.v rfl (V.mv (d := Bo (!(inR n.term_ 0 100000))) rfl rfl) ?_
     refine RW.gv rfl rfl rfl rfl (fun h10 => V.field rfl rfl rfl rfl (by decide) rfl) (fun h10 => ?_) (fun h10 => ?_)
     ·skip
      refine RW.gt rfl rfl rfl rfl (V.loadPrim (d := I n.vote) rfl rfl (.inl rfl) rfl rfl rfl) ?_
      refine RW.gcall rfl rfl rfl rfl (spec_l01In_fn n.vote 0 4) rfl (.cons (.one (.r .r)) (.cons (.one (.r .r)) (.cons (.one (.r .r)) (.nil)))) fun g11 => ?_
      refine RW.gt rfl rfl rfl rfl (V.not rfl rfl) ?_
      refine RW.v rfl (V.pickF (d := Bo (!(inR n.vote 0 4))) rfl rfl rfl) ?_
      refine RW.v rfl (V.mv (d := Bo (!(inR n.vote 0 4))) rfl rfl) ?_
      refine RW.gv rfl rfl rfl rfl (fun h12 => V.field rfl rfl rfl rfl (by decide) rfl) (fun h12 => ?_) (fun h12 => ?_)
      ·skip
       refine RW.gt rfl rfl rfl rfl (V.loadPrim (d := I n.lead) rfl rfl (.inl rfl) rfl rfl rfl) ?_
       refine RW.gcall rfl rfl rfl rfl (spec_l01In_fn n.lead 0 4) rfl (.cons (.one (.r .r)) (.cons (.one (.r .r)) (.cons (.one (.r .r)) (.nil)))) fun g13 => ?_
       refine RW.gt rfl rfl rfl rfl (V.not rfl rfl) ?_
       refine RW.v rfl (V.pickF (d := Bo (!(inR n.lead 0 4))) rfl rfl rfl) ?_
       refine RW.v rfl (V.mv (d := Bo (!(inR n.lead 0 4))) rfl rfl) ?_
       refine RW.gv rfl rfl rfl rfl (fun h14 => V.field rfl rfl rfl rfl (by decide) rfl) (fun h14 => ?_) (fun h14 => ?_)
       ·skip
        refine RW.gt rfl rfl rfl rfl (V.loadPrim (d := I n.role) rfl rfl (.inl rfl) rfl rfl rfl) ?_
        refine RW.gcall rfl rfl rfl rfl (spec_l01In_fn n.role 0 2) rfl (.cons (.one (.r .r)) (.cons (.one (.r .r)) (.cons (.one (.r .r)) (.nil)))) fun g15 => ?_
        refine RW.gt rfl rfl rfl rfl (V.not rfl rfl) ?_
        refine RW.v rfl (V.pickF (d := Bo (!(inR n.role 0 2))) rfl rfl rfl) ?_
        refine RW.nil ?_
        exact ⟨_, by first | rfl | (simp_all; done) | (simp_all; omega) | grind, rfl, Le.c rfl <| Le.c rfl <| Le.e⟩
       ·skip
        refine RW.guardF rfl rfl rfl rfl ?_
        refine RW.guardF rfl rfl rfl rfl ?_
        refine RW.guardF rfl rfl rfl rfl ?_
        refine RW.v rfl (V.pickT (d := Bo true) rfl rfl rfl) ?_
        refine RW.nil ?_
        exact ⟨_, by first | rfl | (simp_all; done) | (simp_all; omega) | grind, rfl, Le.c rfl <| Le.c rfl <| Le.e⟩
      ·skip
       refine RW.guardF rfl rfl rfl rfl ?_
       refine RW.guardF rfl rfl rfl rfl ?_
       refine RW.guardF rfl rfl rfl rfl ?_
       refine RW.v rfl (V.pickT (d := Bo true) rfl rfl rfl) ?_
       refine RW.v rfl (V.mv (d := Bo true) rfl rfl) ?_
       refine RW.guardF rfl rfl rfl rfl ?_
       refine RW.guardF rfl rfl rfl rfl ?_
       refine RW.guardF rfl rfl rfl rfl ?_
       refine RW.guardF rfl rfl rfl rfl ?_
       refine RW.v rfl (V.pickT (d := Bo true) rfl rfl rfl) ?_
       refine RW.nil ?_
       exact ⟨_, by first | rfl | (simp_all; done) | (simp_all; omega) | grind, rfl, Le.c rfl <| Le.c rfl <| Le.e⟩
     ·skip
      refine RW.guardF rfl rfl rfl rfl ?_
      refine RW.guardF rfl rfl rfl rfl ?_
      refine RW.guardF rfl rfl rfl rfl ?_
      refine RW.v rfl (V.pickT (d := Bo true) rfl rfl rfl) ?_
      refine RW.v rfl (V.mv (d := Bo true) rfl rfl) ?_
      refine RW.guardF rfl rfl rfl rfl ?_
      refine RW.guardF rfl rfl rfl rfl ?_
      refine RW.guardF rfl rfl rfl rfl ?_
      refine RW.guardF rfl rfl rfl rfl ?_
      refine RW.v rfl (V.pickT (d := Bo true) rfl rfl rfl) ?_
      refine RW.v rfl (V.mv (d := Bo true) rfl rfl) ?_
      refine RW.guardF rfl rfl rfl rfl ?_
      refine RW.guardF rfl rfl rfl rfl ?_
      refine RW.guardF rfl rfl rfl rfl ?_
      refine RW.guardF rfl rfl rfl rfl ?_
      refine RW.v rfl (V.pickT (d := Bo true) rfl rfl rfl) ?_
      refine RW.nil ?_
      exact ⟨_, by first | rfl | (simp_all; done) | (simp_all; omega) | grind, rfl, Le.c rfl <| Le.c rfl <| Le.e⟩
    ·skip
     refine RW.guardF rfl rfl rfl rfl ?_
     refine RW.guardF rfl rfl rfl rfl ?_
     refine RW.guardF rfl rfl rfl rfl ?_
     refine RW.v rfl (V.pickT (d := Bo true) rfl rfl rfl) ?_
     refine RW.v rfl (V.mv (d := Bo true) rfl rfl) ?_
     refine RW.guardF rfl rfl rfl rfl ?_
     refine RW.guardF rfl rfl rfl rfl ?_
     refine RW.guardF rfl rfl rfl rfl ?_
     refine RW.guardF rfl rfl rfl rfl ?_
     refine RW.v rfl (V.pickT (d := Bo true) rfl rfl rfl) ?_
     refine RW.v rfl (V.mv (d := Bo true) rfl rfl) ?_
     refine RW.guardF rfl rfl rfl rfl ?_
     refine RW.guardF rfl rfl rfl rfl ?_
     refine RW.guardF rfl rfl rfl rfl ?_
     refine RW.guardF rfl rfl rfl rfl ?_
     refine RW.v rfl (V.pickT (d := Bo true) rfl rfl rfl) ?_
     refine RW.v rfl (V.mv (d := Bo true) rfl rfl) ?_
     refine RW.guardF rfl rfl rfl rfl ?_
     refine RW.guardF rfl rfl rfl rfl ?_
     refine RW.guardF rfl rfl rfl rfl ?_
     refine RW.guardF rfl rfl rfl rfl ?_
     refine RW.v rfl (V.pickT (d := Bo true) rfl rfl rfl) ?_
     refine RW.nil ?_
     exact ⟨_, by first | rfl | (simp_all; done) | (simp_all; omega) | grind, rfl, Le.c rfl <| Le.c rfl <| Le.e⟩
   ·skip
    refine RW.guardF rfl rfl rfl rfl ?_
    refine RW.guardF rfl rfl rfl rfl ?_
    refine RW.guardF rfl rfl rfl rfl ?_
    refine RW.v rfl (V.pickT (d := Bo true) rfl rfl rfl) ?_
    refine RW.v rfl (V.mv (d := Bo true) rfl rfl) ?_
    refine RW.guardF rfl rfl rfl rfl ?_
    refine RW.guardF rfl rfl rfl rfl ?_
    refine RW.guardF rfl rfl rfl rfl ?_
    refine RW.guardF rfl rfl rfl rfl ?_
    refine RW.v rfl (V.pickT (d := Bo true) rfl rfl rfl) ?_
    refine RW.v rfl (V.mv (d := Bo true) rfl rfl) ?_
    refine RW.guardF rfl rfl rfl rfl ?_
    refine RW.guardF rfl rfl rfl rfl ?_
    refine RW.guardF rfl rfl rfl rfl ?_
    refine RW.guardF rfl rfl rfl rfl ?_
    refine RW.v rfl (V.pickT (d := Bo true) rfl rfl rfl) ?_
    refine RW.v rfl (V.mv (d := Bo true) rfl rfl) ?_
    refine RW.guardF rfl rfl rfl rfl ?_
    refine RW.guardF rfl rfl rfl rfl ?_
    refine RW.guardF rfl rfl rfl rfl ?_
    refine RW.guardF rfl rfl rfl rfl ?_
    refine RW.v rfl (V.pickT (d := Bo true) rfl rfl rfl) ?_
    refine RW.v rfl (V.mv (d := Bo true) rfl rfl) ?_
    refine RW.guardF rfl rfl rfl rfl ?_
    refine RW.guardF rfl rfl rfl rfl ?_
    refine RW.guardF rfl rfl rfl rfl ?_
    refine RW.guardF rfl rfl rfl rfl ?_
    refine RW.v rfl (V.pickT (d := Bo true) rfl rfl rfl) ?_
    refine RW.nil ?_
    exact ⟨_, by first | rfl | (simp_all; done) | (simp_all; omega) | grind, rfl, Le.c rfl <| Le.c rfl <| Le.e⟩
  ·skip
   refine RW.guardF rfl rfl rfl rfl ?_
   refine RW.guardF rfl rfl rfl rfl ?_
   refine RW.guardF rfl rfl rfl rfl ?_
   refine RW.v rfl (V.pickT (d := Bo true) rfl rfl rfl) ?_
   refine RW.v rfl (V.mv (d := Bo true) rfl rfl) ?_
   refine RW.guardF rfl rfl rfl rfl ?_
   refine RW.guardF rfl rfl rfl rfl ?_
   refine RW.guardF rfl rfl rfl rfl ?_
   refine RW.guardF rfl rfl rfl rfl ?_
   refine RW.v rfl (V.pickT (d := Bo true) rfl rfl rfl) ?_
   refine RW.v rfl (V.mv (d := Bo true) rfl rfl) ?_
   refine RW.guardF rfl rfl rfl rfl ?_
   refine RW.guardF rfl rfl rfl rfl ?_
   refine RW.guardF rfl rfl rfl rfl ?_
   refine RW.guardF rfl rfl rfl rfl ?_
   refine RW.v rfl (V.pickT (d := Bo true) rfl rfl rfl) ?_
   refine RW.v rfl (V.mv (d := Bo true) rfl rfl) ?_
   refine RW.guardF rfl rfl rfl rfl ?_
   refine RW.guardF rfl rfl rfl rfl ?_
   refine RW.guardF rfl rfl rfl rfl ?_
   refine RW.guardF rfl rfl rfl rfl ?_
   refine RW.v rfl (V.pickT (d := Bo true) rfl rfl rfl) ?_
   refine RW.v rfl (V.mv (d := Bo true) rfl rfl) ?_
   refine RW.guardF rfl rfl rfl rfl ?_
   refine RW.guardF rfl rfl rfl rfl ?_
   refine RW.guardF rfl rfl rfl rfl ?_
   refine RW.guardF rfl rfl rfl rfl ?_
   refine RW.v rfl (V.pickT (d := Bo true) rfl rfl rfl) ?_
   refine RW.v rfl (V.mv (d := Bo true) rfl rfl) ?_
   refine RW.guardF rfl rfl rfl rfl ?_
   refine RW.guardF rfl rfl rfl rfl ?_
   refine RW.guardF rfl rfl rfl rfl ?_
   refine RW.guardF rfl rfl rfl rfl ?_
   refine RW.v rfl (V.pickT (d := Bo true) rfl rfl rfl) ?_
   refine RW.nil ?_
   exact ⟨_, by first | rfl | (simp_all; done) | (simp_all; omega) | grind, rfl, Le.c rfl <| Le.c rfl <| Le.e⟩
 ·intro v2 hv16
  refine CW.cond rfl (fun h17 => ?_) (fun h17 => ?_)
  ·skip
   refine CW.seq ?_
   refine CW.region ?_
   refine RW.v rfl (V.as (d := Bo false) rfl rfl) ?_
   refine RW.nil ?_
   refine CW.le [(2, Bo false)] rfl (Le.of rfl) ?_
   refine CW.ret ?_
   exact Post.one (RV.b rfl (by by_cases hr2 : inR n.role 0 2 = true; (first | (simp_all [nodeOk]; done) | grind [nodeOk]); rw [nodeOk_role hr2])) (AOs.a rfl AOs.e)
  ·skip
   refine CW.skip ?_
   refine CW.le [(1, .obj b1 ((Node.c n).map .r))] rfl (Le.of rfl) ?_
   refine CW.seq ?_
   refine CW.region ?_
   refine RW.v rfl (V.field rfl rfl rfl rfl (by decide) rfl) ?_
   refine RW.v rfl (V.loadAgg rfl rfl rfl rfl rfl (Nat.le_of_ble_eq_true rfl)) ?_
   refine RW.call rfl (spec_LogLast_fn n.log (hok.2.1)) rfl (.cons (.agg (.cons (.r .r) (.cons (.r .r) (.cons (.r .r) (.nil))))) (.nil)) fun g18 => ?_
   refine RW.moveMove rfl rfl rfl (by decide) (Nat.le_of_ble_eq_true rfl) (Nat.le_of_ble_eq_true rfl) ?_
   refine RW.extract (d := I ((logLast n.log).1)) rfl rfl rfl (by decide) (Nat.le_of_ble_eq_true rfl) rfl rfl ?_
   refine RW.extract (d := I ((logLast n.log).2)) rfl rfl rfl (by decide) (Nat.le_of_ble_eq_true rfl) rfl rfl ?_
   refine RW.v rfl (V.as (d := I ((logLast n.log).1)) rfl rfl) ?_
   refine RW.v rfl (V.as (d := I ((logLast n.log).2)) rfl rfl) ?_
   refine RW.nil ?_
   refine CW.le [(1, .obj b1 ((Node.c n).map .r)), (3, I ((logLast n.log).1)), (4, I ((logLast n.log).2))] rfl (Le.of rfl) ?_
   refine CW.seq ?_
   refine CW.seqJ 153 (fun (v19 : Bool) => [(1, .obj b1 ((Node.c n).map .r)), (3, I ((logLast n.log).1)), (96, Bo v19)]) (fun v19 => v19 = (((((decide (n.term_ < ((logLast n.log).2)) || (!(inR n.commit n.log.start ((logLast n.log).1)))) || (!(inR n.clock 0 20))) || (!(inR n.limit 1 20))) || (!(riseOk 1 4 none n.votes))) || (decide ((n.votes.length : Int) > 0) && (n.role != 1)))) ?_ ?_
   ·refine CW.region ?_
    refine RW.v rfl (V.field rfl rfl rfl rfl (by decide) rfl) ?_
    refine RW.v rfl (V.loadPrim (d := I n.term_) rfl rfl (.inl rfl) rfl rfl rfl) ?_
    refine RW.v rfl (V.mv (d := I ((logLast n.log).2)) rfl rfl) ?_
    refine RW.v rfl (V.cmpInt rfl rfl rfl rfl) ?_
    refine RW.v rfl (V.mv (d := Bo (decide (n.term_ < ((logLast n.log).2)))) rfl rfl) ?_
    refine RW.gv rfl rfl rfl rfl (fun h20 => V.field rfl rfl rfl rfl (by decide) rfl) (fun h20 => ?_) (fun h20 => ?_)
    ·skip
     refine RW.gt rfl rfl rfl rfl (V.loadPrim (d := I n.commit) rfl rfl (.inl rfl) rfl rfl rfl) ?_
     refine RW.gt rfl rfl rfl rfl (V.field rfl rfl rfl rfl (by decide) rfl) ?_
     refine RW.gt rfl rfl rfl rfl (V.field rfl rfl rfl rfl (by decide) rfl) ?_
     refine RW.gt rfl rfl rfl rfl (V.loadPrim (d := I n.log.start) rfl rfl (.inl rfl) rfl rfl rfl) ?_
     refine RW.gt rfl rfl rfl rfl (V.mv (d := I ((logLast n.log).1)) rfl rfl) ?_
     refine RW.gcall rfl rfl rfl rfl (spec_l01In_fn n.commit n.log.start ((logLast n.log).1)) rfl (.cons (.one (.r .r)) (.cons (.one (.r .r)) (.cons (.one (.r .r)) (.nil)))) fun g21 => ?_
     refine RW.gt rfl rfl rfl rfl (V.not rfl rfl) ?_
     refine RW.v rfl (V.pickF (d := Bo (!(inR n.commit n.log.start ((logLast n.log).1)))) rfl rfl rfl) ?_
     refine RW.v rfl (V.mv (d := Bo (!(inR n.commit n.log.start ((logLast n.log).1)))) rfl rfl) ?_
     refine RW.gv rfl rfl rfl rfl (fun h22 => V.field rfl rfl rfl rfl (by decide) rfl) (fun h22 => ?_) (fun h22 => ?_)
     ·skip
      refine RW.gt rfl rfl rfl rfl (V.loadPrim (d := I n.clock) rfl rfl (.inl rfl) rfl rfl rfl) ?_
      refine RW.gcall rfl rfl rfl rfl (spec_l01In_fn n.clock 0 20) rfl (.cons (.one (.r .r)) (.cons (.one (.r .r)) (.cons (.one (.r .r)) (.nil)))) fun g23 => ?_
      refine RW.gt rfl rfl rfl rfl (V.not rfl rfl) ?_
      refine RW.v rfl (V.pickF (d := Bo (!(inR n.clock 0 20))) rfl rfl rfl) ?_
      refine RW.v rfl (V.mv (d := Bo (!(inR n.clock 0 20))) rfl rfl) ?_
      refine RW.gv rfl rfl rfl rfl (fun h24 => V.field rfl rfl rfl rfl (by decide) rfl) (fun h24 => ?_) (fun h24 => ?_)
      ·skip
       refine RW.gt rfl rfl rfl rfl (V.loadPrim (d := I n.limit) rfl rfl (.inl rfl) rfl rfl rfl) ?_
       refine RW.gcall rfl rfl rfl rfl (spec_l01In_fn n.limit 1 20) rfl (.cons (.one (.r .r)) (.cons (.one (.r .r)) (.cons (.one (.r .r)) (.nil)))) fun g25 => ?_
       refine RW.gt rfl rfl rfl rfl (V.not rfl rfl) ?_
       refine RW.v rfl (V.pickF (d := Bo (!(inR n.limit 1 20))) rfl rfl rfl) ?_
       refine RW.v rfl (V.mv (d := Bo (!(inR n.limit 1 20))) rfl rfl) ?_
       refine RW.gv rfl rfl rfl rfl (fun h26 => V.field rfl rfl rfl rfl (by decide) rfl) (fun h26 => ?_) (fun h26 => ?_)
       ·skip
        refine RW.gt rfl rfl rfl rfl (V.loadPrim (d := .r (sl 1 cI n.votes)) rfl rfl (.inr ⟨_, rfl⟩) rfl rfl rfl) ?_
        refine RW.gcall rfl rfl rfl rfl (spec_l05Rise_fn n.votes 1 4) rfl (.cons (.one (.r .r)) (.cons (.one (.r .r)) (.cons (.one (.r .r)) (.nil)))) fun g27 => ?_
        refine RW.gt rfl rfl rfl rfl (V.not rfl rfl) ?_
        refine RW.v rfl (V.pickF (d := Bo (!(riseOk 1 4 none n.votes))) rfl rfl rfl) ?_
        refine RW.v rfl (V.mv (d := Bo (!(riseOk 1 4 none n.votes))) rfl rfl) ?_
        refine RW.gv rfl rfl rfl rfl (fun h28 => V.field rfl rfl rfl rfl (by decide) rfl) (fun h28 => ?_) (fun h28 => ?_)
        ·skip
         refine RW.gt rfl rfl rfl rfl (V.loadPrim (d := .r (sl 1 cI n.votes)) rfl rfl (.inr ⟨_, rfl⟩) rfl rfl rfl) ?_
         refine RW.gt rfl rfl rfl rfl (V.lenT (n := n.votes.length) rfl rfl rfl .r) ?_
         refine RW.gt rfl rfl rfl rfl (V.cmpInt rfl rfl rfl rfl) ?_
         refine RW.gt rfl rfl rfl rfl (V.mv (d := Bo (decide ((n.votes.length : Int) > 0))) rfl rfl) ?_
         refine RW.gv rfl rfl rfl rfl (fun h29 => V.field rfl rfl rfl rfl (by decide) rfl) (fun h29 => ?_) (fun h29 => ?_)
         ·skip
          refine RW.gt rfl rfl rfl rfl (V.loadPrim (d := I n.role) rfl rfl (.inl rfl) rfl rfl rfl) ?_
          refine RW.gt rfl rfl rfl rfl (V.cmpInt rfl rfl rfl rfl) ?_
          refine RW.gt rfl rfl rfl rfl (V.pickT (d := Bo (n.role != 1)) rfl rfl rfl) ?_
          refine RW.v rfl (V.pickF (d := Bo (n.role != 1)) rfl rfl rfl) ?_
          refine RW.nil ?_
          exact ⟨_, by first | rfl | (simp_all; done) | (simp_all; omega) | grind, rfl, Le.c rfl <| Le.c rfl <| Le.c rfl <| Le.e⟩
         ·skip
          refine RW.guardF rfl rfl rfl rfl ?_
          refine RW.guardF rfl rfl rfl rfl ?_
          refine RW.gt rfl rfl rfl rfl (V.pickF (d := Bo false) rfl rfl rfl) ?_
          refine RW.v rfl (V.pickF (d := Bo false) rfl rfl rfl) ?_
          refine RW.nil ?_
          exact ⟨_, by first | rfl | (simp_all; done) | (simp_all; omega) | grind, rfl, Le.c rfl <| Le.c rfl <| Le.c rfl <| Le.e⟩
        ·skip
         refine RW.guardF rfl rfl rfl rfl ?_
         refine RW.guardF rfl rfl rfl rfl ?_
         refine RW.guardF rfl rfl rfl rfl ?_
         refine RW.guardF rfl rfl rfl rfl ?_
         refine RW.guardU rfl rfl rfl rfl ?_
         refine RW.guardU rfl rfl rfl rfl ?_
         refine RW.guardU rfl rfl rfl rfl ?_
         refine RW.guardF rfl rfl rfl rfl ?_
         refine RW.v rfl (V.pickT (d := Bo true) rfl rfl rfl) ?_
         refine RW.nil ?_
         exact ⟨_, by first | rfl | (simp_all; done) | (simp_all; omega) | grind, rfl, Le.c rfl <| Le.c rfl <| Le.c rfl <| Le.e⟩
       ·skip
        refine RW.guardF rfl rfl rfl rfl ?_
        refine RW.guardF rfl rfl rfl rfl ?_
        refine RW.guardF rfl rfl rfl rfl ?_
        refine RW.v rfl (V.pickT (d := Bo true) rfl rfl rfl) ?_
        refine RW.v rfl (V.mv (d := Bo true) rfl rfl) ?_
        refine RW.guardF rfl rfl rfl rfl ?_
        refine RW.guardF rfl rfl rfl rfl ?_
        refine RW.guardF rfl rfl rfl rfl ?_
        refine RW.guardF rfl rfl rfl rfl ?_
        refine RW.guardF rfl rfl rfl rfl ?_
        refine RW.guardU rfl rfl rfl rfl ?_
        refine RW.guardU rfl rfl rfl rfl ?_
        refine RW.guardU rfl rfl rfl rfl ?_
        refine RW.guardF rfl rfl rfl rfl ?_
        refine RW.v rfl (V.pickT (d := Bo true) rfl rfl rfl) ?_
        refine RW.nil ?_
        exact ⟨_, by first | rfl | (simp_all; done) | (simp_all; omega) | grind, rfl, Le.c rfl <| Le.c rfl <| Le.c rfl <| Le.e⟩
      ·skip
       refine RW.guardF rfl rfl rfl rfl ?_
       refine RW.guardF rfl rfl rfl rfl ?_
       refine RW.guardF rfl rfl rfl rfl ?_
       refine RW.v rfl (V.pickT (d := Bo true) rfl rfl rfl) ?_
       refine RW.v rfl (V.mv (d := Bo true) rfl rfl) ?_
       refine RW.guardF rfl rfl rfl rfl ?_
       refine RW.guardF rfl rfl rfl rfl ?_
       refine RW.guardF rfl rfl rfl rfl ?_
       refine RW.guardF rfl rfl rfl rfl ?_
       refine RW.v rfl (V.pickT (d := Bo true) rfl rfl rfl) ?_
       refine RW.v rfl (V.mv (d := Bo true) rfl rfl) ?_
       refine RW.guardF rfl rfl rfl rfl ?_
       refine RW.guardF rfl rfl rfl rfl ?_
       refine RW.guardF rfl rfl rfl rfl ?_
       refine RW.guardF rfl rfl rfl rfl ?_
       refine RW.guardF rfl rfl rfl rfl ?_
       refine RW.guardU rfl rfl rfl rfl ?_
       refine RW.guardU rfl rfl rfl rfl ?_
       refine RW.guardU rfl rfl rfl rfl ?_
       refine RW.guardF rfl rfl rfl rfl ?_
       refine RW.v rfl (V.pickT (d := Bo true) rfl rfl rfl) ?_
       refine RW.nil ?_
       exact ⟨_, by first | rfl | (simp_all; done) | (simp_all; omega) | grind, rfl, Le.c rfl <| Le.c rfl <| Le.c rfl <| Le.e⟩
     ·skip
      refine RW.guardF rfl rfl rfl rfl ?_
      refine RW.guardF rfl rfl rfl rfl ?_
      refine RW.guardF rfl rfl rfl rfl ?_
      refine RW.v rfl (V.pickT (d := Bo true) rfl rfl rfl) ?_
      refine RW.v rfl (V.mv (d := Bo true) rfl rfl) ?_
      refine RW.guardF rfl rfl rfl rfl ?_
      refine RW.guardF rfl rfl rfl rfl ?_
      refine RW.guardF rfl rfl rfl rfl ?_
      refine RW.guardF rfl rfl rfl rfl ?_
      refine RW.v rfl (V.pickT (d := Bo true) rfl rfl rfl) ?_
      refine RW.v rfl (V.mv (d := Bo true) rfl rfl) ?_
      refine RW.guardF rfl rfl rfl rfl ?_
      refine RW.guardF rfl rfl rfl rfl ?_
      refine RW.guardF rfl rfl rfl rfl ?_
      refine RW.guardF rfl rfl rfl rfl ?_
      refine RW.v rfl (V.pickT (d := Bo true) rfl rfl rfl) ?_
      refine RW.v rfl (V.mv (d := Bo true) rfl rfl) ?_
      refine RW.guardF rfl rfl rfl rfl ?_
      refine RW.guardF rfl rfl rfl rfl ?_
      refine RW.guardF rfl rfl rfl rfl ?_
      refine RW.guardF rfl rfl rfl rfl ?_
      refine RW.guardF rfl rfl rfl rfl ?_
      refine RW.guardU rfl rfl rfl rfl ?_
      refine RW.guardU rfl rfl rfl rfl ?_
      refine RW.guardU rfl rfl rfl rfl ?_
      refine RW.guardF rfl rfl rfl rfl ?_
      refine RW.v rfl (V.pickT (d := Bo true) rfl rfl rfl) ?_
      refine RW.nil ?_
      exact ⟨_, by first | rfl | (simp_all; done) | (simp_all; omega) | grind, rfl, Le.c rfl <| Le.c rfl <| Le.c rfl <| Le.e⟩
    ·skip
     refine RW.guardF rfl rfl rfl rfl ?_
     refine RW.guardF rfl rfl rfl rfl ?_
     refine RW.guardF rfl rfl rfl rfl ?_
     refine RW.guardF rfl rfl rfl rfl ?_
     refine RW.guardF rfl rfl rfl rfl ?_
     refine RW.guardF rfl rfl rfl rfl ?_
     refine RW.guardF rfl rfl rfl rfl ?_
     refine RW.v rfl (V.pickT (d := Bo true) rfl rfl rfl) ?_
     refine RW.v rfl (V.mv (d := Bo true) rfl rfl) ?_
     refine RW.guardF rfl rfl rfl rfl ?_
     refine RW.guardF rfl rfl rfl rfl ?_
     refine RW.guardF rfl rfl rfl rfl ?_
     refine RW.guardF rfl rfl rfl rfl ?_
     refine RW.v rfl (V.pickT (d := Bo true) rfl rfl rfl) ?_
     refine RW.v rfl (V.mv (d := Bo true) rfl rfl) ?_
     refine RW.guardF rfl rfl rfl rfl ?_
     refine RW.guardF rfl rfl rfl rfl ?_
     refine RW.guardF rfl rfl rfl rfl ?_
     refine RW.guardF rfl rfl rfl rfl ?_
     refine RW.v rfl (V.pickT (d := Bo true) rfl rfl rfl) ?_
     refine RW.v rfl (V.mv (d := Bo true) rfl rfl) ?_
     refine RW.guardF rfl rfl rfl rfl ?_
     refine RW.guardF rfl rfl rfl rfl ?_
     refine RW.guardF rfl rfl rfl rfl ?_
     refine RW.guardF rfl rfl rfl rfl ?_
     refine RW.v rfl (V.pickT (d := Bo true) rfl rfl rfl) ?_
     refine RW.v rfl (V.mv (d := Bo true) rfl rfl) ?_
     refine RW.guardF rfl rfl rfl rfl ?_
     refine RW.guardF rfl rfl rfl rfl ?_
     refine RW.guardF rfl rfl rfl rfl ?_
     refine RW.guardF rfl rfl rfl rfl ?_
     refine RW.guardF rfl rfl rfl rfl ?_
     refine RW.guardU rfl rfl rfl rfl ?_
     refine RW.guardU rfl rfl rfl rfl ?_
     refine RW.guardU rfl rfl rfl rfl ?_
     refine RW.guardF rfl rfl rfl rfl ?_
     refine RW.v rfl (V.pickT (d := Bo true) rfl rfl rfl) ?_
     refine RW.nil ?_
     exact ⟨_, by first | rfl | (simp_all; done) | (simp_all; omega) | grind, rfl, Le.c rfl <| Le.c rfl <| Le.c rfl <| Le.e⟩
   ·intro v19 hv30
    refine CW.cond rfl (fun h31 => ?_) (fun h31 => ?_)
    ·skip
     refine CW.seq ?_
     refine CW.region ?_
     refine RW.v rfl (V.as (d := Bo false) rfl rfl) ?_
     refine RW.nil ?_
     refine CW.le [(2, Bo false)] rfl (Le.of rfl) ?_
     refine CW.ret ?_
     exact Post.one (RV.b rfl (by first | (simp_all [nodeOk]; done) | grind [nodeOk])) (AOs.a rfl AOs.e)
    ·skip
     refine CW.skip ?_
     refine CW.le [(1, .obj b1 ((Node.c n).map .r)), (3, I ((logLast n.log).1))] rfl (Le.of rfl) ?_
     refine CW.seq ?_
     refine CW.region ?_
     refine RW.build0 cI rfl rfl rfl rfl rfl fun X32 => ?_
     refine RW.assignMove rfl rfl rfl (by decide) (Nat.le_of_ble_eq_true rfl) (Nat.le_of_ble_eq_true rfl) ?_
     refine RW.nil ?_
     refine CW.le [(1, .obj b1 ((Node.c n).map .r)), (3, I ((logLast n.log).1)), (5, .w (sl 1 cI ([] : List Int)) X32)] rfl (Le.of rfl) ?_
     refine CW.seq ?_
     refine CW.seq ?_
     refine CW.region ?_
     refine RW.v rfl (V.field rfl rfl rfl rfl (by decide) rfl) ?_
     refine RW.v rfl (V.loadPrim (d := I n.role) rfl rfl (.inl rfl) rfl rfl rfl) ?_
     refine RW.v rfl (V.cmpInt rfl rfl rfl rfl) ?_
     refine RW.nil ?_
     refine CW.le [(1, .obj b1 ((Node.c n).map .r)), (3, I ((logLast n.log).1)), (5, .w (sl 1 cI ([] : List Int)) X32), (100, Bo (n.role == 2))] rfl (Le.of rfl) ?_
     refine CW.cond rfl (fun h33 => ?_) (fun h33 => ?_)
     ·skip
      refine CW.anyR 153 (fun (x : (Nat → Nat → Value) × (Nat → Nat → Value)) => match x with | (go34_1_1, go34_4_1) => [(1, .obj b1 ((Node.c n).map .r)), (3, I ((logLast n.log).1)), (5, .w (sl 1 cI (others (confAtS n 1000060) n.id)) (go34_4_1 0 0))]) (fun all hall K hK => ?_) ?_
      ·skip
       have ro34_111111 : ∀ (go34_1_1 : Nat → Nat → Value), ∀ (go34_4_1 : Nat → Nat → Value), RA E B all 0 #[true, true, true, true, true, true] ⟨153, [(1, .obj b1 ((Node.c n).map .r)), (3, I ((logLast n.log).1)), (5, .w (sl 1 cI (others (confAtS n 1000060) n.id)) (go34_4_1 0 0))]⟩ K := by
        intro go34_1_1 go34_4_1
        exact RA.of hall (RA.fin (by kernel_rfl) (hK (go34_1_1, go34_4_1) _ rfl (Le.of rfl)))
       have ro34_111110 : ∀ (go34_1_1 : Nat → Nat → Value), ∀ (go34_4_1 : Nat → Nat → Value), RA E B all 1 #[true, true, true, true, true, false] ⟨153, [(1, .obj b1 ((Node.c n).map .r)), (3, I ((logLast n.log).1)), (5, .w (sl 1 cI ([] : List Int)) X32), (105, .w (sl 1 cI (others (confAtS n 1000060) n.id)) (go34_4_1 0 0))]⟩ K := by
        intro go34_1_1 go34_4_1
        refine RA.of hall (RA.step (L := [5]) (by kernel_rfl) (by simp) (RA.each ?_ (RA.each0)))
        ·skip
         refine RO.assignMove rfl rfl rfl rfl rfl (by decide) (Nat.le_of_ble_eq_true rfl) (Nat.le_of_ble_eq_true rfl) ?_
         exact RA.to hall (RA.lr (ro34_111111 go34_1_1 go34_4_1) rfl rfl)
       have ro34_111100 : ∀ (go34_1_1 : Nat → Nat → Value), RA E B all 2 #[true, true, true, true, false, false] ⟨153, [(1, .obj b1 ((Node.c n).map .r)), (3, I ((logLast n.log).1)), (5, .w (sl 1 cI ([] : List Int)) X32), (102, .w (sl 1 cI (confAtS n 1000060)) (go34_1_1 0 0)), (104, I n.id)]⟩ K := by
        intro go34_1_1
        refine RA.of hall (RA.step (L := [4]) (by kernel_rfl) (by simp) (RA.each ?_ (RA.each0)))
        ·skip
         refine RO.callOwn rfl rfl (spec_l18Others_fn (confAtS n 1000060) n.id (confAtS_len hok _)) rfl (.cons (.one (.r (.al (k := none) (i := 102) (sz := 1) (V := (go34_1_1 0 0)) rfl rfl nofun))) (.cons (.one (.r .r)) (.nil))) rfl rfl fun go34_4_1 => ?_
         exact RA.to hall (RA.lr (ro34_111110 go34_1_1 go34_4_1) rfl rfl)
       have ro34_101100 : RA E B all 3 #[true, false, true, true, false, false] ⟨153, [(1, .obj b1 ((Node.c n).map .r)), (3, I ((logLast n.log).1)), (5, .w (sl 1 cI ([] : List Int)) X32), (101, .agg ((Node.c n).map .r)), (104, I n.id)]⟩ K := by
        refine RA.of hall (RA.step (L := [1]) (by kernel_rfl) (by simp) (RA.each ?_ (RA.each0)))
        ·skip
         refine RO.call rfl rfl (spec_ConfOf_fn n hok) rfl (.cons (.agg (.cons (.r .r) (.cons (.r .r) (.cons (.r .r) (.cons (.r .r) (.cons (.r .r) (.cons (.r .r) (.cons (.r .r) (.cons (.r .r) (.cons (.r .r) (.cons (.r .r) (.cons (.r .r) (.cons (.r .r) (.cons (.r .r) (.cons (.r .r) (.nil)))))))))))))))) (.nil)) rfl fun go34_1_1 => ?_
         exact RA.to hall (RA.lr (ro34_111100 go34_1_1) rfl rfl)
       have ro34_111000 : ∀ (go34_1_1 : Nat → Nat → Value), RA E B all 3 #[true, true, true, false, false, false] ⟨153, [(1, .obj b1 ((Node.c n).map .r)), (3, I ((logLast n.log).1)), (5, .w (sl 1 cI ([] : List Int)) X32), (102, .w (sl 1 cI (confAtS n 1000060)) (go34_1_1 0 0)), (103, .pt 1 b1 0)]⟩ K := by
        intro go34_1_1
        refine RA.of hall (RA.step (L := [3]) (by kernel_rfl) (by simp) (RA.each ?_ (RA.each0)))
        ·skip
         refine RO.v rfl rfl (V.loadPrim (d := I n.id) rfl rfl (.inl rfl) rfl rfl rfl) rfl ?_
         exact RA.to hall (RA.lr (ro34_111100 go34_1_1) rfl rfl)
       have ro34_001100 : RA E B all 4 #[false, false, true, true, false, false] ⟨153, [(1, .obj b1 ((Node.c n).map .r)), (3, I ((logLast n.log).1)), (5, .w (sl 1 cI ([] : List Int)) X32), (104, I n.id)]⟩ K := by
        refine RA.of hall (RA.step (L := [0]) (by kernel_rfl) (by simp) (RA.each ?_ (RA.each0)))
        ·skip
         refine RO.v rfl rfl (V.loadAgg rfl rfl rfl rfl rfl (Nat.le_of_ble_eq_true rfl)) rfl ?_
         exact RA.to hall (RA.lr ro34_101100 rfl rfl)
       have ro34_101000 : RA E B all 4 #[true, false, true, false, false, false] ⟨153, [(1, .obj b1 ((Node.c n).map .r)), (3, I ((logLast n.log).1)), (5, .w (sl 1 cI ([] : List Int)) X32), (101, .agg ((Node.c n).map .r)), (103, .pt 1 b1 0)]⟩ K := by
        refine RA.of hall (RA.step (L := [1, 3]) (by kernel_rfl) (by simp) (RA.each ?_ (RA.each ?_ (RA.each0))))
        ·skip
         refine RO.call rfl rfl (spec_ConfOf_fn n hok) rfl (.cons (.agg (.cons (.r .r) (.cons (.r .r) (.cons (.r .r) (.cons (.r .r) (.cons (.r .r) (.cons (.r .r) (.cons (.r .r) (.cons (.r .r) (.cons (.r .r) (.cons (.r .r) (.cons (.r .r) (.cons (.r .r) (.cons (.r .r) (.cons (.r .r) (.nil)))))))))))))))) (.nil)) rfl fun go34_1_1 => ?_
         exact RA.to hall (RA.lr (ro34_111000 go34_1_1) rfl rfl)
        ·skip
         refine RO.v rfl rfl (V.loadPrim (d := I n.id) rfl rfl (.inl rfl) rfl rfl rfl) rfl ?_
         exact RA.to hall (RA.lr ro34_101100 rfl rfl)
       have ro34_110000 : ∀ (go34_1_1 : Nat → Nat → Value), RA E B all 4 #[true, true, false, false, false, false] ⟨153, [(1, .obj b1 ((Node.c n).map .r)), (3, I ((logLast n.log).1)), (5, .w (sl 1 cI ([] : List Int)) X32), (102, .w (sl 1 cI (confAtS n 1000060)) (go34_1_1 0 0))]⟩ K := by
        intro go34_1_1
        refine RA.of hall (RA.step (L := [2]) (by kernel_rfl) (by simp) (RA.each ?_ (RA.each0)))
        ·skip
         refine RO.v rfl rfl (V.field rfl rfl rfl rfl (by decide) rfl) rfl ?_
         exact RA.to hall (RA.lr (ro34_111000 go34_1_1) rfl rfl)
       have ro34_001000 : RA E B all 5 #[false, false, true, false, false, false] ⟨153, [(1, .obj b1 ((Node.c n).map .r)), (3, I ((logLast n.log).1)), (5, .w (sl 1 cI ([] : List Int)) X32), (103, .pt 1 b1 0)]⟩ K := by
        refine RA.of hall (RA.step (L := [0, 3]) (by kernel_rfl) (by simp) (RA.each ?_ (RA.each ?_ (RA.each0))))
        ·skip
         refine RO.v rfl rfl (V.loadAgg rfl rfl rfl rfl rfl (Nat.le_of_ble_eq_true rfl)) rfl ?_
         exact RA.to hall (RA.lr ro34_101000 rfl rfl)
        ·skip
         refine RO.v rfl rfl (V.loadPrim (d := I n.id) rfl rfl (.inl rfl) rfl rfl rfl) rfl ?_
         exact RA.to hall (RA.lr ro34_001100 rfl rfl)
       have ro34_100000 : RA E B all 5 #[true, false, false, false, false, false] ⟨153, [(1, .obj b1 ((Node.c n).map .r)), (3, I ((logLast n.log).1)), (5, .w (sl 1 cI ([] : List Int)) X32), (101, .agg ((Node.c n).map .r))]⟩ K := by
        refine RA.of hall (RA.step (L := [1, 2]) (by kernel_rfl) (by simp) (RA.each ?_ (RA.each ?_ (RA.each0))))
        ·skip
         refine RO.call rfl rfl (spec_ConfOf_fn n hok) rfl (.cons (.agg (.cons (.r .r) (.cons (.r .r) (.cons (.r .r) (.cons (.r .r) (.cons (.r .r) (.cons (.r .r) (.cons (.r .r) (.cons (.r .r) (.cons (.r .r) (.cons (.r .r) (.cons (.r .r) (.cons (.r .r) (.cons (.r .r) (.cons (.r .r) (.nil)))))))))))))))) (.nil)) rfl fun go34_1_1 => ?_
         exact RA.to hall (RA.lr (ro34_110000 go34_1_1) rfl rfl)
        ·skip
         refine RO.v rfl rfl (V.field rfl rfl rfl rfl (by decide) rfl) rfl ?_
         exact RA.to hall (RA.lr ro34_101000 rfl rfl)
       have ro34_000000 : RA E B all 6 #[false, false, false, false, false, false] ⟨153, [(1, .obj b1 ((Node.c n).map .r)), (3, I ((logLast n.log).1)), (5, .w (sl 1 cI ([] : List Int)) X32), (100, Bo (n.role == 2))]⟩ K := by
        refine RA.of hall (RA.step (L := [0, 2]) (by kernel_rfl) (by simp) (RA.each ?_ (RA.each ?_ (RA.each0))))
        ·skip
         refine RO.v rfl rfl (V.loadAgg rfl rfl rfl rfl rfl (Nat.le_of_ble_eq_true rfl)) rfl ?_
         exact RA.to hall (RA.lr ro34_100000 rfl rfl)
        ·skip
         refine RO.v rfl rfl (V.field rfl rfl rfl rfl (by decide) rfl) rfl ?_
         exact RA.to hall (RA.lr ro34_001000 rfl rfl)
       exact RA.start (by kernel_rfl) (by kernel_rfl) (RA.lr ro34_000000 rfl rfl)
      ·rintro ⟨go34_1_1, go34_4_1⟩
       refine CW.le [(1, .obj b1 ((Node.c n).map .r)), (3, I ((logLast n.log).1)), (5, .w (sl 1 cI (others (confAtS n 1000060) n.id)) (go34_4_1 0 0))] rfl (Le.of rfl) ?_
       refine CW.seq ?_
       refine CW.seq ?_
       refine CW.region ?_
       refine RW.v rfl (V.field rfl rfl rfl rfl (by decide) rfl) ?_
       refine RW.v rfl (V.loadPrim (d := .r (sl 4 Peer.c n.peers)) rfl rfl (.inr ⟨_, rfl⟩) rfl rfl rfl) ?_
       refine RW.v rfl (V.lenT (n := n.peers.length) rfl rfl rfl .r) ?_
       refine RW.v rfl (V.mv (d := .al 5 none 1 ((others (confAtS n 1000060) n.id).length) (go34_4_1 0 0) 0) rfl rfl) ?_
       refine RW.v rfl (V.lenT (n := (others (confAtS n 1000060) n.id).length) rfl rfl rfl (.al rfl rfl nofun)) ?_
       refine RW.v rfl (V.cmpInt rfl rfl rfl rfl) ?_
       refine RW.nil ?_
       refine CW.le [(1, .obj b1 ((Node.c n).map .r)), (3, I ((logLast n.log).1)), (5, .w (sl 1 cI (others (confAtS n 1000060) n.id)) (go34_4_1 0 0)), (111, Bo ((n.peers.length : Int) != ((others (confAtS n 1000060) n.id).length : Int)))] rfl (Le.of rfl) ?_
       refine CW.cond rfl (fun h35 => ?_) (fun h35 => ?_)
       ·skip
        refine CW.seq ?_
        refine CW.region ?_
        refine RW.v rfl (V.as (d := Bo false) rfl rfl) ?_
        refine RW.nil ?_
        refine CW.le [(2, Bo false)] rfl (Le.of rfl) ?_
        refine CW.ret ?_
        exact Post.one (RV.b rfl (by have hl : logOk n.log = true := (by first | (simp_all; done) | grind); have hro : n.role = 0 ∨ n.role = 1 ∨ n.role = 2 := role_of (by first | (simp_all; done) | grind); have hne := peersOkB_ne hl; have heq := peersOkB_eq hl; grind [nodeOk])) (AOs.a rfl AOs.e)
       ·skip
        refine CW.skip ?_
        refine CW.le [(1, .obj b1 ((Node.c n).map .r)), (3, I ((logLast n.log).1)), (5, .w (sl 1 cI (others (confAtS n 1000060) n.id)) (go34_4_1 0 0))] rfl (Le.of rfl) ?_
        refine CW.seq ?_
        refine CW.seq ?_
        refine CW.region ?_
        refine RW.v rfl (V.as (d := I 0) rfl rfl) ?_
        refine RW.nil ?_
        refine CW.le [(1, .obj b1 ((Node.c n).map .r)), (3, I ((logLast n.log).1)), (5, .w (sl 1 cI (others (confAtS n 1000060) n.id)) (go34_4_1 0 0)), (6, I 0)] rfl (Le.of rfl) ?_
        refine CW.block ?_
        refine CW.loopI 153 (fun (i : Nat) => [(1, .obj b1 ((Node.c n).map .r)), (3, I ((logLast n.log).1)), (5, .w (sl 1 cI (others (confAtS n 1000060) n.id)) (go34_4_1 0 0)), (6, I (i : Int))]) (fun (i : Nat) => i ≤ (others (confAtS n 1000060) n.id).length ∧ pkGo (logLast n.log).1 (n.peers.drop i) ((others (confAtS n 1000060) n.id).drop i) = pkGo (logLast n.log).1 n.peers (others (confAtS n 1000060) n.id)) (fun (i : Nat) => (others (confAtS n 1000060) n.id).length - i) 0 rfl (Le.c rfl <| Le.c rfl <| Le.c rfl <| Le.c rfl <| Le.e) ⟨by omega, by simp⟩ ?_
        rintro i ⟨hb, hr⟩
        have hlen : n.peers.length = (others (confAtS n 1000060) n.id).length := by first | (simp_all; done) | grind
        refine CW.seq ?_
        refine CW.seq ?_
        refine CW.region ?_
        refine RW.v rfl (V.mv (d := I (i : Int)) rfl rfl) ?_
        refine RW.v rfl (V.mv (d := .al 5 none 1 ((others (confAtS n 1000060) n.id).length) (go34_4_1 0 0) 0) rfl rfl) ?_
        refine RW.v rfl (V.lenT (n := (others (confAtS n 1000060) n.id).length) rfl rfl rfl (.al rfl rfl nofun)) ?_
        refine RW.v rfl (V.cmpInt rfl rfl rfl rfl) ?_
        refine RW.nil ?_
        refine CW.le [(1, .obj b1 ((Node.c n).map .r)), (3, I ((logLast n.log).1)), (5, .w (sl 1 cI (others (confAtS n 1000060) n.id)) (go34_4_1 0 0)), (6, I (i : Int)), (115, Bo (decide ((i : Int) < ((others (confAtS n 1000060) n.id).length : Int))))] rfl (Le.of rfl) ?_
        refine CW.cond rfl (fun h36 => ?_) (fun h36 => ?_)
        ·skip
         have hii : i < (others (confAtS n 1000060) n.id).length := by have := h36; simp at this; first | exact this | omega | (simp; done) | (simp; omega)
         obtain ⟨ei, hei⟩ : ∃ e, (others (confAtS n 1000060) n.id)[i]? = some e := ⟨_, List.getElem?_eq_getElem hii⟩
         have hdi := drop_get hei
         have hip : i < n.peers.length := by have := hlen; omega
         obtain ⟨ep, hep⟩ : ∃ e, n.peers[i]? = some e := ⟨_, List.getElem?_eq_getElem hip⟩
         have hdp := drop_get hep
         refine CW.skip ?_
         refine CW.le [(1, .obj b1 ((Node.c n).map .r)), (3, I ((logLast n.log).1)), (5, .w (sl 1 cI (others (confAtS n 1000060) n.id)) (go34_4_1 0 0)), (6, I (i : Int))] rfl (Le.of rfl) ?_
         refine CW.seq ?_
         refine CW.block ?_
         refine CW.seq ?_
         refine CW.region ?_
         refine RW.v rfl (V.field rfl rfl rfl rfl (by decide) rfl) ?_
         refine RW.v rfl (V.loadPrim (d := .r (sl 4 Peer.c n.peers)) rfl rfl (.inr ⟨_, rfl⟩) rfl rfl rfl) ?_
         refine RW.v rfl (V.mv (d := I (i : Int)) rfl rfl) ?_
         refine RW.v rfl (V.indexS rfl rfl rfl rfl rfl rfl Peer.len hep) ?_
         refine RW.v rfl (V.loadAggR rfl rfl rfl rfl (Nat.le_of_ble_eq_true rfl)) ?_
         refine RW.alloc (ds := [I 0, I 0, I 0, I 0]) rfl rfl rfl rfl fun b37 => ?_
         refine RW.storeAgg (es := ((Peer.c ep).map .r)) rfl rfl rfl rfl rfl rfl rfl rfl (Nat.le_of_ble_eq_true rfl) rfl ?_
         refine RW.nil ?_
         refine CW.le [(1, .obj b1 ((Node.c n).map .r)), (3, I ((logLast n.log).1)), (5, .w (sl 1 cI (others (confAtS n 1000060) n.id)) (go34_4_1 0 0)), (6, I (i : Int)), (7, .obj b37 ((Peer.c ep).map .r))] rfl (Le.of rfl) ?_
         refine CW.seqJ 153 (fun (v38 : Bool) => [(1, .obj b1 ((Node.c n).map .r)), (3, I ((logLast n.log).1)), (5, .w (sl 1 cI (others (confAtS n 1000060) n.id)) (go34_4_1 0 0)), (6, I (i : Int)), (152, Bo v38)]) (fun v38 => v38 = ((((ep.id != ei) || (!(inR ep.next 1 (IntKind.i64.wrap (((logLast n.log).1) + 1))))) || (!(inR ep.match_ 0 (IntKind.i64.wrap (ep.next - 1))))) || (!(inR ep.sent 0 20000)))) ?_ ?_
         ·refine CW.drawn (by kernel_rfl) ?_
          refine RQ.v rfl (V.field rfl rfl rfl rfl (by decide) rfl) ?_
          refine RQ.v rfl (V.loadPrim (d := I ep.id) rfl rfl (.inl rfl) rfl rfl rfl) ?_
          refine RQ.v rfl (V.mv (d := .al 5 none 1 ((others (confAtS n 1000060) n.id).length) (go34_4_1 0 0) 0) rfl rfl) ?_
          refine RQ.v rfl (V.mv (d := I (i : Int)) rfl rfl) ?_
          refine RQ.v rfl (V.indexW rfl rfl rfl rfl rfl rfl rfl hii) ?_
          refine RQ.v rfl (V.loadF (m := i) (off := 0) rfl rfl (.inl rfl) rfl rfl cI.len hei (by decide) rfl) ?_
          refine RQ.v rfl (V.cmpInt rfl rfl rfl rfl) ?_
          refine RQ.v rfl (V.mv (d := Bo (ep.id != ei)) rfl rfl) ?_
          refine RQ.gv rfl rfl rfl rfl (fun h39 => V.field rfl rfl rfl rfl (by decide) rfl) (fun h39 => ?_) (fun h39 => ?_)
          ·skip
           refine RQ.gt rfl rfl rfl rfl (V.loadPrim (d := I ep.next) rfl rfl (.inl rfl) rfl rfl rfl) ?_
           refine RQ.gt rfl rfl rfl rfl (V.mv (d := I ((logLast n.log).1)) rfl rfl) ?_
           refine RQ.gt rfl rfl rfl rfl (V.arInt rfl rfl rfl rfl) ?_
           refine RQ.guardT rfl rfl rfl rfl (QOK.call (spec_l01In_fn ep.next 1 (IntKind.i64.wrap (((logLast n.log).1) + 1))) rfl (.cons (.one (.r .r)) (.cons (.one (.r .r)) (.cons (.one (.r .r)) (.nil)))) ?_)
           refine RQ.gt rfl rfl rfl rfl (V.not rfl rfl) ?_
           refine RQ.v rfl (V.pickF (d := Bo (!(inR ep.next 1 (IntKind.i64.wrap (((logLast n.log).1) + 1))))) rfl rfl rfl) ?_
           refine RQ.v rfl (V.mv (d := Bo (!(inR ep.next 1 (IntKind.i64.wrap (((logLast n.log).1) + 1))))) rfl rfl) ?_
           refine RQ.gv rfl rfl rfl rfl (fun h40 => V.field rfl rfl rfl rfl (by decide) rfl) (fun h40 => ?_) (fun h40 => ?_)
           ·skip
            refine RQ.gt rfl rfl rfl rfl (V.loadPrim (d := I ep.match_) rfl rfl (.inl rfl) rfl rfl rfl) ?_
            refine RQ.gt rfl rfl rfl rfl (V.field rfl rfl rfl rfl (by decide) rfl) ?_
            refine RQ.gt rfl rfl rfl rfl (V.loadPrim (d := I ep.next) rfl rfl (.inl rfl) rfl rfl rfl) ?_
            refine RQ.gt rfl rfl rfl rfl (V.arInt rfl rfl rfl rfl) ?_
            refine RQ.guardT rfl rfl rfl rfl (QOK.call (spec_l01In_fn ep.match_ 0 (IntKind.i64.wrap (ep.next - 1))) rfl (.cons (.one (.r .r)) (.cons (.one (.r .r)) (.cons (.one (.r .r)) (.nil)))) ?_)
            refine RQ.gt rfl rfl rfl rfl (V.not rfl rfl) ?_
            refine RQ.v rfl (V.pickF (d := Bo (!(inR ep.match_ 0 (IntKind.i64.wrap (ep.next - 1))))) rfl rfl rfl) ?_
            refine RQ.v rfl (V.mv (d := Bo (!(inR ep.match_ 0 (IntKind.i64.wrap (ep.next - 1))))) rfl rfl) ?_
            refine RQ.gv rfl rfl rfl rfl (fun h41 => V.field rfl rfl rfl rfl (by decide) rfl) (fun h41 => ?_) (fun h41 => ?_)
            ·skip
             refine RQ.gt rfl rfl rfl rfl (V.loadPrim (d := I ep.sent) rfl rfl (.inl rfl) rfl rfl rfl) ?_
             refine RQ.guardT rfl rfl rfl rfl (QOK.call (spec_l01In_fn ep.sent 0 20000) rfl (.cons (.one (.r .r)) (.cons (.one (.r .r)) (.cons (.one (.r .r)) (.nil)))) ?_)
             refine RQ.gt rfl rfl rfl rfl (V.not rfl rfl) ?_
             refine RQ.v rfl (V.pickF (d := Bo (!(inR ep.sent 0 20000))) rfl rfl rfl) ?_
             refine RQ.nil ?_
             exact ⟨_, by first | rfl | (simp_all; done) | (simp_all; omega) | grind, rfl, Le.c rfl <| Le.c rfl <| Le.c rfl <| Le.c rfl <| Le.c rfl <| Le.e⟩
            ·skip
             refine RQ.guardF rfl rfl rfl rfl ?_
             refine RQ.guardF rfl rfl rfl rfl ?_
             refine RQ.guardF rfl rfl rfl rfl ?_
             refine RQ.v rfl (V.pickT (d := Bo true) rfl rfl rfl) ?_
             refine RQ.nil ?_
             exact ⟨_, by first | rfl | (simp_all; done) | (simp_all; omega) | grind, rfl, Le.c rfl <| Le.c rfl <| Le.c rfl <| Le.c rfl <| Le.c rfl <| Le.e⟩
           ·skip
            refine RQ.guardF rfl rfl rfl rfl ?_
            refine RQ.guardF rfl rfl rfl rfl ?_
            refine RQ.guardF rfl rfl rfl rfl ?_
            refine RQ.guardF rfl rfl rfl rfl ?_
            refine RQ.guardF rfl rfl rfl rfl ?_
            refine RQ.guardF rfl rfl rfl rfl ?_
            refine RQ.v rfl (V.pickT (d := Bo true) rfl rfl rfl) ?_
            refine RQ.v rfl (V.mv (d := Bo true) rfl rfl) ?_
            refine RQ.guardF rfl rfl rfl rfl ?_
            refine RQ.guardF rfl rfl rfl rfl ?_
            refine RQ.guardF rfl rfl rfl rfl ?_
            refine RQ.guardF rfl rfl rfl rfl ?_
            refine RQ.v rfl (V.pickT (d := Bo true) rfl rfl rfl) ?_
            refine RQ.nil ?_
            exact ⟨_, by first | rfl | (simp_all; done) | (simp_all; omega) | grind, rfl, Le.c rfl <| Le.c rfl <| Le.c rfl <| Le.c rfl <| Le.c rfl <| Le.e⟩
          ·skip
           refine RQ.guardF rfl rfl rfl rfl ?_
           refine RQ.guardF rfl rfl rfl rfl ?_
           refine RQ.guardF rfl rfl rfl rfl ?_
           refine RQ.guardF rfl rfl rfl rfl ?_
           refine RQ.guardF rfl rfl rfl rfl ?_
           refine RQ.v rfl (V.pickT (d := Bo true) rfl rfl rfl) ?_
           refine RQ.v rfl (V.mv (d := Bo true) rfl rfl) ?_
           refine RQ.guardF rfl rfl rfl rfl ?_
           refine RQ.guardF rfl rfl rfl rfl ?_
           refine RQ.guardF rfl rfl rfl rfl ?_
           refine RQ.guardF rfl rfl rfl rfl ?_
           refine RQ.guardF rfl rfl rfl rfl ?_
           refine RQ.guardF rfl rfl rfl rfl ?_
           refine RQ.guardF rfl rfl rfl rfl ?_
           refine RQ.v rfl (V.pickT (d := Bo true) rfl rfl rfl) ?_
           refine RQ.v rfl (V.mv (d := Bo true) rfl rfl) ?_
           refine RQ.guardF rfl rfl rfl rfl ?_
           refine RQ.guardF rfl rfl rfl rfl ?_
           refine RQ.guardF rfl rfl rfl rfl ?_
           refine RQ.guardF rfl rfl rfl rfl ?_
           refine RQ.v rfl (V.pickT (d := Bo true) rfl rfl rfl) ?_
           refine RQ.nil ?_
           exact ⟨_, by first | rfl | (simp_all; done) | (simp_all; omega) | grind, rfl, Le.c rfl <| Le.c rfl <| Le.c rfl <| Le.c rfl <| Le.c rfl <| Le.e⟩
         ·intro v38 hv42
          refine CW.cond rfl (fun h43 => ?_) (fun h43 => ?_)
          ·skip
           refine CW.seq ?_
           refine CW.region ?_
           refine RW.v rfl (V.as (d := Bo false) rfl rfl) ?_
           refine RW.nil ?_
           refine CW.le [(2, Bo false)] rfl (Le.of rfl) ?_
           refine CW.ret ?_
           exact Post.one (RV.b rfl (by have hl : logOk n.log = true := (by first | (simp_all; done) | grind); have hro : n.role = 0 ∨ n.role = 1 ∨ n.role = 2 := role_of (by first | (simp_all; done) | grind); have hne := peersOkB_ne hl; have heq := peersOkB_eq hl; have hf : pkGo (logLast n.log).1 n.peers (others (confAtS n 1000060) n.id) = false := (by rw [← hr, hdi, hdp, pkGo]; first | (simp_all [pkOk]; done) | grind [pkOk]); clear hr; grind [nodeOk])) (AOs.a rfl AOs.e)
          ·skip
           refine CW.skip ?_
           refine CW.le [(1, .obj b1 ((Node.c n).map .r)), (3, I ((logLast n.log).1)), (5, .w (sl 1 cI (others (confAtS n 1000060) n.id)) (go34_4_1 0 0)), (6, I (i : Int))] rfl (Le.of rfl) ?_
           refine CW.region ?_
           refine RW.v rfl (V.mv (d := I (i : Int)) rfl rfl) ?_
           refine RW.v rfl (V.inc rfl rfl rfl hii (by have := others_len (confAtS n 1000060) n.id; have := confAtS_len hok 1000060; simp only [maxLen]; first | omega | (simp; done))) ?_
           refine RW.v rfl (V.as (d := I ((i + 1 : Nat) : Int)) rfl rfl) ?_
           refine RW.nil ?_
           exact ⟨i + 1, by omega, ⟨by omega, by rw [← hr, hdi, hdp, pkGo]; first | (simp_all [pkOk]; done) | grind [pkOk]⟩, rfl, Le.c rfl <| Le.c rfl <| Le.c rfl <| Le.c rfl <| Le.e⟩
        ·skip
         have hii : (others (confAtS n 1000060) n.id).length ≤ i := by have := h36; simp at this; first | exact this | omega | (simp; done) | (simp; omega)
         have hdi : (others (confAtS n 1000060) n.id).drop i = [] := List.drop_eq_nil_of_le hii
         refine CW.exit ?_
         refine CW.le [] rfl (Le.of rfl) ?_
         refine CW.seq ?_
         refine CW.region ?_
         refine RW.v rfl (V.as (d := Bo true) rfl rfl) ?_
         refine RW.nil ?_
         refine CW.le [(2, Bo true)] rfl (Le.of rfl) ?_
         refine CW.ret ?_
         exact Post.one (RV.b rfl (by have hl : logOk n.log = true := (by first | (simp_all; done) | grind); have hro : n.role = 0 ∨ n.role = 1 ∨ n.role = 2 := role_of (by first | (simp_all; done) | grind); have hne := peersOkB_ne hl; have heq := peersOkB_eq hl; have hf : pkGo (logLast n.log).1 n.peers (others (confAtS n 1000060) n.id) = true := (by rw [← hr, hdi, List.drop_eq_nil_of_le (by omega)]; rfl); clear hr; grind [nodeOk])) (AOs.a rfl AOs.e)
     ·skip
      refine CW.skip ?_
      refine CW.le [(1, .obj b1 ((Node.c n).map .r)), (3, I ((logLast n.log).1)), (5, .w (sl 1 cI ([] : List Int)) X32)] rfl (Le.of rfl) ?_
      refine CW.seq ?_
      refine CW.seq ?_
      refine CW.region ?_
      refine RW.v rfl (V.field rfl rfl rfl rfl (by decide) rfl) ?_
      refine RW.v rfl (V.loadPrim (d := .r (sl 4 Peer.c n.peers)) rfl rfl (.inr ⟨_, rfl⟩) rfl rfl rfl) ?_
      refine RW.v rfl (V.lenT (n := n.peers.length) rfl rfl rfl .r) ?_
      refine RW.v rfl (V.mv (d := .al 5 none 1 (([] : List Int).length) X32 0) rfl rfl) ?_
      refine RW.v rfl (V.lenT (n := ([] : List Int).length) rfl rfl rfl (.al rfl rfl nofun)) ?_
      refine RW.v rfl (V.cmpInt rfl rfl rfl rfl) ?_
      refine RW.nil ?_
      refine CW.le [(1, .obj b1 ((Node.c n).map .r)), (3, I ((logLast n.log).1)), (5, .w (sl 1 cI ([] : List Int)) X32), (111, Bo ((n.peers.length : Int) != (([] : List Int).length : Int)))] rfl (Le.of rfl) ?_
      refine CW.cond rfl (fun h44 => ?_) (fun h44 => ?_)
      ·skip
       refine CW.seq ?_
       refine CW.region ?_
       refine RW.v rfl (V.as (d := Bo false) rfl rfl) ?_
       refine RW.nil ?_
       refine CW.le [(2, Bo false)] rfl (Le.of rfl) ?_
       refine CW.ret ?_
       exact Post.one (RV.b rfl (by have hl : logOk n.log = true := (by first | (simp_all; done) | grind); have hro : n.role = 0 ∨ n.role = 1 ∨ n.role = 2 := role_of (by first | (simp_all; done) | grind); have hne := peersOkB_ne hl; have heq := peersOkB_eq hl; grind [nodeOk])) (AOs.a rfl AOs.e)
      ·skip
       refine CW.skip ?_
       refine CW.le [(1, .obj b1 ((Node.c n).map .r)), (3, I ((logLast n.log).1)), (5, .w (sl 1 cI ([] : List Int)) X32)] rfl (Le.of rfl) ?_
       refine CW.seq ?_
       refine CW.seq ?_
       refine CW.region ?_
       refine RW.v rfl (V.as (d := I 0) rfl rfl) ?_
       refine RW.nil ?_
       refine CW.le [(1, .obj b1 ((Node.c n).map .r)), (3, I ((logLast n.log).1)), (5, .w (sl 1 cI ([] : List Int)) X32), (6, I 0)] rfl (Le.of rfl) ?_
       refine CW.block ?_
       refine CW.loopI 153 (fun (i : Nat) => [(1, .obj b1 ((Node.c n).map .r)), (3, I ((logLast n.log).1)), (5, .w (sl 1 cI ([] : List Int)) X32), (6, I (i : Int))]) (fun (i : Nat) => i ≤ ([] : List Int).length ∧ pkGo (logLast n.log).1 (n.peers.drop i) (([] : List Int).drop i) = pkGo (logLast n.log).1 n.peers ([] : List Int)) (fun (i : Nat) => ([] : List Int).length - i) 0 rfl (Le.c rfl <| Le.c rfl <| Le.c rfl <| Le.c rfl <| Le.e) ⟨by omega, by simp⟩ ?_
       rintro i ⟨hb, hr⟩
       have hlen : n.peers.length = ([] : List Int).length := by first | (simp_all; done) | grind
       refine CW.seq ?_
       refine CW.seq ?_
       refine CW.region ?_
       refine RW.v rfl (V.mv (d := I (i : Int)) rfl rfl) ?_
       refine RW.v rfl (V.mv (d := .al 5 none 1 (([] : List Int).length) X32 0) rfl rfl) ?_
       refine RW.v rfl (V.lenT (n := ([] : List Int).length) rfl rfl rfl (.al rfl rfl nofun)) ?_
       refine RW.v rfl (V.cmpInt rfl rfl rfl rfl) ?_
       refine RW.nil ?_
       refine CW.le [(1, .obj b1 ((Node.c n).map .r)), (3, I ((logLast n.log).1)), (5, .w (sl 1 cI ([] : List Int)) X32), (6, I (i : Int)), (115, Bo (decide ((i : Int) < (([] : List Int).length : Int))))] rfl (Le.of rfl) ?_
       refine CW.cond rfl (fun h45 => ?_) (fun h45 => ?_)
       ·skip
        have hii : i < ([] : List Int).length := by have := h45; simp at this; first | exact this | omega | (simp; done) | (simp; omega)
        obtain ⟨ei, hei⟩ : ∃ e, ([] : List Int)[i]? = some e := ⟨_, List.getElem?_eq_getElem hii⟩
        have hdi := drop_get hei
        have hip : i < n.peers.length := by have := hlen; omega
        obtain ⟨ep, hep⟩ : ∃ e, n.peers[i]? = some e := ⟨_, List.getElem?_eq_getElem hip⟩
        have hdp := drop_get hep
        refine CW.skip ?_
        refine CW.le [(1, .obj b1 ((Node.c n).map .r)), (3, I ((logLast n.log).1)), (5, .w (sl 1 cI ([] : List Int)) X32), (6, I (i : Int))] rfl (Le.of rfl) ?_
        refine CW.seq ?_
        refine CW.block ?_
        refine CW.seq ?_
        refine CW.region ?_
        refine RW.v rfl (V.field rfl rfl rfl rfl (by decide) rfl) ?_
        refine RW.v rfl (V.loadPrim (d := .r (sl 4 Peer.c n.peers)) rfl rfl (.inr ⟨_, rfl⟩) rfl rfl rfl) ?_
        refine RW.v rfl (V.mv (d := I (i : Int)) rfl rfl) ?_
        refine RW.v rfl (V.indexS rfl rfl rfl rfl rfl rfl Peer.len hep) ?_
        refine RW.v rfl (V.loadAggR rfl rfl rfl rfl (Nat.le_of_ble_eq_true rfl)) ?_
        refine RW.alloc (ds := [I 0, I 0, I 0, I 0]) rfl rfl rfl rfl fun b46 => ?_
        refine RW.storeAgg (es := ((Peer.c ep).map .r)) rfl rfl rfl rfl rfl rfl rfl rfl (Nat.le_of_ble_eq_true rfl) rfl ?_
        refine RW.nil ?_
        refine CW.le [(1, .obj b1 ((Node.c n).map .r)), (3, I ((logLast n.log).1)), (5, .w (sl 1 cI ([] : List Int)) X32), (6, I (i : Int)), (7, .obj b46 ((Peer.c ep).map .r))] rfl (Le.of rfl) ?_
        refine CW.seqJ 153 (fun (v47 : Bool) => [(1, .obj b1 ((Node.c n).map .r)), (3, I ((logLast n.log).1)), (5, .w (sl 1 cI ([] : List Int)) X32), (6, I (i : Int)), (152, Bo v47)]) (fun v47 => v47 = ((((ep.id != ei) || (!(inR ep.next 1 (IntKind.i64.wrap (((logLast n.log).1) + 1))))) || (!(inR ep.match_ 0 (IntKind.i64.wrap (ep.next - 1))))) || (!(inR ep.sent 0 20000)))) ?_ ?_
        ·refine CW.drawn (by kernel_rfl) ?_
         refine RQ.v rfl (V.field rfl rfl rfl rfl (by decide) rfl) ?_
         refine RQ.v rfl (V.loadPrim (d := I ep.id) rfl rfl (.inl rfl) rfl rfl rfl) ?_
         refine RQ.v rfl (V.mv (d := .al 5 none 1 (([] : List Int).length) X32 0) rfl rfl) ?_
         refine RQ.v rfl (V.mv (d := I (i : Int)) rfl rfl) ?_
         refine RQ.v rfl (V.indexW rfl rfl rfl rfl rfl rfl rfl hii) ?_
         refine RQ.v rfl (V.loadF (m := i) (off := 0) rfl rfl (.inl rfl) rfl rfl cI.len hei (by decide) rfl) ?_
         refine RQ.v rfl (V.cmpInt rfl rfl rfl rfl) ?_
         refine RQ.v rfl (V.mv (d := Bo (ep.id != ei)) rfl rfl) ?_
         refine RQ.gv rfl rfl rfl rfl (fun h48 => V.field rfl rfl rfl rfl (by decide) rfl) (fun h48 => ?_) (fun h48 => ?_)
         ·skip
          refine RQ.gt rfl rfl rfl rfl (V.loadPrim (d := I ep.next) rfl rfl (.inl rfl) rfl rfl rfl) ?_
          refine RQ.gt rfl rfl rfl rfl (V.mv (d := I ((logLast n.log).1)) rfl rfl) ?_
          refine RQ.gt rfl rfl rfl rfl (V.arInt rfl rfl rfl rfl) ?_
          refine RQ.guardT rfl rfl rfl rfl (QOK.call (spec_l01In_fn ep.next 1 (IntKind.i64.wrap (((logLast n.log).1) + 1))) rfl (.cons (.one (.r .r)) (.cons (.one (.r .r)) (.cons (.one (.r .r)) (.nil)))) ?_)
          refine RQ.gt rfl rfl rfl rfl (V.not rfl rfl) ?_
          refine RQ.v rfl (V.pickF (d := Bo (!(inR ep.next 1 (IntKind.i64.wrap (((logLast n.log).1) + 1))))) rfl rfl rfl) ?_
          refine RQ.v rfl (V.mv (d := Bo (!(inR ep.next 1 (IntKind.i64.wrap (((logLast n.log).1) + 1))))) rfl rfl) ?_
          refine RQ.gv rfl rfl rfl rfl (fun h49 => V.field rfl rfl rfl rfl (by decide) rfl) (fun h49 => ?_) (fun h49 => ?_)
          ·skip
           refine RQ.gt rfl rfl rfl rfl (V.loadPrim (d := I ep.match_) rfl rfl (.inl rfl) rfl rfl rfl) ?_
           refine RQ.gt rfl rfl rfl rfl (V.field rfl rfl rfl rfl (by decide) rfl) ?_
           refine RQ.gt rfl rfl rfl rfl (V.loadPrim (d := I ep.next) rfl rfl (.inl rfl) rfl rfl rfl) ?_
           refine RQ.gt rfl rfl rfl rfl (V.arInt rfl rfl rfl rfl) ?_
           refine RQ.guardT rfl rfl rfl rfl (QOK.call (spec_l01In_fn ep.match_ 0 (IntKind.i64.wrap (ep.next - 1))) rfl (.cons (.one (.r .r)) (.cons (.one (.r .r)) (.cons (.one (.r .r)) (.nil)))) ?_)
           refine RQ.gt rfl rfl rfl rfl (V.not rfl rfl) ?_
           refine RQ.v rfl (V.pickF (d := Bo (!(inR ep.match_ 0 (IntKind.i64.wrap (ep.next - 1))))) rfl rfl rfl) ?_
           refine RQ.v rfl (V.mv (d := Bo (!(inR ep.match_ 0 (IntKind.i64.wrap (ep.next - 1))))) rfl rfl) ?_
           refine RQ.gv rfl rfl rfl rfl (fun h50 => V.field rfl rfl rfl rfl (by decide) rfl) (fun h50 => ?_) (fun h50 => ?_)
           ·skip
            refine RQ.gt rfl rfl rfl rfl (V.loadPrim (d := I ep.sent) rfl rfl (.inl rfl) rfl rfl rfl) ?_
            refine RQ.guardT rfl rfl rfl rfl (QOK.call (spec_l01In_fn ep.sent 0 20000) rfl (.cons (.one (.r .r)) (.cons (.one (.r .r)) (.cons (.one (.r .r)) (.nil)))) ?_)
            refine RQ.gt rfl rfl rfl rfl (V.not rfl rfl) ?_
            refine RQ.v rfl (V.pickF (d := Bo (!(inR ep.sent 0 20000))) rfl rfl rfl) ?_
            refine RQ.nil ?_
            exact ⟨_, by first | rfl | (simp_all; done) | (simp_all; omega) | grind, rfl, Le.c rfl <| Le.c rfl <| Le.c rfl <| Le.c rfl <| Le.c rfl <| Le.e⟩
           ·skip
            refine RQ.guardF rfl rfl rfl rfl ?_
            refine RQ.guardF rfl rfl rfl rfl ?_
            refine RQ.guardF rfl rfl rfl rfl ?_
            refine RQ.v rfl (V.pickT (d := Bo true) rfl rfl rfl) ?_
            refine RQ.nil ?_
            exact ⟨_, by first | rfl | (simp_all; done) | (simp_all; omega) | grind, rfl, Le.c rfl <| Le.c rfl <| Le.c rfl <| Le.c rfl <| Le.c rfl <| Le.e⟩
          ·skip
           refine RQ.guardF rfl rfl rfl rfl ?_
           refine RQ.guardF rfl rfl rfl rfl ?_
           refine RQ.guardF rfl rfl rfl rfl ?_
           refine RQ.guardF rfl rfl rfl rfl ?_
           refine RQ.guardF rfl rfl rfl rfl ?_
           refine RQ.guardF rfl rfl rfl rfl ?_
           refine RQ.v rfl (V.pickT (d := Bo true) rfl rfl rfl) ?_
           refine RQ.v rfl (V.mv (d := Bo true) rfl rfl) ?_
           refine RQ.guardF rfl rfl rfl rfl ?_
           refine RQ.guardF rfl rfl rfl rfl ?_
           refine RQ.guardF rfl rfl rfl rfl ?_
           refine RQ.guardF rfl rfl rfl rfl ?_
           refine RQ.v rfl (V.pickT (d := Bo true) rfl rfl rfl) ?_
           refine RQ.nil ?_
           exact ⟨_, by first | rfl | (simp_all; done) | (simp_all; omega) | grind, rfl, Le.c rfl <| Le.c rfl <| Le.c rfl <| Le.c rfl <| Le.c rfl <| Le.e⟩
         ·skip
          refine RQ.guardF rfl rfl rfl rfl ?_
          refine RQ.guardF rfl rfl rfl rfl ?_
          refine RQ.guardF rfl rfl rfl rfl ?_
          refine RQ.guardF rfl rfl rfl rfl ?_
          refine RQ.guardF rfl rfl rfl rfl ?_
          refine RQ.v rfl (V.pickT (d := Bo true) rfl rfl rfl) ?_
          refine RQ.v rfl (V.mv (d := Bo true) rfl rfl) ?_
          refine RQ.guardF rfl rfl rfl rfl ?_
          refine RQ.guardF rfl rfl rfl rfl ?_
          refine RQ.guardF rfl rfl rfl rfl ?_
          refine RQ.guardF rfl rfl rfl rfl ?_
          refine RQ.guardF rfl rfl rfl rfl ?_
          refine RQ.guardF rfl rfl rfl rfl ?_
          refine RQ.guardF rfl rfl rfl rfl ?_
          refine RQ.v rfl (V.pickT (d := Bo true) rfl rfl rfl) ?_
          refine RQ.v rfl (V.mv (d := Bo true) rfl rfl) ?_
          refine RQ.guardF rfl rfl rfl rfl ?_
          refine RQ.guardF rfl rfl rfl rfl ?_
          refine RQ.guardF rfl rfl rfl rfl ?_
          refine RQ.guardF rfl rfl rfl rfl ?_
          refine RQ.v rfl (V.pickT (d := Bo true) rfl rfl rfl) ?_
          refine RQ.nil ?_
          exact ⟨_, by first | rfl | (simp_all; done) | (simp_all; omega) | grind, rfl, Le.c rfl <| Le.c rfl <| Le.c rfl <| Le.c rfl <| Le.c rfl <| Le.e⟩
        ·intro v47 hv51
         refine CW.cond rfl (fun h52 => ?_) (fun h52 => ?_)
         ·skip
          refine CW.seq ?_
          refine CW.region ?_
          refine RW.v rfl (V.as (d := Bo false) rfl rfl) ?_
          refine RW.nil ?_
          refine CW.le [(2, Bo false)] rfl (Le.of rfl) ?_
          refine CW.ret ?_
          exact Post.one (RV.b rfl (by exfalso; simp at hii)) (AOs.a rfl AOs.e)
         ·skip
          refine CW.skip ?_
          refine CW.le [(1, .obj b1 ((Node.c n).map .r)), (3, I ((logLast n.log).1)), (5, .w (sl 1 cI ([] : List Int)) X32), (6, I (i : Int))] rfl (Le.of rfl) ?_
          refine CW.region ?_
          refine RW.v rfl (V.mv (d := I (i : Int)) rfl rfl) ?_
          refine RW.v rfl (V.inc rfl rfl rfl hii (by have := others_len (confAtS n 1000060) n.id; have := confAtS_len hok 1000060; simp only [maxLen]; first | omega | (simp; done))) ?_
          refine RW.v rfl (V.as (d := I ((i + 1 : Nat) : Int)) rfl rfl) ?_
          refine RW.nil ?_
          exact ⟨i + 1, by omega, ⟨by omega, by rw [← hr, hdi, hdp, pkGo]; first | (simp_all [pkOk]; done) | grind [pkOk]⟩, rfl, Le.c rfl <| Le.c rfl <| Le.c rfl <| Le.c rfl <| Le.e⟩
       ·skip
        have hii : ([] : List Int).length ≤ i := by have := h45; simp at this; first | exact this | omega | (simp; done) | (simp; omega)
        have hdi : ([] : List Int).drop i = [] := List.drop_eq_nil_of_le hii
        refine CW.exit ?_
        refine CW.le [] rfl (Le.of rfl) ?_
        refine CW.seq ?_
        refine CW.region ?_
        refine RW.v rfl (V.as (d := Bo true) rfl rfl) ?_
        refine RW.nil ?_
        refine CW.le [(2, Bo true)] rfl (Le.of rfl) ?_
        refine CW.ret ?_
        exact Post.one (RV.b rfl (by have hl : logOk n.log = true := (by first | (simp_all; done) | grind); have hro : n.role = 0 ∨ n.role = 1 ∨ n.role = 2 := role_of (by first | (simp_all; done) | grind); have hne := peersOkB_ne hl; have heq := peersOkB_eq hl; have hz : n.peers.length = 0 := (by simpa using hlen); exact (nodeOk_low (hv16.symm.trans h17) (hv30.symm.trans h31) h33 hz).symm)) (AOs.a rfl AOs.e)
set_option maxHeartbeats 4000000 in
theorem laws_szEntry_fn (a : Entry) (left : Int) : Eng.Fn E.P 114 [.agg ((Entry.c a).map .r), .one (.r (.v (.int .i64 left)))] (.one (.one (.w (.v (.int .i64 (szEntry a left)))))) [.agg ((Entry.c a).map .r), .one (.r (.v (.int .i64 left)))] := by
 refine Eng.Fn.intro (E := E) (rvs := [.tmp 4]) Try.func114 rfl rfl rfl (by simp [outSlots, moved, rvSlot, sl]) ?_
 intro B g bo
 refine CW.le [(0, .agg ((Entry.c a).map .r)), (1, I left)] rfl (Le.of rfl) ?_
 refine CW.seq ?_
 refine CW.region ?_
 refine RW.box (ds := ((Entry.c a).map .r)) rfl rfl rfl fun b1 => ?_
 refine RW.v rfl (V.as (d := I 0) rfl rfl) ?_
 refine RW.nil ?_
 refine CW.le [(1, I left), (2, .obj b1 ((Entry.c a).map .r))] rfl (Le.of rfl) ?_
 refine CW.seq ?_
 refine CW.region ?_
 refine RW.v rfl (V.mv (d := I left) rfl rfl) ?_
 refine RW.v rfl (V.field rfl rfl rfl rfl (by decide) rfl) ?_
 refine RW.v rfl (V.loadPrim (d := S a.data) rfl rfl (.inl rfl) rfl rfl rfl) ?_
 refine RW.v rfl (V.lenStr rfl (by kernel_rfl) rfl) ?_
 refine RW.v rfl (V.arInt rfl rfl rfl rfl) ?_
 refine RW.v rfl (V.as (d := I (IntKind.i64.wrap (left - (a.data.size : Int)))) rfl rfl) ?_
 refine RW.nil ?_
 refine CW.le [(1, I (IntKind.i64.wrap (left - (a.data.size : Int))))] rfl (Le.of rfl) ?_
 refine CW.seq ?_
 refine CW.seq ?_
 refine CW.region ?_
 refine RW.v rfl (V.mv (d := I (IntKind.i64.wrap (left - (a.data.size : Int)))) rfl rfl) ?_
 refine RW.v rfl (V.cmpInt rfl rfl rfl rfl) ?_
 refine RW.nil ?_
 refine CW.le [(1, I (IntKind.i64.wrap (left - (a.data.size : Int)))), (11, Bo (decide ((IntKind.i64.wrap (left - (a.data.size : Int))) < 0)))] rfl (Le.of rfl) ?_
 refine CW.cond rfl (fun h2 => ?_) (fun h2 => ?_)
 ·skip
  refine CW.seq ?_
  refine CW.region ?_
  refine RW.v rfl (V.as (d := I (-1)) rfl rfl) ?_
  refine RW.nil ?_
  refine CW.le [(4, I (-1))] rfl (Le.of rfl) ?_
  refine CW.ret ?_
  exact Post.one (RV.i rfl (by first | (simp_all [szEntry]; done) | (simp_all [szEntry]; omega) | grind [szEntry])) (AOs.a rfl (AOs.r AOs.e))
 ·skip
  refine CW.skip ?_
  refine CW.le [(1, I (IntKind.i64.wrap (left - (a.data.size : Int))))] rfl (Le.of rfl) ?_
  refine CW.seq ?_
  refine CW.region ?_
  refine RW.v rfl (V.mv (d := I (IntKind.i64.wrap (left - (a.data.size : Int)))) rfl rfl) ?_
  refine RW.v rfl (V.as (d := I (IntKind.i64.wrap (left - (a.data.size : Int)))) rfl rfl) ?_
  refine RW.nil ?_
  refine CW.le [(4, I (IntKind.i64.wrap (left - (a.data.size : Int))))] rfl (Le.of rfl) ?_
  refine CW.ret ?_
  exact Post.one (RV.i rfl (by first | (simp_all [szEntry]; done) | (simp_all [szEntry]; omega) | grind [szEntry])) (AOs.a rfl (AOs.r AOs.e))
set_option maxHeartbeats 4000000 in
theorem laws_szIntS_fn (a : List Int) (left : Int) : Eng.Fn E.P 53 [.one (.r (sl 1 cI a)), .one (.r (.v (.int .i64 left)))] (.one (.one (.w (.v (.int .i64 (szI a left)))))) [.one (.r (sl 1 cI a)), .one (.r (.v (.int .i64 left)))] := by
 refine Eng.Fn.intro (E := E) (rvs := [.tmp 4]) Try.func53 rfl rfl rfl (by simp [outSlots, moved, rvSlot, sl]) ?_
 intro B g bo
 refine CW.bound (x := .tmp 0) (n := a.length) (AsT.r) (fun hl0 => ?_)
 refine CW.le [(0, .r (sl 1 cI a)), (1, I left)] rfl (Le.of rfl) ?_
 refine CW.seq ?_
 refine CW.region ?_
 refine RW.v rfl (V.as (d := I 0) rfl rfl) ?_
 refine RW.nil ?_
 refine CW.le [(0, .r (sl 1 cI a)), (1, I left)] rfl (Le.of rfl) ?_
 refine CW.seq ?_
 refine CW.region ?_
 refine RW.v rfl (V.mv (d := I left) rfl rfl) ?_
 refine RW.v rfl (V.mv (d := .r (sl 1 cI a)) rfl rfl) ?_
 refine RW.v rfl (V.lenT (n := a.length) rfl rfl rfl .r) ?_
 refine RW.v rfl (V.arInt rfl rfl rfl rfl) ?_
 refine RW.v rfl (V.as (d := I (IntKind.i64.wrap (left - (a.length : Int)))) rfl rfl) ?_
 refine RW.nil ?_
 refine CW.le [(1, I (IntKind.i64.wrap (left - (a.length : Int))))] rfl (Le.of rfl) ?_
 refine CW.seq ?_
 refine CW.seq ?_
 refine CW.region ?_
 refine RW.v rfl (V.mv (d := I (IntKind.i64.wrap (left - (a.length : Int)))) rfl rfl) ?_
 refine RW.v rfl (V.cmpInt rfl rfl rfl rfl) ?_
 refine RW.nil ?_
 refine CW.le [(1, I (IntKind.i64.wrap (left - (a.length : Int)))), (10, Bo (decide ((IntKind.i64.wrap (left - (a.length : Int))) < 0)))] rfl (Le.of rfl) ?_
 refine CW.cond rfl (fun h1 => ?_) (fun h1 => ?_)
 ·skip
  refine CW.seq ?_
  refine CW.region ?_
  refine RW.v rfl (V.as (d := I (-1)) rfl rfl) ?_
  refine RW.nil ?_
  refine CW.le [(4, I (-1))] rfl (Le.of rfl) ?_
  refine CW.ret ?_
  exact Post.one (RV.i rfl (by first | (simp_all [szI]; done) | (simp_all [szI]; omega))) (AOs.r (AOs.r AOs.e))
 ·skip
  refine CW.skip ?_
  refine CW.le [(1, I (IntKind.i64.wrap (left - (a.length : Int))))] rfl (Le.of rfl) ?_
  refine CW.seq ?_
  refine CW.region ?_
  refine RW.v rfl (V.mv (d := I (IntKind.i64.wrap (left - (a.length : Int)))) rfl rfl) ?_
  refine RW.v rfl (V.as (d := I (IntKind.i64.wrap (left - (a.length : Int)))) rfl rfl) ?_
  refine RW.nil ?_
  refine CW.le [(4, I (IntKind.i64.wrap (left - (a.length : Int))))] rfl (Le.of rfl) ?_
  refine CW.ret ?_
  exact Post.one (RV.i rfl (by first | (simp_all [szI]; done) | (simp_all [szI]; omega))) (AOs.r (AOs.r AOs.e))
end Go.Proofs.Ytbiocicogminlaa.Y
