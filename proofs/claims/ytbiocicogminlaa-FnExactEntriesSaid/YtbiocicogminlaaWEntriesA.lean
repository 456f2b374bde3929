import Derived.Test.YtbiocicogminlaaPu
import Derived.Test.YtbiocicogminlaaProg
namespace Go.Proofs.Ytbiocicogminlaa.Y
open Go Go.RowKit Go.Eng Go.Proofs
def tl : List (Nat × TyI) := [
(3, ⟨1, 8, [.int .i64 0], .prim⟩),
(4, ⟨1, 1, [.bool false], .prim⟩),
(5, ⟨1, 1, [.int .u8 0], .prim⟩),
(9, ⟨1, 16, [.string ⟨#[]⟩], .prim⟩),
(22, ⟨1, 24, [.slice none 0 0], .slice 79⟩),
(24, ⟨1, 24, [.slice none 0 0], .slice 81⟩),
(27, ⟨1, 24, [.slice none 0 0], .slice 83⟩),
(68, ⟨1, 24, [.slice none 0 0], .slice 5⟩),
(77, ⟨3, 32, [.int .i64 0, .int .i64 0, .string ⟨#[]⟩], .agg [(0, 3, 1), (1, 3, 1), (2, 9, 1)]⟩),
(79, ⟨6, 56, [.int .i64 0, .int .i64 0, .int .i64 0, .int .i64 0, .int .i64 0, .string ⟨#[]⟩], .agg [(0, 3, 1), (1, 3, 1), (2, 3, 1), (3, 77, 3)]⟩),
(81, ⟨3, 32, [.int .i64 0, .int .i64 0, .string ⟨#[]⟩], .agg [(0, 3, 1), (1, 3, 1), (2, 9, 1)]⟩),
(83, ⟨6, 56, [.int .i64 0, .int .i64 0, .int .i64 0, .int .i64 0, .int .i64 0, .string ⟨#[]⟩], .agg [(0, 3, 1), (1, 3, 1), (2, 3, 1), (3, 81, 3)]⟩)]
theorem tl_ok : ∀ p ∈ tl, tyI Try.prog p.1 = some p.2 := by
  refine List.forall_mem_cons.2 ⟨by kernel_rfl, ?_⟩
  refine List.forall_mem_cons.2 ⟨by kernel_rfl, ?_⟩
  refine List.forall_mem_cons.2 ⟨by kernel_rfl, ?_⟩
  refine List.forall_mem_cons.2 ⟨by kernel_rfl, ?_⟩
  refine List.forall_mem_cons.2 ⟨by kernel_rfl, ?_⟩
  refine List.forall_mem_cons.2 ⟨by kernel_rfl, ?_⟩
  refine List.forall_mem_cons.2 ⟨by kernel_rfl, ?_⟩
  refine List.forall_mem_cons.2 ⟨by kernel_rfl, ?_⟩
  refine List.forall_mem_cons.2 ⟨by kernel_rfl, ?_⟩
  refine List.forall_mem_cons.2 ⟨by kernel_rfl, ?_⟩
  refine List.forall_mem_cons.2 ⟨by kernel_rfl, ?_⟩
  refine List.forall_mem_cons.2 ⟨by kernel_rfl, ?_⟩
  exact fun _ h => by cases h
noncomputable def E : Env := ⟨Try.prog, lk tl, fun t i h => tl_ok (t, i) (lk_mem _ _ _ h), by kernel_rfl⟩
theorem eq81_in (x y : Entry) (n : Nat) (w : World) : (Op.equalIn (n + 2) 81 (.agg x.vs.toArray) (.agg y.vs.toArray)).run Try.prog w = .ok (eqEntry x y) w := by
  refine eqA_of Try.underlying81 (by kernel_rfl) ?_
  refine eqF_cons (by rfl) (by go_simp; rfl) (by go_simp; rfl) (by go_simp) ?_
  refine eqF_cons (by rfl) (by go_simp; rfl) (by go_simp; rfl) (by go_simp) ?_
  exact eqF_last (by rfl) (by go_simp; rfl) (by go_simp; rfl) (by go_simp)
theorem eq81 (x y : Entry) (w : World) : (Op.equal 81 (.agg x.vs.toArray) (.agg y.vs.toArray)).run E.P w = .ok (eqEntry x y) w := eq81_in x y 9998 w
set_option maxHeartbeats 4000000 in
theorem laws_szEntry_fn (a : Entry) (left : Int) : Eng.Fn E.P 114 [.agg ((Entry.c a).map .r), .one (.r (.v (.int .i64 left)))] (.one (.one (.w (.v (.int .i64 (szEntry a left)))))) [.agg ((Entry.c a).map .r), .one (.r (.v (.int .i64 left)))] := by
  refine Eng.Fn.intro (E := E) (rvs := [.tmp 4]) Try.func114 rfl rfl rfl (by simp [outSlots, moved, rvSlot, sl]) ?_
  intro B g bo
  refine CW.le [(0, .agg ((Entry.c a).map .r)), (1, I left)] rfl (Le.c rfl <| Le.c rfl <| Le.e) ?_
  refine CW.seq ?_
  refine CW.region ?_
  refine RW.box (ds := ((Entry.c a).map .r)) rfl rfl rfl fun b1 => ?_
  refine RW.v rfl (V.as (d := I 0) rfl rfl) ?_
  refine RW.nil ?_
  refine CW.le [(1, I left), (2, .obj b1 ((Entry.c a).map .r))] rfl (Le.c rfl <| Le.c rfl <| Le.e) ?_
  refine CW.seq ?_
  refine CW.region ?_
  refine RW.v rfl (V.mv (d := I left) rfl rfl) ?_
  refine RW.v rfl (V.field rfl rfl rfl rfl (by decide) rfl) ?_
  refine RW.v rfl (V.loadPrim (d := S a.data) rfl rfl (.inl rfl) rfl rfl rfl) ?_
  refine RW.v rfl (V.lenStr rfl (by kernel_rfl) rfl) ?_
  refine RW.v rfl (V.arInt rfl rfl rfl rfl) ?_
  refine RW.v rfl (V.as (d := I (IntKind.i64.wrap (left - (a.data.size : Int)))) rfl rfl) ?_
  refine RW.nil ?_
  refine CW.le [(1, I (IntKind.i64.wrap (left - (a.data.size : Int))))] rfl (Le.c rfl <| Le.e) ?_
  refine CW.seq ?_
  refine CW.seq ?_
  refine CW.region ?_
  refine RW.v rfl (V.mv (d := I (IntKind.i64.wrap (left - (a.data.size : Int)))) rfl rfl) ?_
  refine RW.v rfl (V.cmpInt rfl rfl rfl rfl) ?_
  refine RW.nil ?_
  refine CW.le [(1, I (IntKind.i64.wrap (left - (a.data.size : Int)))), (11, Bo (decide ((IntKind.i64.wrap (left - (a.data.size : Int))) < 0)))] rfl (Le.c rfl <| Le.c rfl <| Le.e) ?_
  refine CW.cond rfl (fun h2 => ?_) (fun h2 => ?_)
  · skip
    refine CW.seq ?_
    refine CW.region ?_
    refine RW.v rfl (V.as (d := I (-1)) rfl rfl) ?_
    refine RW.nil ?_
    refine CW.le [(4, I (-1))] rfl (Le.c rfl <| Le.e) ?_
    refine CW.ret ?_
    exact Post.one (RV.i rfl (by first | (simp_all [szEntry]; done) | (simp_all [szEntry]; omega) | grind [szEntry])) (AOs.a rfl (AOs.r AOs.e))
  · skip
    refine CW.skip ?_
    refine CW.le [(1, I (IntKind.i64.wrap (left - (a.data.size : Int))))] rfl (Le.c rfl <| Le.e) ?_
    refine CW.seq ?_
    refine CW.region ?_
    refine RW.v rfl (V.mv (d := I (IntKind.i64.wrap (left - (a.data.size : Int)))) rfl rfl) ?_
    refine RW.v rfl (V.as (d := I (IntKind.i64.wrap (left - (a.data.size : Int)))) rfl rfl) ?_
    refine RW.nil ?_
    refine CW.le [(4, I (IntKind.i64.wrap (left - (a.data.size : Int))))] rfl (Le.c rfl <| Le.e) ?_
    refine CW.ret ?_
    exact Post.one (RV.i rfl (by first | (simp_all [szEntry]; done) | (simp_all [szEntry]; omega) | grind [szEntry])) (AOs.a rfl (AOs.r AOs.e))
set_option maxHeartbeats 4000000 in
theorem laws_szApplied_fn (a : Applied) (left : Int) : Eng.Fn E.P 46 [.agg ((Applied.c a).map .r), .one (.r (.v (.int .i64 left)))] (.one (.one (.w (.v (.int .i64 (szApplied a left)))))) [.agg ((Applied.c a).map .r), .one (.r (.v (.int .i64 left)))] := by
  refine Eng.Fn.intro (E := E) (rvs := [.tmp 4]) Try.func46 rfl rfl rfl (by simp [outSlots, moved, rvSlot, sl]) ?_
  intro B g bo
  refine CW.le [(0, .agg ((Applied.c a).map .r)), (1, I left)] rfl (Le.c rfl <| Le.c rfl <| Le.e) ?_
  refine CW.seq ?_
  refine CW.region ?_
  refine RW.box (ds := ((Applied.c a).map .r)) rfl rfl rfl fun b1 => ?_
  refine RW.v rfl (V.as (d := I 0) rfl rfl) ?_
  refine RW.nil ?_
  refine CW.le [(1, I left), (2, .obj b1 ((Applied.c a).map .r))] rfl (Le.c rfl <| Le.c rfl <| Le.e) ?_
  refine CW.seq ?_
  refine CW.region ?_
  refine RW.v rfl (V.field rfl rfl rfl rfl (by decide) rfl) ?_
  refine RW.v rfl (V.loadAgg rfl rfl rfl rfl rfl (Nat.le_of_ble_eq_true rfl)) ?_
  refine RW.v rfl (V.mv (d := I left) rfl rfl) ?_
  refine RW.call rfl (laws_szEntry_fn a.entry left) rfl (.cons (.agg (.cons (.r .r) (.cons (.r .r) (.cons (.r .r) (.nil))))) (.cons (.one (.r .r)) (.nil))) fun g2 => ?_
  refine RW.v rfl (V.as (d := I (szEntry a.entry left)) rfl rfl) ?_
  refine RW.nil ?_
  refine CW.le [(1, I (szEntry a.entry left))] rfl (Le.c rfl <| Le.e) ?_
  refine CW.seq ?_
  refine CW.seq ?_
  refine CW.region ?_
  refine RW.v rfl (V.mv (d := I (szEntry a.entry left)) rfl rfl) ?_
  refine RW.v rfl (V.cmpInt rfl rfl rfl rfl) ?_
  refine RW.nil ?_
  refine CW.le [(1, I (szEntry a.entry left)), (10, Bo (decide ((szEntry a.entry left) < 0)))] rfl (Le.c rfl <| Le.c rfl <| Le.e) ?_
  refine CW.cond rfl (fun h3 => ?_) (fun h3 => ?_)
  · skip
    refine CW.seq ?_
    refine CW.region ?_
    refine RW.v rfl (V.as (d := I (-1)) rfl rfl) ?_
    refine RW.nil ?_
    refine CW.le [(4, I (-1))] rfl (Le.c rfl <| Le.e) ?_
    refine CW.ret ?_
    exact Post.one (RV.i rfl (by first | (simp_all [szApplied]; done) | (simp_all [szApplied]; omega) | grind [szApplied])) (AOs.a rfl (AOs.r AOs.e))
  · skip
    refine CW.skip ?_
    refine CW.le [(1, I (szEntry a.entry left))] rfl (Le.c rfl <| Le.e) ?_
    refine CW.seq ?_
    refine CW.region ?_
    refine RW.v rfl (V.mv (d := I (szEntry a.entry left)) rfl rfl) ?_
    refine RW.v rfl (V.as (d := I (szEntry a.entry left)) rfl rfl) ?_
    refine RW.nil ?_
    refine CW.le [(4, I (szEntry a.entry left))] rfl (Le.c rfl <| Le.e) ?_
    refine CW.ret ?_
    exact Post.one (RV.i rfl (by first | (simp_all [szApplied]; done) | (simp_all [szApplied]; omega) | grind [szApplied])) (AOs.a rfl (AOs.r AOs.e))
set_option maxHeartbeats 4000000 in
theorem laws_szAppliedS_fn (a : List Applied) (left : Int) : Eng.Fn E.P 10 [.one (.r (sl 6 Applied.c a)), .one (.r (.v (.int .i64 left)))] (.one (.one (.w (.v (.int .i64 (szS szApplied a left)))))) [.one (.r (sl 6 Applied.c a)), .one (.r (.v (.int .i64 left)))] := by
  refine Eng.Fn.intro (E := E) (rvs := [.tmp 4]) Try.func10 rfl rfl rfl (by simp [outSlots, moved, rvSlot, sl]) ?_
  intro B g bo
  refine CW.bound (x := .tmp 0) (n := a.length) (AsT.r) (fun hl0 => ?_)
  refine CW.le [(0, .r (sl 6 Applied.c a)), (1, I left)] rfl (Le.c rfl <| Le.c rfl <| Le.e) ?_
  refine CW.seq ?_
  refine CW.region ?_
  refine RW.v rfl (V.as (d := I 0) rfl rfl) ?_
  refine RW.nil ?_
  refine CW.le [(0, .r (sl 6 Applied.c a)), (1, I left)] rfl (Le.c rfl <| Le.c rfl <| Le.e) ?_
  refine CW.seq ?_
  refine CW.region ?_
  refine RW.v rfl (V.mv (d := I left) rfl rfl) ?_
  refine RW.v rfl (V.mv (d := .r (sl 6 Applied.c a)) rfl rfl) ?_
  refine RW.v rfl (V.lenT (n := a.length) rfl rfl rfl .r) ?_
  refine RW.v rfl (V.arInt rfl rfl rfl rfl) ?_
  refine RW.v rfl (V.as (d := I (IntKind.i64.wrap (left - (a.length : Int)))) rfl rfl) ?_
  refine RW.nil ?_
  refine CW.le [(0, .r (sl 6 Applied.c a)), (1, I (IntKind.i64.wrap (left - (a.length : Int))))] rfl (Le.c rfl <| Le.c rfl <| Le.e) ?_
  refine CW.seq ?_
  refine CW.seq ?_
  refine CW.region ?_
  refine RW.v rfl (V.mv (d := I (IntKind.i64.wrap (left - (a.length : Int)))) rfl rfl) ?_
  refine RW.v rfl (V.cmpInt rfl rfl rfl rfl) ?_
  refine RW.nil ?_
  refine CW.le [(0, .r (sl 6 Applied.c a)), (1, I (IntKind.i64.wrap (left - (a.length : Int)))), (11, Bo (decide ((IntKind.i64.wrap (left - (a.length : Int))) < 0)))] rfl (Le.c rfl <| Le.c rfl <| Le.c rfl <| Le.e) ?_
  refine CW.cond rfl (fun h1 => ?_) (fun h1 => ?_)
  · skip
    refine CW.seq ?_
    refine CW.region ?_
    refine RW.v rfl (V.as (d := I (-1)) rfl rfl) ?_
    refine RW.nil ?_
    refine CW.le [(4, I (-1))] rfl (Le.c rfl <| Le.e) ?_
    refine CW.ret ?_
    exact Post.one (RV.i rfl (by first | (simp_all [szS, szL, szStr, szI]; done) | grind [szS, szL, szStr, szI])) (AOs.r (AOs.r AOs.e))
  · skip
    refine CW.skip ?_
    refine CW.le [(0, .r (sl 6 Applied.c a)), (1, I (IntKind.i64.wrap (left - (a.length : Int))))] rfl (Le.c rfl <| Le.c rfl <| Le.e) ?_
    refine CW.seq ?_
    refine CW.seq ?_
    refine CW.region ?_
    refine RW.v rfl (V.as (d := I 0) rfl rfl) ?_
    refine RW.nil ?_
    refine CW.le [(0, .r (sl 6 Applied.c a)), (1, I (IntKind.i64.wrap (left - (a.length : Int)))), (5, I 0)] rfl (Le.c rfl <| Le.c rfl <| Le.c rfl <| Le.e) ?_
    refine CW.block ?_
    refine CW.loopI 27 (fun (x : Nat × Int) => match x with | (i, l) => [(0, .r (sl 6 Applied.c a)), (1, I l), (5, I (i : Int))]) (fun (x : Nat × Int) => match x with | (i, l) => i ≤ a.length ∧ szL szApplied (a.drop i) l = szS szApplied a left) (fun (x : Nat × Int) => match x with | (i, l) => a.length - i) (0, _) rfl (Le.c rfl <| Le.c rfl <| Le.c rfl <| Le.e) ⟨by omega, by first | (simp_all [szS]; done) | grind [szS]⟩ ?_
    rintro ⟨i, l⟩ ⟨hb, hr⟩
    refine CW.seq ?_
    refine CW.seq ?_
    refine CW.region ?_
    refine RW.v rfl (V.mv (d := I (i : Int)) rfl rfl) ?_
    refine RW.v rfl (V.mv (d := .r (sl 6 Applied.c a)) rfl rfl) ?_
    refine RW.v rfl (V.lenT (n := a.length) rfl rfl rfl .r) ?_
    refine RW.v rfl (V.cmpInt rfl rfl rfl rfl) ?_
    refine RW.nil ?_
    refine CW.le [(0, .r (sl 6 Applied.c a)), (1, I l), (5, I (i : Int)), (15, Bo (decide ((i : Int) < (a.length : Int))))] rfl (Le.c rfl <| Le.c rfl <| Le.c rfl <| Le.c rfl <| Le.e) ?_
    refine CW.cond rfl (fun h2 => ?_) (fun h2 => ?_)
    · skip
      have hii : i < a.length := by have := h2; simp at this; first | exact this | (simp; omega)
      obtain ⟨ei, hei⟩ : ∃ e, a[i]? = some e := ⟨_, List.getElem?_eq_getElem hii⟩
      have hdi := drop_get hei
      refine CW.skip ?_
      refine CW.le [(0, .r (sl 6 Applied.c a)), (1, I l), (5, I (i : Int))] rfl (Le.c rfl <| Le.c rfl <| Le.c rfl <| Le.e) ?_
      refine CW.seq ?_
      refine CW.block ?_
      refine CW.seq ?_
      refine CW.region ?_
      refine RW.v rfl (V.mv (d := .r (sl 6 Applied.c a)) rfl rfl) ?_
      refine RW.v rfl (V.mv (d := I (i : Int)) rfl rfl) ?_
      refine RW.v rfl (V.indexS rfl rfl rfl rfl rfl rfl Applied.len hei) ?_
      refine RW.v rfl (V.loadAggR rfl rfl rfl rfl (Nat.le_of_ble_eq_true rfl)) ?_
      refine RW.v rfl (V.mv (d := I l) rfl rfl) ?_
      refine RW.call rfl (laws_szApplied_fn ei l) rfl (.cons (.agg (.cons (.r .r) (.cons (.r .r) (.cons (.r .r) (.cons (.r .r) (.cons (.r .r) (.cons (.r .r) (.nil)))))))) (.cons (.one (.r .r)) (.nil))) fun g3 => ?_
      refine RW.v rfl (V.as (d := I (szApplied ei l)) rfl rfl) ?_
      refine RW.nil ?_
      refine CW.le [(0, .r (sl 6 Applied.c a)), (1, I (szApplied ei l)), (5, I (i : Int))] rfl (Le.c rfl <| Le.c rfl <| Le.c rfl <| Le.e) ?_
      refine CW.seq ?_
      refine CW.region ?_
      refine RW.v rfl (V.mv (d := I (szApplied ei l)) rfl rfl) ?_
      refine RW.v rfl (V.cmpInt rfl rfl rfl rfl) ?_
      refine RW.nil ?_
      refine CW.le [(0, .r (sl 6 Applied.c a)), (1, I (szApplied ei l)), (5, I (i : Int)), (25, Bo (decide ((szApplied ei l) < 0)))] rfl (Le.c rfl <| Le.c rfl <| Le.c rfl <| Le.c rfl <| Le.e) ?_
      refine CW.cond rfl (fun h4 => ?_) (fun h4 => ?_)
      · skip
        refine CW.seq ?_
        refine CW.region ?_
        refine RW.v rfl (V.as (d := I (-1)) rfl rfl) ?_
        refine RW.nil ?_
        refine CW.le [(4, I (-1))] rfl (Le.c rfl <| Le.e) ?_
        refine CW.ret ?_
        exact Post.one (RV.i rfl (by first | (simp_all [szS, szL, szStr, szI]; done) | grind [szS, szL, szStr, szI])) (AOs.r (AOs.r AOs.e))
      · skip
        refine CW.skip ?_
        refine CW.le [(0, .r (sl 6 Applied.c a)), (1, I (szApplied ei l)), (5, I (i : Int))] rfl (Le.c rfl <| Le.c rfl <| Le.c rfl <| Le.e) ?_
        refine CW.region ?_
        refine RW.v rfl (V.mv (d := I (i : Int)) rfl rfl) ?_
        refine RW.v rfl (V.inc rfl rfl rfl hii hl0) ?_
        refine RW.v rfl (V.as (d := I ((i + 1 : Nat) : Int)) rfl rfl) ?_
        refine RW.nil ?_
        exact ⟨(i + 1, _), by simp only []; omega, ⟨by omega, by first | (simp_all [szL, szStr, szI]; done) | grind [szL, szStr, szI]⟩, rfl, Le.c rfl <| Le.c rfl <| Le.c rfl <| Le.e⟩
    · skip
      have hii : a.length ≤ i := by have := h2; simp at this; first | exact this | (simp; omega)
      have hdi : a.drop i = [] := List.drop_eq_nil_of_le hii
      refine CW.exit ?_
      refine CW.le [(1, I l)] rfl (Le.c rfl <| Le.e) ?_
      refine CW.seq ?_
      refine CW.region ?_
      refine RW.v rfl (V.mv (d := I l) rfl rfl) ?_
      refine RW.v rfl (V.as (d := I l) rfl rfl) ?_
      refine RW.nil ?_
      refine CW.le [(4, I l)] rfl (Le.c rfl <| Le.e) ?_
      refine CW.ret ?_
      exact Post.one (RV.i rfl (by first | (simp_all [szS, szL, szStr, szI]; done) | grind [szS, szL, szStr, szI])) (AOs.r (AOs.r AOs.e))
set_option maxHeartbeats 4000000 in
theorem spec_SameApplied_fn (a : List Applied) : Eng.Fn E.P 47 [.one (.r (sl 6 Applied.c a))] (.one (.one (.w (.v (.bool (pairs badApplied [] a)))))) [.one (.r (sl 6 Applied.c a))] := by
  refine Eng.Fn.intro (E := E) (rvs := [.tmp 2]) Try.func47 rfl rfl rfl (by simp [outSlots, moved, rvSlot, sl]) ?_
  intro B g bo
  refine CW.bound (x := .tmp 0) (n := a.length) (AsT.r) (fun hl0 => ?_)
  refine CW.le [(0, .r (sl 6 Applied.c a))] rfl (Le.c rfl <| Le.e) ?_
  refine CW.seq ?_
  refine CW.region ?_
  refine RW.v rfl (V.as (d := Bo false) rfl rfl) ?_
  refine RW.nil ?_
  refine CW.le [(0, .r (sl 6 Applied.c a))] rfl (Le.c rfl <| Le.e) ?_
  refine CW.seq ?_
  refine CW.seq ?_
  refine CW.region ?_
  refine RW.v rfl (V.as (d := I 0) rfl rfl) ?_
  refine RW.nil ?_
  refine CW.le [(0, .r (sl 6 Applied.c a)), (3, I 0)] rfl (Le.c rfl <| Le.c rfl <| Le.e) ?_
  refine CW.block ?_
  refine CW.loopI 40 (fun (i : Nat) => [(0, .r (sl 6 Applied.c a)), (3, I (i : Int))]) (fun (i : Nat) => i ≤ a.length ∧ pairs badApplied (a.take i) (a.drop i) = pairs badApplied [] a) (fun (i : Nat) => a.length - i) 0 rfl (Le.c rfl <| Le.c rfl <| Le.e) ⟨by omega, by simp⟩ ?_
  rintro i ⟨hb, hr⟩
  refine CW.seq ?_
  refine CW.seq ?_
  refine CW.region ?_
  refine RW.v rfl (V.mv (d := I (i : Int)) rfl rfl) ?_
  refine RW.v rfl (V.mv (d := .r (sl 6 Applied.c a)) rfl rfl) ?_
  refine RW.v rfl (V.lenT (n := a.length) rfl rfl rfl .r) ?_
  refine RW.v rfl (V.cmpInt rfl rfl rfl rfl) ?_
  refine RW.nil ?_
  refine CW.le [(0, .r (sl 6 Applied.c a)), (3, I (i : Int)), (8, Bo (decide ((i : Int) < (a.length : Int))))] rfl (Le.c rfl <| Le.c rfl <| Le.c rfl <| Le.e) ?_
  refine CW.cond rfl (fun h1 => ?_) (fun h1 => ?_)
  · skip
    have hii : i < a.length := by have := h1; simp at this; first | exact this | (simp; omega)
    obtain ⟨ei, hei⟩ : ∃ e, a[i]? = some e := ⟨_, List.getElem?_eq_getElem hii⟩
    have hdi := drop_get hei
    refine CW.skip ?_
    refine CW.le [(0, .r (sl 6 Applied.c a)), (3, I (i : Int))] rfl (Le.c rfl <| Le.c rfl <| Le.e) ?_
    refine CW.seq ?_
    refine CW.block ?_
    refine CW.seq ?_
    refine CW.region ?_
    refine RW.v rfl (V.as (d := I 0) rfl rfl) ?_
    refine RW.nil ?_
    refine CW.le [(0, .r (sl 6 Applied.c a)), (3, I (i : Int)), (4, I 0)] rfl (Le.c rfl <| Le.c rfl <| Le.c rfl <| Le.e) ?_
    refine CW.block ?_
    refine CW.loopI 40 (fun (k : Nat) => [(0, .r (sl 6 Applied.c a)), (3, I (i : Int)), (4, I (k : Int))]) (fun (k : Nat) => k ≤ i ∧ ((a.take i).drop k).any (badApplied ei) = (a.take i).any (badApplied ei)) (fun (k : Nat) => i - k) 0 rfl (Le.c rfl <| Le.c rfl <| Le.c rfl <| Le.e) ⟨by omega, by simp⟩ ?_
    rintro k ⟨hc, hs⟩
    refine CW.seq ?_
    refine CW.seq ?_
    refine CW.region ?_
    refine RW.v rfl (V.mv (d := I (k : Int)) rfl rfl) ?_
    refine RW.v rfl (V.mv (d := I (i : Int)) rfl rfl) ?_
    refine RW.v rfl (V.cmpInt rfl rfl rfl rfl) ?_
    refine RW.nil ?_
    refine CW.le [(0, .r (sl 6 Applied.c a)), (3, I (i : Int)), (4, I (k : Int)), (13, Bo (decide ((k : Int) < (i : Int))))] rfl (Le.c rfl <| Le.c rfl <| Le.c rfl <| Le.c rfl <| Le.e) ?_
    refine CW.cond rfl (fun h2 => ?_) (fun h2 => ?_)
    · skip
      have hik : k < (a.take i).length := by have := h2; simp at this; first | exact this | (simp; omega)
      obtain ⟨ek, hek⟩ : ∃ e, (a.take i)[k]? = some e := ⟨_, List.getElem?_eq_getElem hik⟩
      have hdk := drop_get hek
      have hkl : k < i := by first | exact hik | (simp at hik; omega)
      have hek2 : a[k]? = some ek := by rw [← hek]; exact (List.getElem?_take_of_lt hkl).symm
      refine CW.skip ?_
      refine CW.le [(0, .r (sl 6 Applied.c a)), (3, I (i : Int)), (4, I (k : Int))] rfl (Le.c rfl <| Le.c rfl <| Le.c rfl <| Le.e) ?_
      refine CW.seq ?_
      refine CW.block ?_
      refine CW.seqJ 40 (fun (v3 : Bool) => [(0, .r (sl 6 Applied.c a)), (3, I (i : Int)), (4, I (k : Int)), (39, Bo v3)]) (fun v3 => v3 = ((ei.index == ek.index) && (!eqEntry ei.entry ek.entry))) ?_ ?_
      · refine CW.drawn (by kernel_rfl) ?_
        refine RQ.v rfl (V.mv (d := .r (sl 6 Applied.c a)) rfl rfl) ?_
        refine RQ.v rfl (V.mv (d := I (i : Int)) rfl rfl) ?_
        refine RQ.v rfl (V.indexS rfl rfl rfl rfl rfl rfl Applied.len hei) ?_
        refine RQ.v rfl (V.fieldR rfl rfl rfl rfl (by decide) rfl (Nat.le_of_ble_eq_true rfl)) ?_
        refine RQ.v rfl (V.loadPrimR (t0 := .v (.int .i64 ei.index)) rfl rfl (.inl rfl) rfl rfl) ?_
        refine RQ.v rfl (V.mv (d := .r (sl 6 Applied.c a)) rfl rfl) ?_
        refine RQ.v rfl (V.mv (d := I (k : Int)) rfl rfl) ?_
        refine RQ.v rfl (V.indexS rfl rfl rfl rfl rfl rfl Applied.len hek2) ?_
        refine RQ.v rfl (V.fieldR rfl rfl rfl rfl (by decide) rfl (Nat.le_of_ble_eq_true rfl)) ?_
        refine RQ.v rfl (V.loadPrimR (t0 := .v (.int .i64 ek.index)) rfl rfl (.inl rfl) rfl rfl) ?_
        refine RQ.v rfl (V.cmpInt rfl rfl rfl rfl) ?_
        refine RQ.v rfl (V.mv (d := Bo (ei.index == ek.index)) rfl rfl) ?_
        refine RQ.gv rfl rfl rfl rfl (fun h4 => V.mv (d := .r (sl 6 Applied.c a)) rfl rfl) (fun h4 => ?_) (fun h4 => ?_)
        · skip
          refine RQ.gt rfl rfl rfl rfl (V.mv (d := I (i : Int)) rfl rfl) ?_
          refine RQ.gt rfl rfl rfl rfl (V.indexS rfl rfl rfl rfl rfl rfl Applied.len hei) ?_
          refine RQ.gt rfl rfl rfl rfl (V.fieldR rfl rfl rfl rfl (by decide) rfl (Nat.le_of_ble_eq_true rfl)) ?_
          refine RQ.gt rfl rfl rfl rfl (V.loadAggR rfl rfl rfl rfl (Nat.le_of_ble_eq_true rfl)) ?_
          refine RQ.gt rfl rfl rfl rfl (V.mv (d := .r (sl 6 Applied.c a)) rfl rfl) ?_
          refine RQ.gt rfl rfl rfl rfl (V.mv (d := I (k : Int)) rfl rfl) ?_
          refine RQ.gt rfl rfl rfl rfl (V.indexS rfl rfl rfl rfl rfl rfl Applied.len hek2) ?_
          refine RQ.gt rfl rfl rfl rfl (V.fieldR rfl rfl rfl rfl (by decide) rfl (Nat.le_of_ble_eq_true rfl)) ?_
          refine RQ.gt rfl rfl rfl rfl (V.loadAggR rfl rfl rfl rfl (Nat.le_of_ble_eq_true rfl)) ?_
          refine RQ.gt rfl rfl rfl rfl (V.eqAgg (xs := Entry.vs ei.entry) (ys := Entry.vs ek.entry) rfl rfl rfl (by kernel_rfl) (eq81 ei.entry ek.entry) (.inr ⟨rfl, rfl⟩)) ?_
          refine RQ.v rfl (V.pickT (d := Bo (!eqEntry ei.entry ek.entry)) rfl rfl rfl) ?_
          refine RQ.nil ?_
          exact ⟨_, by first | rfl | (simp_all; done) | (simp_all; omega) | grind, rfl, Le.c rfl <| Le.c rfl <| Le.c rfl <| Le.c rfl <| Le.e⟩
        · skip
          refine RQ.guardF rfl rfl rfl rfl ?_
          refine RQ.guardF rfl rfl rfl rfl ?_
          refine RQ.guardF rfl rfl rfl rfl ?_
          refine RQ.guardF rfl rfl rfl rfl ?_
          refine RQ.guardF rfl rfl rfl rfl ?_
          refine RQ.guardF rfl rfl rfl rfl ?_
          refine RQ.guardF rfl rfl rfl rfl ?_
          refine RQ.guardF rfl rfl rfl rfl ?_
          refine RQ.guardF rfl rfl rfl rfl ?_
          refine RQ.guardF rfl rfl rfl rfl ?_
          refine RQ.v rfl (V.pickF (d := Bo false) rfl rfl rfl) ?_
          refine RQ.nil ?_
          exact ⟨_, by first | rfl | (simp_all; done) | (simp_all; omega) | grind, rfl, Le.c rfl <| Le.c rfl <| Le.c rfl <| Le.c rfl <| Le.e⟩
      · intro v3 hv5
        refine CW.cond rfl (fun h6 => ?_) (fun h6 => ?_)
        · skip
          refine CW.seq ?_
          refine CW.region ?_
          refine RW.v rfl (V.as (d := Bo false) rfl rfl) ?_
          refine RW.nil ?_
          refine CW.le [(2, Bo false)] rfl (Le.c rfl <| Le.e) ?_
          refine CW.ret ?_
          exact Post.one (RV.b rfl (by rw [← hr, hdi, pairs, ← hs, hdk, List.any_cons, show badApplied ei ek = true from by clear hr hs; first | (simp_all [badApplied]; done) | grind [badApplied]]; simp)) (AOs.r AOs.e)
        · skip
          refine CW.skip ?_
          refine CW.le [(0, .r (sl 6 Applied.c a)), (3, I (i : Int)), (4, I (k : Int))] rfl (Le.c rfl <| Le.c rfl <| Le.c rfl <| Le.e) ?_
          refine CW.region ?_
          refine RW.v rfl (V.mv (d := I (k : Int)) rfl rfl) ?_
          refine RW.v rfl (V.inc rfl rfl rfl hkl (Nat.le_trans (Nat.le_of_lt hii) hl0)) ?_
          refine RW.v rfl (V.as (d := I ((k + 1 : Nat) : Int)) rfl rfl) ?_
          refine RW.nil ?_
          exact ⟨k + 1, by omega, ⟨by omega, by rw [← hs, hdk, List.any_cons, show badApplied ei ek = false from by clear hr hs; first | (simp_all [badApplied]; done) | grind [badApplied]]; simp⟩, rfl, Le.c rfl <| Le.c rfl <| Le.c rfl <| Le.e⟩
    · skip
      have hik : (a.take i).length ≤ k := by have := h2; simp at this; first | exact this | (simp; omega)
      have hdk : (a.take i).drop k = [] := List.drop_eq_nil_of_le hik
      refine CW.exit ?_
      refine CW.le [(0, .r (sl 6 Applied.c a)), (3, I (i : Int))] rfl (Le.c rfl <| Le.c rfl <| Le.e) ?_
      refine CW.region ?_
      refine RW.v rfl (V.mv (d := I (i : Int)) rfl rfl) ?_
      refine RW.v rfl (V.inc rfl rfl rfl hii hl0) ?_
      refine RW.v rfl (V.as (d := I ((i + 1 : Nat) : Int)) rfl rfl) ?_
      refine RW.nil ?_
      exact ⟨i + 1, by omega, ⟨by omega, by rw [← hr, hdi, pairs, ← hs, hdk, take_snoc hei]; simp⟩, rfl, Le.c rfl <| Le.c rfl <| Le.e⟩
  · skip
    have hii : a.length ≤ i := by have := h1; simp at this; first | exact this | (simp; omega)
    have hdi : a.drop i = [] := List.drop_eq_nil_of_le hii
    refine CW.exit ?_
    refine CW.le [] rfl (Le.e) ?_
    refine CW.seq ?_
    refine CW.region ?_
    refine RW.v rfl (V.as (d := Bo true) rfl rfl) ?_
    refine RW.nil ?_
    refine CW.le [(2, Bo true)] rfl (Le.c rfl <| Le.e) ?_
    refine CW.ret ?_
    exact Post.one (RV.b rfl (by first | (simp_all [pairs]; done) | grind [pairs])) (AOs.r AOs.e)
set_option maxHeartbeats 4000000 in
theorem spec_Entries_fn (a : List Applied) (hm : a.length ≤ 1048576) : Eng.Fn E.P 11 [.one (.r (sl 6 Applied.c a))] (.tup [.one (.w (sl 3 Entry.c (ents a))), .one (.w (.v (.bool (pairs badApplied [] a))))]) [.one (.r (sl 6 Applied.c a))] := by
  refine Eng.Fn.intro (E := E) (rvs := [.tmp 2, .tmp 3]) Try.func11 rfl rfl rfl (by simp [outSlots, moved, rvSlot, sl]) ?_
  intro B g bo
  refine CW.bound (x := .tmp 0) (n := a.length) (AsT.r) (fun hl0 => ?_)
  refine CW.le [(0, .r (sl 6 Applied.c a))] rfl (Le.c rfl <| Le.e) ?_
  refine CW.seq ?_
  refine CW.region ?_
  refine RW.v rfl (V.as (d := .r (.v (.slice none 0 0))) rfl rfl) ?_
  refine RW.v rfl (V.as (d := Bo false) rfl rfl) ?_
  refine RW.nil ?_
  refine CW.le [(0, .r (sl 6 Applied.c a))] rfl (Le.c rfl <| Le.e) ?_
  refine CW.seq ?_
  refine CW.region ?_
  refine RW.build0 Entry.c rfl rfl rfl rfl rfl fun X1 => ?_
  refine RW.assignMove rfl rfl rfl (by decide) (Nat.le_of_ble_eq_true rfl) (Nat.le_of_ble_eq_true rfl) ?_
  refine RW.nil ?_
  refine CW.le [(0, .r (sl 6 Applied.c a)), (4, .w (sl 3 Entry.c ([])) X1)] rfl (Le.c rfl <| Le.c rfl <| Le.e) ?_
  refine CW.seq ?_
  refine CW.seq ?_
  refine CW.region ?_
  refine RW.v rfl (V.mv (d := .r (sl 6 Applied.c a)) rfl rfl) ?_
  refine RW.call rfl (spec_SameApplied_fn a) rfl (.cons (.one (.r .r)) (.nil)) fun g2 => ?_
  refine RW.v rfl (V.not rfl rfl) ?_
  refine RW.nil ?_
  refine CW.le [(0, .r (sl 6 Applied.c a)), (4, .w (sl 3 Entry.c ([])) X1), (10, Bo (!(pairs badApplied [] a)))] rfl (Le.c rfl <| Le.c rfl <| Le.c rfl <| Le.e) ?_
  refine CW.cond rfl (fun h3 => ?_) (fun h3 => ?_)
  · skip
    refine CW.seq ?_
    refine CW.region ?_
    refine RW.v rfl (V.mv (d := .al 4 none 3 (([]).length) X1 0) rfl rfl) ?_
    refine RW.v rfl (V.as (d := .al 4 none 3 (([]).length) X1 0) rfl rfl) ?_
    refine RW.v rfl (V.as (d := Bo false) rfl rfl) ?_
    refine RW.nil ?_
    refine CW.le [(2, .al 4 none 3 (([]).length) X1 0), (3, Bo false), (4, .w (sl 3 Entry.c ([])) X1)] rfl (Le.c rfl <| Le.c rfl <| Le.c rfl <| Le.e) ?_
    refine CW.pull 2 4 (by decide) rfl rfl ?_
    refine CW.ret ?_
    exact Post.tup (by decide) (RVs.c (RV.w rfl (by exact (ents_no (by simpa using h3)).symm)) (RVs.c (RV.b rfl (by simp_all)) RVs.e)) (AOs.r AOs.e)
  · skip
    refine CW.skip ?_
    refine CW.le [(0, .r (sl 6 Applied.c a)), (4, .w (sl 3 Entry.c ([])) X1)] rfl (Le.c rfl <| Le.c rfl <| Le.e) ?_
    refine CW.seq ?_
    refine CW.region ?_
    refine RW.v rfl (V.as (d := Bo true) rfl rfl) ?_
    refine RW.nil ?_
    refine CW.le [(0, .r (sl 6 Applied.c a)), (4, .w (sl 3 Entry.c ([])) X1), (5, Bo true)] rfl (Le.c rfl <| Le.c rfl <| Le.c rfl <| Le.e) ?_
    refine CW.seq ?_
    refine CW.block ?_
    refine CW.loopI 41 (fun (x : Bool × List Entry × Value) => match x with | (f, out, X) => [(0, .r (sl 6 Applied.c a)), (4, .w (sl 3 Entry.c out) X), (5, Bo f)]) (fun (x : Bool × List Entry × Value) => match x with | (f, out, X) => GoodE a out ∧ (f = false → FinE a out)) (fun (x : Bool × List Entry × Value) => match x with | (f, out, X) => 2 * (a.length - out.length) + (if f = true then 1 else 0)) (true, [], _) rfl (Le.c rfl <| Le.c rfl <| Le.c rfl <| Le.e) ⟨good_nil a, by simp⟩ ?_
    rintro ⟨f, out, X⟩ ⟨hg, hfin⟩
    have hol := good_len hg
    refine CW.seq ?_
    refine CW.seq ?_
    refine CW.region ?_
    refine RW.v rfl (V.mv (d := Bo f) rfl rfl) ?_
    refine RW.nil ?_
    refine CW.le [(0, .r (sl 6 Applied.c a)), (4, .w (sl 3 Entry.c out) X), (12, Bo f)] rfl (Le.c rfl <| Le.c rfl <| Le.c rfl <| Le.e) ?_
    refine CW.cond rfl (fun h4 => ?_) (fun h4 => ?_)
    · skip
      refine CW.skip ?_
      refine CW.le [(0, .r (sl 6 Applied.c a)), (4, .w (sl 3 Entry.c out) X)] rfl (Le.c rfl <| Le.c rfl <| Le.e) ?_
      refine CW.block ?_
      refine CW.seq ?_
      refine CW.region ?_
      refine RW.v rfl (V.as (d := Bo false) rfl rfl) ?_
      refine RW.nil ?_
      refine CW.le [(0, .r (sl 6 Applied.c a)), (4, .w (sl 3 Entry.c out) X), (5, Bo false)] rfl (Le.c rfl <| Le.c rfl <| Le.c rfl <| Le.e) ?_
      refine CW.seq ?_
      refine CW.region ?_
      refine RW.v rfl (V.as (d := I 0) rfl rfl) ?_
      refine RW.nil ?_
      refine CW.le [(0, .r (sl 6 Applied.c a)), (4, .w (sl 3 Entry.c out) X), (5, Bo false), (6, I 0)] rfl (Le.c rfl <| Le.c rfl <| Le.c rfl <| Le.c rfl <| Le.e) ?_
      refine CW.block ?_
      refine CW.loopI 41 (fun (x : Nat × Bool × List Entry × Value) => match x with | (k, f2, out2, X2) => [(0, .r (sl 6 Applied.c a)), (4, .w (sl 3 Entry.c out2) X2), (5, Bo f2), (6, I (k : Int))]) (fun (x : Nat × Bool × List Entry × Value) => match x with | (k, f2, out2, X2) => EntP a out k f2 out2) (fun (x : Nat × Bool × List Entry × Value) => match x with | (k, f2, out2, X2) => a.length - k) (0, false, _, _) rfl (Le.c rfl <| Le.c rfl <| Le.c rfl <| Le.c rfl <| Le.e) (EntP.init hg) ?_
      rintro ⟨k, f2, out2, X2⟩ hP
      have hb := hP.1
      refine CW.seq ?_
      refine CW.seqJ 41 (fun (v5 : Bool) => [(0, .r (sl 6 Applied.c a)), (4, .w (sl 3 Entry.c out2) X2), (5, Bo f2), (6, I (k : Int)), (20, Bo v5)]) (fun v5 => v5 = (decide ((k : Int) < (a.length : Int)) && (!f2))) ?_ ?_
      · refine CW.region ?_
        refine RW.v rfl (V.mv (d := I (k : Int)) rfl rfl) ?_
        refine RW.v rfl (V.mv (d := .r (sl 6 Applied.c a)) rfl rfl) ?_
        refine RW.v rfl (V.lenT (n := a.length) rfl rfl rfl .r) ?_
        refine RW.v rfl (V.cmpInt rfl rfl rfl rfl) ?_
        refine RW.v rfl (V.mv (d := Bo (decide ((k : Int) < (a.length : Int)))) rfl rfl) ?_
        refine RW.gv rfl rfl rfl rfl (fun h6 => V.mv (d := Bo f2) rfl rfl) (fun h6 => ?_) (fun h6 => ?_)
        · skip
          refine RW.gt rfl rfl rfl rfl (V.not rfl rfl) ?_
          refine RW.v rfl (V.pickT (d := Bo (!f2)) rfl rfl rfl) ?_
          refine RW.nil ?_
          exact ⟨_, by first | rfl | (simp_all; done) | (simp_all; omega) | grind, rfl, Le.c rfl <| Le.c rfl <| Le.c rfl <| Le.c rfl <| Le.c rfl <| Le.e⟩
        · skip
          refine RW.guardF rfl rfl rfl rfl ?_
          refine RW.v rfl (V.pickF (d := Bo false) rfl rfl rfl) ?_
          refine RW.nil ?_
          exact ⟨_, by first | rfl | (simp_all; done) | (simp_all; omega) | grind, rfl, Le.c rfl <| Le.c rfl <| Le.c rfl <| Le.c rfl <| Le.c rfl <| Le.e⟩
      · intro v5 hv7
        refine CW.cond rfl (fun h8 => ?_) (fun h8 => ?_)
        · skip
          have hik : k < a.length := by subst hv7; simp at h8; omega
          obtain ⟨ek, hek⟩ : ∃ e, a[k]? = some e := ⟨_, List.getElem?_eq_getElem hik⟩
          refine CW.skip ?_
          refine CW.le [(0, .r (sl 6 Applied.c a)), (4, .w (sl 3 Entry.c out2) X2), (5, Bo f2), (6, I (k : Int))] rfl (Le.c rfl <| Le.c rfl <| Le.c rfl <| Le.c rfl <| Le.e) ?_
          refine CW.seq ?_
          refine CW.block ?_
          refine CW.seq ?_
          refine CW.region ?_
          refine RW.v rfl (V.mv (d := .r (sl 6 Applied.c a)) rfl rfl) ?_
          refine RW.v rfl (V.mv (d := I (k : Int)) rfl rfl) ?_
          refine RW.v rfl (V.indexS rfl rfl rfl rfl rfl rfl Applied.len hek) ?_
          refine RW.v rfl (V.fieldR rfl rfl rfl rfl (by decide) rfl (Nat.le_of_ble_eq_true rfl)) ?_
          refine RW.v rfl (V.loadPrimR (t0 := .v (.int .i64 ek.index)) rfl rfl (.inl rfl) rfl rfl) ?_
          refine RW.v rfl (V.mv (d := .al 4 none 3 out2.length X2 0) rfl rfl) ?_
          refine RW.v rfl (V.lenT (n := out2.length) rfl rfl rfl (.al rfl rfl nofun)) ?_
          refine RW.v rfl (V.arInt rfl rfl rfl rfl) ?_
          refine RW.v rfl (V.cmpInt rfl rfl rfl rfl) ?_
          refine RW.nil ?_
          refine CW.le [(0, .r (sl 6 Applied.c a)), (4, .w (sl 3 Entry.c out2) X2), (5, Bo f2), (6, I (k : Int)), (31, Bo (ek.index == (IntKind.i64.wrap ((out2.length : Int) + 1))))] rfl (Le.c rfl <| Le.c rfl <| Le.c rfl <| Le.c rfl <| Le.c rfl <| Le.e) ?_
          refine CW.cond rfl (fun h9 => ?_) (fun h9 => ?_)
          · skip
            refine CW.seq ?_
            refine CW.region ?_
            refine RW.v rfl (V.mv (d := .al 4 none 3 out2.length X2 0) rfl rfl) ?_
            refine RW.v rfl (V.mv (d := .r (sl 6 Applied.c a)) rfl rfl) ?_
            refine RW.v rfl (V.mv (d := I (k : Int)) rfl rfl) ?_
            refine RW.v rfl (V.indexS rfl rfl rfl rfl rfl rfl Applied.len hek) ?_
            refine RW.v rfl (V.fieldR rfl rfl rfl rfl (by decide) rfl (Nat.le_of_ble_eq_true rfl)) ?_
            refine RW.v rfl (V.loadAggR rfl rfl rfl rfl (Nat.le_of_ble_eq_true rfl)) ?_
            refine RW.build1 (c := Entry.c) (v := ek.entry) rfl rfl rfl rfl rfl rfl (DW.v (DW.v (DW.v DW.e))) Entry.len (by decide) (by decide) fun X10 => ?_
            refine RW.appendSR (c := Entry.c) (l1 := out2) (l2 := [ek.entry]) rfl rfl rfl rfl rfl rfl rfl rfl (.al rfl rfl nofun) (by decide) (Nat.le_of_ble_eq_true rfl) Entry.len (fun _ => rfl) rfl (by simp only [maxLen]; have := good_len hP.2.1; first | omega | (simp; omega)) (by simp only [maxLen]; have := good_len hP.2.1; first | omega | (simp; omega)) fun X11 => ?_
            refine RW.assignMove rfl rfl rfl (by decide) (Nat.le_of_ble_eq_true rfl) (Nat.le_of_ble_eq_true rfl) ?_
            refine RW.nil ?_
            refine CW.le [(0, .r (sl 6 Applied.c a)), (4, .w (sl 3 Entry.c (out2 ++ ([ek.entry]))) X11), (6, I (k : Int))] rfl (Le.c rfl <| Le.c rfl <| Le.c rfl <| Le.e) ?_
            refine CW.region ?_
            refine RW.v rfl (V.as (d := Bo true) rfl rfl) ?_
            refine RW.nil ?_
            refine CW.le [(0, .r (sl 6 Applied.c a)), (4, .w (sl 3 Entry.c (out2 ++ ([ek.entry]))) X11), (5, Bo true), (6, I (k : Int))] rfl (Le.c rfl <| Le.c rfl <| Le.c rfl <| Le.c rfl <| Le.e) ?_
            refine CW.region ?_
            refine RW.v rfl (V.mv (d := I (k : Int)) rfl rfl) ?_
            refine RW.v rfl (V.inc rfl rfl rfl hik hl0) ?_
            refine RW.v rfl (V.as (d := I ((k + 1 : Nat) : Int)) rfl rfl) ?_
            refine RW.nil ?_
            exact ⟨(k + 1, true, (out2 ++ ([ek.entry])), _), by simp only []; omega, (by first | exact hP.yes hm hek h9 | exact hP.no hm hek h9), rfl, Le.c rfl <| Le.c rfl <| Le.c rfl <| Le.c rfl <| Le.e⟩
          · skip
            refine CW.skip ?_
            refine CW.le [(0, .r (sl 6 Applied.c a)), (4, .w (sl 3 Entry.c out2) X2), (5, Bo f2), (6, I (k : Int))] rfl (Le.c rfl <| Le.c rfl <| Le.c rfl <| Le.c rfl <| Le.e) ?_
            refine CW.region ?_
            refine RW.v rfl (V.mv (d := I (k : Int)) rfl rfl) ?_
            refine RW.v rfl (V.inc rfl rfl rfl hik hl0) ?_
            refine RW.v rfl (V.as (d := I ((k + 1 : Nat) : Int)) rfl rfl) ?_
            refine RW.nil ?_
            exact ⟨(k + 1, f2, out2, _), by simp only []; omega, (by first | exact hP.yes hm hek h9 | exact hP.no hm hek h9), rfl, Le.c rfl <| Le.c rfl <| Le.c rfl <| Le.c rfl <| Le.e⟩
        · skip
          refine CW.exit ?_
          exact ⟨(f2, out2, _), hP.dec hol h4, ⟨hP.2.1, hP.fin2 hv7 h8⟩, rfl, Le.c rfl <| Le.c rfl <| Le.c rfl <| Le.e⟩
    · skip
      refine CW.exit ?_
      refine CW.le [(4, .w (sl 3 Entry.c out) X)] rfl (Le.c rfl <| Le.e) ?_
      refine CW.seq ?_
      refine CW.region ?_
      refine RW.v rfl (V.mv (d := .al 4 none 3 out.length X 0) rfl rfl) ?_
      refine RW.v rfl (V.as (d := .al 4 none 3 out.length X 0) rfl rfl) ?_
      refine RW.v rfl (V.as (d := Bo true) rfl rfl) ?_
      refine RW.nil ?_
      refine CW.le [(2, .al 4 none 3 out.length X 0), (3, Bo true), (4, .w (sl 3 Entry.c out) X)] rfl (Le.c rfl <| Le.c rfl <| Le.c rfl <| Le.e) ?_
      refine CW.pull 2 4 (by decide) rfl rfl ?_
      refine CW.ret ?_
      exact Post.tup (by decide) (RVs.c (RV.w rfl (by exact ents_eq (by simpa using h3) hg (hfin h4))) (RVs.c (RV.b rfl (by simp_all)) RVs.e)) (AOs.r AOs.e)
set_option maxHeartbeats 4000000 in
theorem laws_toEntry_fn (a : Entry) (hs : okToEntry a) : Eng.Fn E.P 115 [.agg ((Entry.c a).map .r)] (.one (.agg ((Entry.c a).map .w))) [.agg ((Entry.c a).map .r)] := by
  refine Eng.Fn.intro (E := E) (rvs := [.cell 2 81]) Try.func115 rfl rfl rfl (by simp [outSlots, moved, rvSlot, sl]) ?_
  intro B g bo
  refine CW.le [(0, .agg ((Entry.c a).map .r))] rfl (Le.c rfl <| Le.e) ?_
  refine CW.seq ?_
  refine CW.region ?_
  refine RW.box (ds := ((Entry.c a).map .r)) rfl rfl rfl fun b1 => ?_
  refine RW.alloc (ds := [I 0, I 0, S (⟨#[]⟩)]) rfl rfl rfl rfl fun b2 => ?_
  refine RW.nil ?_
  refine CW.le [(1, .obj b1 ((Entry.c a).map .r)), (2, .obj b2 [I 0, I 0, S (⟨#[]⟩)])] rfl (Le.c rfl <| Le.c rfl <| Le.e) ?_
  refine CW.seq ?_
  refine CW.region ?_
  refine RW.alloc (ds := [I 0, I 0, S (⟨#[]⟩)]) rfl rfl rfl rfl fun b3 => ?_
  refine RW.nil ?_
  refine CW.le [(1, .obj b1 ((Entry.c a).map .r)), (2, .obj b2 [I 0, I 0, S (⟨#[]⟩)]), (3, .obj b3 [I 0, I 0, S (⟨#[]⟩)])] rfl (Le.c rfl <| Le.c rfl <| Le.c rfl <| Le.e) ?_
  refine CW.seq ?_
  refine CW.region ?_
  refine RW.v rfl (V.field rfl rfl rfl rfl (by decide) rfl) ?_
  refine RW.v rfl (V.loadPrim (d := I a.term_) rfl rfl (.inl rfl) rfl rfl rfl) ?_
  refine RW.v rfl (V.field rfl rfl rfl rfl (by decide) rfl) ?_
  refine RW.store (d := I a.term_) rfl rfl rfl rfl rfl rfl rfl (Nat.le_of_ble_eq_true rfl) rfl rfl ?_
  refine RW.nil ?_
  refine CW.le [(1, .obj b1 ((Entry.c a).map .r)), (2, .obj b2 [I 0, I 0, S (⟨#[]⟩)]), (3, .obj b3 [I a.term_, I 0, S (⟨#[]⟩)])] rfl (Le.c rfl <| Le.c rfl <| Le.c rfl <| Le.e) ?_
  refine CW.seq ?_
  refine CW.region ?_
  refine RW.v rfl (V.field rfl rfl rfl rfl (by decide) rfl) ?_
  refine RW.v rfl (V.loadPrim (d := I a.kind) rfl rfl (.inl rfl) rfl rfl rfl) ?_
  refine RW.v rfl (V.field rfl rfl rfl rfl (by decide) rfl) ?_
  refine RW.store (d := I a.kind) rfl rfl rfl rfl rfl rfl rfl (Nat.le_of_ble_eq_true rfl) rfl rfl ?_
  refine RW.nil ?_
  refine CW.le [(1, .obj b1 ((Entry.c a).map .r)), (2, .obj b2 [I 0, I 0, S (⟨#[]⟩)]), (3, .obj b3 [I a.term_, I a.kind, S (⟨#[]⟩)])] rfl (Le.c rfl <| Le.c rfl <| Le.c rfl <| Le.e) ?_
  refine CW.seq ?_
  refine CW.region ?_
  refine RW.v rfl (V.field rfl rfl rfl rfl (by decide) rfl) ?_
  refine RW.v rfl (V.loadPrim (d := S a.data) rfl rfl (.inl rfl) rfl rfl rfl) ?_
  refine RW.v rfl (V.field rfl rfl rfl rfl (by decide) rfl) ?_
  refine RW.store (d := S a.data) rfl rfl rfl rfl rfl rfl rfl (Nat.le_of_ble_eq_true rfl) rfl rfl ?_
  refine RW.nil ?_
  refine CW.le [(2, .obj b2 [I 0, I 0, S (⟨#[]⟩)]), (3, .obj b3 ((Entry.c a).map .r))] rfl (Le.c rfl <| Le.c rfl <| Le.e) ?_
  refine CW.seq ?_
  refine CW.region ?_
  refine RW.v rfl (V.loadAgg rfl rfl rfl rfl rfl (Nat.le_of_ble_eq_true rfl)) ?_
  refine RW.storeAgg (es := ((Entry.c a).map .r)) rfl rfl rfl rfl rfl rfl rfl rfl (Nat.le_of_ble_eq_true rfl) rfl ?_
  refine RW.nil ?_
  refine CW.le [(2, .obj b2 ((Entry.c a).map .r))] rfl (Le.c rfl <| Le.e) ?_
  refine CW.ret ?_
  exact Post.one (RV.c (f := fun e => (Entry.c e).map .w) (e' := a) rfl rfl rfl rfl (DT.v (DT.v (DT.v DT.e))) (by simp_all)) (AOs.a rfl AOs.e)
set_option maxHeartbeats 4000000 in
theorem laws_toApplied_fn (a : Applied) (hs : okToApplied a) : Eng.Fn E.P 48 [.agg ((Applied.c a).map .r)] (.one (.agg ((Applied.c a).map .w))) [.agg ((Applied.c a).map .r)] := by
  refine Eng.Fn.intro (E := E) (rvs := [.cell 2 83]) Try.func48 rfl rfl rfl (by simp [outSlots, moved, rvSlot, sl]) ?_
  intro B g bo
  refine CW.le [(0, .agg ((Applied.c a).map .r))] rfl (Le.c rfl <| Le.e) ?_
  refine CW.seq ?_
  refine CW.region ?_
  refine RW.box (ds := ((Applied.c a).map .r)) rfl rfl rfl fun b1 => ?_
  refine RW.alloc (ds := [I 0, I 0, I 0, I 0, I 0, S (⟨#[]⟩)]) rfl rfl rfl rfl fun b2 => ?_
  refine RW.nil ?_
  refine CW.le [(1, .obj b1 ((Applied.c a).map .r)), (2, .obj b2 [I 0, I 0, I 0, I 0, I 0, S (⟨#[]⟩)])] rfl (Le.c rfl <| Le.c rfl <| Le.e) ?_
  refine CW.seq ?_
  refine CW.region ?_
  refine RW.alloc (ds := [I 0, I 0, I 0, I 0, I 0, S (⟨#[]⟩)]) rfl rfl rfl rfl fun b3 => ?_
  refine RW.nil ?_
  refine CW.le [(1, .obj b1 ((Applied.c a).map .r)), (2, .obj b2 [I 0, I 0, I 0, I 0, I 0, S (⟨#[]⟩)]), (3, .obj b3 [I 0, I 0, I 0, I 0, I 0, S (⟨#[]⟩)])] rfl (Le.c rfl <| Le.c rfl <| Le.c rfl <| Le.e) ?_
  refine CW.seq ?_
  refine CW.region ?_
  refine RW.v rfl (V.field rfl rfl rfl rfl (by decide) rfl) ?_
  refine RW.v rfl (V.loadPrim (d := I a.node) rfl rfl (.inl rfl) rfl rfl rfl) ?_
  refine RW.v rfl (V.field rfl rfl rfl rfl (by decide) rfl) ?_
  refine RW.store (d := I a.node) rfl rfl rfl rfl rfl rfl rfl (Nat.le_of_ble_eq_true rfl) rfl rfl ?_
  refine RW.nil ?_
  refine CW.le [(1, .obj b1 ((Applied.c a).map .r)), (2, .obj b2 [I 0, I 0, I 0, I 0, I 0, S (⟨#[]⟩)]), (3, .obj b3 [I a.node, I 0, I 0, I 0, I 0, S (⟨#[]⟩)])] rfl (Le.c rfl <| Le.c rfl <| Le.c rfl <| Le.e) ?_
  refine CW.seq ?_
  refine CW.region ?_
  refine RW.v rfl (V.field rfl rfl rfl rfl (by decide) rfl) ?_
  refine RW.v rfl (V.loadPrim (d := I a.term_) rfl rfl (.inl rfl) rfl rfl rfl) ?_
  refine RW.v rfl (V.field rfl rfl rfl rfl (by decide) rfl) ?_
  refine RW.store (d := I a.term_) rfl rfl rfl rfl rfl rfl rfl (Nat.le_of_ble_eq_true rfl) rfl rfl ?_
  refine RW.nil ?_
  refine CW.le [(1, .obj b1 ((Applied.c a).map .r)), (2, .obj b2 [I 0, I 0, I 0, I 0, I 0, S (⟨#[]⟩)]), (3, .obj b3 [I a.node, I a.term_, I 0, I 0, I 0, S (⟨#[]⟩)])] rfl (Le.c rfl <| Le.c rfl <| Le.c rfl <| Le.e) ?_
  refine CW.seq ?_
  refine CW.region ?_
  refine RW.v rfl (V.field rfl rfl rfl rfl (by decide) rfl) ?_
  refine RW.v rfl (V.loadPrim (d := I a.index) rfl rfl (.inl rfl) rfl rfl rfl) ?_
  refine RW.v rfl (V.field rfl rfl rfl rfl (by decide) rfl) ?_
  refine RW.store (d := I a.index) rfl rfl rfl rfl rfl rfl rfl (Nat.le_of_ble_eq_true rfl) rfl rfl ?_
  refine RW.nil ?_
  refine CW.le [(1, .obj b1 ((Applied.c a).map .r)), (2, .obj b2 [I 0, I 0, I 0, I 0, I 0, S (⟨#[]⟩)]), (3, .obj b3 [I a.node, I a.term_, I a.index, I 0, I 0, S (⟨#[]⟩)])] rfl (Le.c rfl <| Le.c rfl <| Le.c rfl <| Le.e) ?_
  refine CW.seq ?_
  refine CW.region ?_
  refine RW.v rfl (V.field rfl rfl rfl rfl (by decide) rfl) ?_
  refine RW.v rfl (V.loadAgg rfl rfl rfl rfl rfl (Nat.le_of_ble_eq_true rfl)) ?_
  refine RW.call rfl (laws_toEntry_fn a.entry hs) rfl (.cons (.agg (.cons (.r .r) (.cons (.r .r) (.cons (.r .r) (.nil))))) (.nil)) fun g4 => ?_
  refine RW.v rfl (V.field rfl rfl rfl rfl (by decide) rfl) ?_
  refine RW.storeAgg (es := ((Entry.c a.entry).map .r)) rfl rfl rfl rfl rfl rfl rfl rfl (Nat.le_of_ble_eq_true rfl) rfl ?_
  refine RW.nil ?_
  refine CW.le [(2, .obj b2 [I 0, I 0, I 0, I 0, I 0, S (⟨#[]⟩)]), (3, .obj b3 ((Applied.c a).map .r))] rfl (Le.c rfl <| Le.c rfl <| Le.e) ?_
  refine CW.seq ?_
  refine CW.region ?_
  refine RW.v rfl (V.loadAgg rfl rfl rfl rfl rfl (Nat.le_of_ble_eq_true rfl)) ?_
  refine RW.storeAgg (es := ((Applied.c a).map .r)) rfl rfl rfl rfl rfl rfl rfl rfl (Nat.le_of_ble_eq_true rfl) rfl ?_
  refine RW.nil ?_
  refine CW.le [(2, .obj b2 ((Applied.c a).map .r))] rfl (Le.c rfl <| Le.e) ?_
  refine CW.ret ?_
  exact Post.one (RV.c (f := fun e => (Applied.c e).map .w) (e' := a) rfl rfl rfl rfl (DT.v (DT.v (DT.v (DT.v (DT.v (DT.v DT.e)))))) (by simp_all)) (AOs.a rfl AOs.e)
set_option maxHeartbeats 4000000 in
theorem laws_toAppliedS_fn (a : List Applied) (hm : a.length ≤ 1048576) (hs : ∀ x ∈ a, okToApplied x) : Eng.Fn E.P 12 [.one (.r (sl 6 Applied.c a))] (.one (.one (.w (sl 6 Applied.c a)))) [.one (.r (sl 6 Applied.c a))] := by
  refine Eng.Fn.intro (E := E) (rvs := [.tmp 2]) Try.func12 rfl rfl rfl (by simp [outSlots, moved, rvSlot, sl]) ?_
  intro B g bo
  refine CW.bound (x := .tmp 0) (n := a.length) (AsT.r) (fun hl0 => ?_)
  refine CW.le [(0, .r (sl 6 Applied.c a))] rfl (Le.c rfl <| Le.e) ?_
  refine CW.seq ?_
  refine CW.region ?_
  refine RW.v rfl (V.as (d := .r (.v (.slice none 0 0))) rfl rfl) ?_
  refine RW.nil ?_
  refine CW.le [(0, .r (sl 6 Applied.c a))] rfl (Le.c rfl <| Le.e) ?_
  refine CW.seq ?_
  refine CW.region ?_
  refine RW.v rfl (V.mv (d := .r (sl 6 Applied.c a)) rfl rfl) ?_
  refine RW.v rfl (V.lenT (n := a.length) rfl rfl rfl .r) ?_
  refine RW.makeS (n := a.length) (c := Applied.c) Applied.z rfl rfl rfl rfl rfl rfl rfl rfl (ZT.v (ZT.v (ZT.v (ZT.v (ZT.v (ZT.v ZT.e)))))) (by show 56 * a.length ≤ 281474976710656; omega) (by simp only [maxLen]; omega) fun X1 => ?_
  refine RW.assignMove rfl rfl rfl (by decide) (Nat.le_of_ble_eq_true rfl) (Nat.le_of_ble_eq_true rfl) ?_
  refine RW.nil ?_
  refine CW.le [(0, .r (sl 6 Applied.c a)), (3, .w (sl 6 Applied.c (List.replicate a.length Applied.z)) X1)] rfl (Le.c rfl <| Le.c rfl <| Le.e) ?_
  refine CW.seq ?_
  refine CW.seq ?_
  refine CW.region ?_
  refine RW.v rfl (V.as (d := I 0) rfl rfl) ?_
  refine RW.nil ?_
  refine CW.le [(0, .r (sl 6 Applied.c a)), (3, .w (sl 6 Applied.c (List.replicate a.length Applied.z)) X1), (4, I 0)] rfl (Le.c rfl <| Le.c rfl <| Le.c rfl <| Le.e) ?_
  refine CW.block ?_
  refine CW.loopI 23 (fun (i : Nat) => [(0, .r (sl 6 Applied.c a)), (3, .w (sl 6 Applied.c (a.take i ++ List.replicate (a.length - i) Applied.z)) X1), (4, I (i : Int))]) (fun (i : Nat) => i ≤ a.length) (fun (i : Nat) => a.length - i) 0 rfl (Le.c rfl <| Le.c rfl <| Le.c rfl <| Le.e) (by omega) ?_
  rintro i hb
  refine CW.seq ?_
  refine CW.seq ?_
  refine CW.region ?_
  refine RW.v rfl (V.mv (d := I (i : Int)) rfl rfl) ?_
  refine RW.v rfl (V.mv (d := .r (sl 6 Applied.c a)) rfl rfl) ?_
  refine RW.v rfl (V.lenT (n := a.length) rfl rfl rfl .r) ?_
  refine RW.v rfl (V.cmpInt rfl rfl rfl rfl) ?_
  refine RW.nil ?_
  refine CW.le [(0, .r (sl 6 Applied.c a)), (3, .w (sl 6 Applied.c (a.take i ++ List.replicate (a.length - i) Applied.z)) X1), (4, I (i : Int)), (11, Bo (decide ((i : Int) < (a.length : Int))))] rfl (Le.c rfl <| Le.c rfl <| Le.c rfl <| Le.c rfl <| Le.e) ?_
  refine CW.cond rfl (fun h2 => ?_) (fun h2 => ?_)
  · skip
    have hii : i < a.length := by have := h2; simp at this; first | exact this | (simp; omega)
    obtain ⟨ei, hei⟩ : ∃ e, a[i]? = some e := ⟨_, List.getElem?_eq_getElem hii⟩
    have hdi := drop_get hei
    refine CW.skip ?_
    refine CW.le [(0, .r (sl 6 Applied.c a)), (3, .w (sl 6 Applied.c (a.take i ++ List.replicate (a.length - i) Applied.z)) X1), (4, I (i : Int))] rfl (Le.c rfl <| Le.c rfl <| Le.c rfl <| Le.e) ?_
    refine CW.seq ?_
    refine CW.block ?_
    refine CW.region ?_
    refine RW.v rfl (V.mv (d := .al 3 none 6 ((a.take i ++ List.replicate (a.length - i) Applied.z).length) X1 0) rfl rfl) ?_
    refine RW.v rfl (V.mv (d := I (i : Int)) rfl rfl) ?_
    refine RW.v rfl (V.mv (d := .r (sl 6 Applied.c a)) rfl rfl) ?_
    refine RW.v rfl (V.mv (d := I (i : Int)) rfl rfl) ?_
    refine RW.v rfl (V.indexS rfl rfl rfl rfl rfl rfl Applied.len hei) ?_
    refine RW.v rfl (V.loadAggR rfl rfl rfl rfl (Nat.le_of_ble_eq_true rfl)) ?_
    refine RW.call rfl (laws_toApplied_fn ei (hs ei (List.mem_of_getElem? hei))) rfl (.cons (.agg (.cons (.r .r) (.cons (.r .r) (.cons (.r .r) (.cons (.r .r) (.cons (.r .r) (.cons (.r .r) (.nil)))))))) (.nil)) fun g3 => ?_
    refine RW.v rfl (V.indexW rfl rfl rfl rfl rfl rfl rfl (by simp; omega)) ?_
    refine RW.storeS (v := ei) rfl rfl rfl rfl rfl rfl rfl (DW.v (DW.v (DW.v (DW.v (DW.v (DW.v DW.e)))))) Applied.len (by decide) (by simp; omega) rfl ?_
    refine RW.nil ?_
    refine CW.le [(0, .r (sl 6 Applied.c a)), (3, .w (sl 6 Applied.c ((a.take i ++ List.replicate (a.length - i) Applied.z).set i ei)) X1), (4, I (i : Int))] rfl (Le.c rfl <| Le.c rfl <| Le.c rfl <| Le.e) ?_
    refine CW.region ?_
    refine RW.v rfl (V.mv (d := I (i : Int)) rfl rfl) ?_
    refine RW.v rfl (V.inc rfl rfl rfl hii hl0) ?_
    refine RW.v rfl (V.as (d := I ((i + 1 : Nat) : Int)) rfl rfl) ?_
    refine RW.nil ?_
    exact ⟨i + 1, by omega, by omega, rfl, Le.c rfl <| Le.c (congrArg (fun l => D.w (sl _ Applied.c l) X1) (take_set hei)) <| Le.c rfl <| Le.e⟩
  · skip
    have hii : a.length ≤ i := by have := h2; simp at this; first | exact this | (simp; omega)
    have hdi : a.drop i = [] := List.drop_eq_nil_of_le hii
    refine CW.exit ?_
    refine CW.le [(3, .w (sl 6 Applied.c (a.take i ++ List.replicate (a.length - i) Applied.z)) X1)] rfl (Le.c rfl <| Le.e) ?_
    refine CW.seq ?_
    refine CW.region ?_
    refine RW.v rfl (V.mv (d := .al 3 none 6 ((a.take i ++ List.replicate (a.length - i) Applied.z).length) X1 0) rfl rfl) ?_
    refine RW.v rfl (V.as (d := .al 3 none 6 ((a.take i ++ List.replicate (a.length - i) Applied.z).length) X1 0) rfl rfl) ?_
    refine RW.nil ?_
    refine CW.le [(2, .al 3 none 6 ((a.take i ++ List.replicate (a.length - i) Applied.z).length) X1 0), (3, .w (sl 6 Applied.c (a.take i ++ List.replicate (a.length - i) Applied.z)) X1)] rfl (Le.c rfl <| Le.c rfl <| Le.e) ?_
    refine CW.pull 2 3 (by decide) rfl rfl ?_
    refine CW.ret ?_
    exact Post.one (RV.w rfl (by rw [List.take_of_length_le hii, show a.length - i = 0 from by omega]; simp)) (AOs.r AOs.e)
set_option maxHeartbeats 4000000 in
theorem impl_SameApplied_fn (a : List Applied) : Eng.Fn E.P 49 [.one (.r (sl 6 Applied.c a))] (.one (.one (.w (.v (.bool (pairs badApplied [] a)))))) [.one (.r (sl 6 Applied.c a))] := by
  refine Eng.Fn.intro (E := E) (rvs := [.tmp 2]) Try.func49 rfl rfl rfl (by simp [outSlots, moved, rvSlot, sl]) ?_
  intro B g bo
  refine CW.bound (x := .tmp 0) (n := a.length) (AsT.r) (fun hl0 => ?_)
  refine CW.le [(0, .r (sl 6 Applied.c a))] rfl (Le.c rfl <| Le.e) ?_
  refine CW.seq ?_
  refine CW.region ?_
  refine RW.v rfl (V.as (d := Bo false) rfl rfl) ?_
  refine RW.nil ?_
  refine CW.le [(0, .r (sl 6 Applied.c a))] rfl (Le.c rfl <| Le.e) ?_
  refine CW.seq ?_
  refine CW.seq ?_
  refine CW.region ?_
  refine RW.v rfl (V.mv (d := .r (sl 6 Applied.c a)) rfl rfl) ?_
  refine RW.v rfl (V.lenT (n := a.length) rfl rfl rfl .r) ?_
  refine RW.v rfl (V.mv (d := I 0) rfl rfl) ?_
  refine RW.nil ?_
  refine CW.le [(0, .r (sl 6 Applied.c a)), (7, .r (sl 6 Applied.c a)), (8, I (a.length : Int)), (9, I 0)] rfl (Le.c rfl <| Le.c rfl <| Le.c rfl <| Le.c rfl <| Le.e) ?_
  refine CW.block ?_
  refine CW.loopI 36 (fun (i : Nat) => [(0, .r (sl 6 Applied.c a)), (7, .r (sl 6 Applied.c a)), (8, I (a.length : Int)), (9, I (i : Int))]) (fun (i : Nat) => i ≤ a.length ∧ pairs badApplied (a.take i) (a.drop i) = pairs badApplied [] a) (fun (i : Nat) => a.length - i) 0 rfl (Le.c rfl <| Le.c rfl <| Le.c rfl <| Le.c rfl <| Le.e) ⟨by omega, by simp⟩ ?_
  rintro i ⟨hb, hr⟩
  refine CW.seq ?_
  refine CW.region ?_
  refine RW.v rfl (V.cmpInt rfl rfl rfl rfl) ?_
  refine RW.nil ?_
  refine CW.le [(0, .r (sl 6 Applied.c a)), (7, .r (sl 6 Applied.c a)), (8, I (a.length : Int)), (9, I (i : Int)), (10, Bo (decide ((i : Int) < (a.length : Int))))] rfl (Le.c rfl <| Le.c rfl <| Le.c rfl <| Le.c rfl <| Le.c rfl <| Le.e) ?_
  refine CW.seq ?_
  refine CW.cond rfl (fun h1 => ?_) (fun h1 => ?_)
  · skip
    have hii : i < a.length := by have := h1; simp at this; first | exact this | (simp; omega)
    obtain ⟨ei, hei⟩ : ∃ e, a[i]? = some e := ⟨_, List.getElem?_eq_getElem hii⟩
    have hdi := drop_get hei
    refine CW.skip ?_
    refine CW.le [(0, .r (sl 6 Applied.c a)), (7, .r (sl 6 Applied.c a)), (8, I (a.length : Int)), (9, I (i : Int))] rfl (Le.c rfl <| Le.c rfl <| Le.c rfl <| Le.c rfl <| Le.e) ?_
    refine CW.seq ?_
    refine CW.block ?_
    refine CW.seq ?_
    refine CW.region ?_
    refine RW.v rfl (V.mv (d := I (i : Int)) rfl rfl) ?_
    refine RW.v rfl (V.indexS rfl rfl rfl rfl rfl rfl Applied.len hei) ?_
    refine RW.v rfl (V.loadAggR rfl rfl rfl rfl (Nat.le_of_ble_eq_true rfl)) ?_
    refine RW.alloc (ds := [I 0, I 0, I 0, I 0, I 0, S (⟨#[]⟩)]) rfl rfl rfl rfl fun b2 => ?_
    refine RW.v rfl (V.as (d := I (i : Int)) rfl rfl) ?_
    refine RW.storeAgg (es := ((Applied.c ei).map .r)) rfl rfl rfl rfl rfl rfl rfl rfl (Nat.le_of_ble_eq_true rfl) rfl ?_
    refine RW.nil ?_
    refine CW.le [(0, .r (sl 6 Applied.c a)), (3, I (i : Int)), (4, .obj b2 ((Applied.c ei).map .r)), (7, .r (sl 6 Applied.c a)), (8, I (a.length : Int)), (9, I (i : Int))] rfl (Le.c rfl <| Le.c rfl <| Le.c rfl <| Le.c rfl <| Le.c rfl <| Le.c rfl <| Le.e) ?_
    refine CW.seq ?_
    refine CW.region ?_
    refine RW.v rfl (V.mv (d := .r (sl 6 Applied.c a)) rfl rfl) ?_
    refine RW.v rfl (V.mv (d := I (i : Int)) rfl rfl) ?_
    refine RW.v rfl (V.takeS (m := i) rfl rfl rfl rfl rfl rfl Applied.len (Nat.le_of_lt hii)) ?_
    refine RW.v rfl (V.lenT (n := (a.take i).length) rfl rfl rfl .r) ?_
    refine RW.v rfl (V.mv (d := I 0) rfl rfl) ?_
    refine RW.nil ?_
    refine CW.le [(0, .r (sl 6 Applied.c a)), (4, .obj b2 ((Applied.c ei).map .r)), (7, .r (sl 6 Applied.c a)), (8, I (a.length : Int)), (9, I (i : Int)), (16, .r (sl 6 Applied.c (a.take i))), (17, I ((a.take i).length : Int)), (18, I 0)] rfl (Le.c rfl <| Le.c rfl <| Le.c rfl <| Le.c rfl <| Le.c rfl <| Le.c rfl <| Le.c rfl <| Le.c rfl <| Le.e) ?_
    refine CW.block ?_
    refine CW.loopI 36 (fun (k : Nat) => [(0, .r (sl 6 Applied.c a)), (4, .obj b2 ((Applied.c ei).map .r)), (7, .r (sl 6 Applied.c a)), (8, I (a.length : Int)), (9, I (i : Int)), (16, .r (sl 6 Applied.c (a.take i))), (17, I ((a.take i).length : Int)), (18, I (k : Int))]) (fun (k : Nat) => k ≤ i ∧ ((a.take i).drop k).any (badApplied ei) = (a.take i).any (badApplied ei)) (fun (k : Nat) => i - k) 0 rfl (Le.c rfl <| Le.c rfl <| Le.c rfl <| Le.c rfl <| Le.c rfl <| Le.c rfl <| Le.c rfl <| Le.c rfl <| Le.e) ⟨by omega, by simp⟩ ?_
    rintro k ⟨hc, hs⟩
    refine CW.seq ?_
    refine CW.region ?_
    refine RW.v rfl (V.cmpInt rfl rfl rfl rfl) ?_
    refine RW.nil ?_
    refine CW.le [(0, .r (sl 6 Applied.c a)), (4, .obj b2 ((Applied.c ei).map .r)), (7, .r (sl 6 Applied.c a)), (8, I (a.length : Int)), (9, I (i : Int)), (16, .r (sl 6 Applied.c (a.take i))), (17, I ((a.take i).length : Int)), (18, I (k : Int)), (19, Bo (decide ((k : Int) < ((a.take i).length : Int))))] rfl (Le.c rfl <| Le.c rfl <| Le.c rfl <| Le.c rfl <| Le.c rfl <| Le.c rfl <| Le.c rfl <| Le.c rfl <| Le.c rfl <| Le.e) ?_
    refine CW.seq ?_
    refine CW.cond rfl (fun h3 => ?_) (fun h3 => ?_)
    · skip
      have hik : k < (a.take i).length := by have := h3; simp at this; first | exact this | (simp; omega)
      obtain ⟨ek, hek⟩ : ∃ e, (a.take i)[k]? = some e := ⟨_, List.getElem?_eq_getElem hik⟩
      have hdk := drop_get hek
      have hkl : k < i := by first | exact hik | (simp at hik; omega)
      refine CW.skip ?_
      refine CW.le [(0, .r (sl 6 Applied.c a)), (4, .obj b2 ((Applied.c ei).map .r)), (7, .r (sl 6 Applied.c a)), (8, I (a.length : Int)), (9, I (i : Int)), (16, .r (sl 6 Applied.c (a.take i))), (17, I ((a.take i).length : Int)), (18, I (k : Int))] rfl (Le.c rfl <| Le.c rfl <| Le.c rfl <| Le.c rfl <| Le.c rfl <| Le.c rfl <| Le.c rfl <| Le.c rfl <| Le.e) ?_
      refine CW.seq ?_
      refine CW.block ?_
      refine CW.seq ?_
      refine CW.region ?_
      refine RW.v rfl (V.indexS rfl rfl rfl rfl rfl rfl Applied.len hek) ?_
      refine RW.v rfl (V.loadAggR rfl rfl rfl rfl (Nat.le_of_ble_eq_true rfl)) ?_
      refine RW.alloc (ds := [I 0, I 0, I 0, I 0, I 0, S (⟨#[]⟩)]) rfl rfl rfl rfl fun b4 => ?_
      refine RW.storeAgg (es := ((Applied.c ek).map .r)) rfl rfl rfl rfl rfl rfl rfl rfl (Nat.le_of_ble_eq_true rfl) rfl ?_
      refine RW.nil ?_
      refine CW.le [(0, .r (sl 6 Applied.c a)), (4, .obj b2 ((Applied.c ei).map .r)), (6, .obj b4 ((Applied.c ek).map .r)), (7, .r (sl 6 Applied.c a)), (8, I (a.length : Int)), (9, I (i : Int)), (16, .r (sl 6 Applied.c (a.take i))), (17, I ((a.take i).length : Int)), (18, I (k : Int))] rfl (Le.c rfl <| Le.c rfl <| Le.c rfl <| Le.c rfl <| Le.c rfl <| Le.c rfl <| Le.c rfl <| Le.c rfl <| Le.c rfl <| Le.e) ?_
      refine CW.seqJ 36 (fun (v5 : Bool) => [(0, .r (sl 6 Applied.c a)), (4, .obj b2 ((Applied.c ei).map .r)), (7, .r (sl 6 Applied.c a)), (8, I (a.length : Int)), (9, I (i : Int)), (16, .r (sl 6 Applied.c (a.take i))), (17, I ((a.take i).length : Int)), (18, I (k : Int)), (33, Bo v5)]) (fun v5 => v5 = ((ei.index == ek.index) && (!eqEntry ei.entry ek.entry))) ?_ ?_
      · refine CW.region ?_
        refine RW.v rfl (V.field rfl rfl rfl rfl (by decide) rfl) ?_
        refine RW.v rfl (V.loadPrim (d := I ei.index) rfl rfl (.inl rfl) rfl rfl rfl) ?_
        refine RW.v rfl (V.field rfl rfl rfl rfl (by decide) rfl) ?_
        refine RW.v rfl (V.loadPrim (d := I ek.index) rfl rfl (.inl rfl) rfl rfl rfl) ?_
        refine RW.v rfl (V.cmpInt rfl rfl rfl rfl) ?_
        refine RW.v rfl (V.mv (d := Bo (ei.index == ek.index)) rfl rfl) ?_
        refine RW.gv rfl rfl rfl rfl (fun h6 => V.field rfl rfl rfl rfl (by decide) rfl) (fun h6 => ?_) (fun h6 => ?_)
        · skip
          refine RW.gt rfl rfl rfl rfl (V.loadAgg rfl rfl rfl rfl rfl (Nat.le_of_ble_eq_true rfl)) ?_
          refine RW.gt rfl rfl rfl rfl (V.field rfl rfl rfl rfl (by decide) rfl) ?_
          refine RW.gt rfl rfl rfl rfl (V.loadAgg rfl rfl rfl rfl rfl (Nat.le_of_ble_eq_true rfl)) ?_
          refine RW.gt rfl rfl rfl rfl (V.eqAgg (xs := Entry.vs ei.entry) (ys := Entry.vs ek.entry) rfl rfl rfl (by kernel_rfl) (eq81 ei.entry ek.entry) (.inr ⟨rfl, rfl⟩)) ?_
          refine RW.v rfl (V.pickT (d := Bo (!eqEntry ei.entry ek.entry)) rfl rfl rfl) ?_
          refine RW.nil ?_
          exact ⟨_, by first | rfl | (simp_all; done) | (simp_all; omega) | grind, rfl, Le.c rfl <| Le.c rfl <| Le.c rfl <| Le.c rfl <| Le.c rfl <| Le.c rfl <| Le.c rfl <| Le.c rfl <| Le.c rfl <| Le.e⟩
        · skip
          refine RW.guardF rfl rfl rfl rfl ?_
          refine RW.guardF rfl rfl rfl rfl ?_
          refine RW.guardF rfl rfl rfl rfl ?_
          refine RW.guardF rfl rfl rfl rfl ?_
          refine RW.v rfl (V.pickF (d := Bo false) rfl rfl rfl) ?_
          refine RW.nil ?_
          exact ⟨_, by first | rfl | (simp_all; done) | (simp_all; omega) | grind, rfl, Le.c rfl <| Le.c rfl <| Le.c rfl <| Le.c rfl <| Le.c rfl <| Le.c rfl <| Le.c rfl <| Le.c rfl <| Le.c rfl <| Le.e⟩
      · intro v5 hv7
        refine CW.cond rfl (fun h8 => ?_) (fun h8 => ?_)
        · skip
          refine CW.seq ?_
          refine CW.region ?_
          refine RW.v rfl (V.as (d := Bo false) rfl rfl) ?_
          refine RW.nil ?_
          refine CW.le [(2, Bo false)] rfl (Le.c rfl <| Le.e) ?_
          refine CW.ret ?_
          exact Post.one (RV.b rfl (by rw [← hr, hdi, pairs, ← hs, hdk, List.any_cons, show badApplied ei ek = true from by clear hr hs; first | (simp_all [badApplied]; done) | grind [badApplied]]; simp)) (AOs.r AOs.e)
        · skip
          refine CW.skip ?_
          refine CW.le [(0, .r (sl 6 Applied.c a)), (4, .obj b2 ((Applied.c ei).map .r)), (7, .r (sl 6 Applied.c a)), (8, I (a.length : Int)), (9, I (i : Int)), (16, .r (sl 6 Applied.c (a.take i))), (17, I ((a.take i).length : Int)), (18, I (k : Int))] rfl (Le.c rfl <| Le.c rfl <| Le.c rfl <| Le.c rfl <| Le.c rfl <| Le.c rfl <| Le.c rfl <| Le.c rfl <| Le.e) ?_
          refine CW.region ?_
          refine RW.v rfl (V.inc rfl rfl rfl hkl (Nat.le_trans (Nat.le_of_lt hii) hl0)) ?_
          refine RW.v rfl (V.mv (d := I ((k + 1 : Nat) : Int)) rfl rfl) ?_
          refine RW.nil ?_
          exact ⟨k + 1, by omega, ⟨by omega, by rw [← hs, hdk, List.any_cons, show badApplied ei ek = false from by clear hr hs; first | (simp_all [badApplied]; done) | grind [badApplied]]; simp⟩, rfl, Le.c rfl <| Le.c rfl <| Le.c rfl <| Le.c rfl <| Le.c rfl <| Le.c rfl <| Le.c rfl <| Le.c rfl <| Le.e⟩
    · skip
      have hik : (a.take i).length ≤ k := by have := h3; simp at this; first | exact this | (simp; omega)
      have hdk : (a.take i).drop k = [] := List.drop_eq_nil_of_le hik
      refine CW.exit ?_
      refine CW.le [(0, .r (sl 6 Applied.c a)), (7, .r (sl 6 Applied.c a)), (8, I (a.length : Int)), (9, I (i : Int))] rfl (Le.c rfl <| Le.c rfl <| Le.c rfl <| Le.c rfl <| Le.e) ?_
      refine CW.region ?_
      refine RW.v rfl (V.inc rfl rfl rfl hii hl0) ?_
      refine RW.v rfl (V.mv (d := I ((i + 1 : Nat) : Int)) rfl rfl) ?_
      refine RW.nil ?_
      exact ⟨i + 1, by omega, ⟨by omega, by rw [← hr, hdi, pairs, ← hs, hdk, take_snoc hei]; simp⟩, rfl, Le.c rfl <| Le.c rfl <| Le.c rfl <| Le.c rfl <| Le.e⟩
  · skip
    have hii : a.length ≤ i := by have := h1; simp at this; first | exact this | (simp; omega)
    have hdi : a.drop i = [] := List.drop_eq_nil_of_le hii
    refine CW.exit ?_
    refine CW.le [] rfl (Le.e) ?_
    refine CW.seq ?_
    refine CW.region ?_
    refine RW.v rfl (V.as (d := Bo true) rfl rfl) ?_
    refine RW.nil ?_
    refine CW.le [(2, Bo true)] rfl (Le.c rfl <| Le.e) ?_
    refine CW.ret ?_
    exact Post.one (RV.b rfl (by first | (simp_all [pairs]; done) | grind [pairs])) (AOs.r AOs.e)
set_option maxHeartbeats 4000000 in
theorem impl_Entries_fn (a : List Applied) (hm : a.length ≤ 1048576) : Eng.Fn E.P 13 [.one (.r (sl 6 Applied.c a))] (.tup [.one (.w (sl 3 Entry.c (ents a))), .one (.w (.v (.bool (pairs badApplied [] a))))]) [.one (.r (sl 6 Applied.c a))] := by
  refine Eng.Fn.intro (E := E) (rvs := [.tmp 2, .tmp 3]) Try.func13 rfl rfl rfl (by simp [outSlots, moved, rvSlot, sl]) ?_
  intro B g bo
  refine CW.bound (x := .tmp 0) (n := a.length) (AsT.r) (fun hl0 => ?_)
  refine CW.le [(0, .r (sl 6 Applied.c a))] rfl (Le.c rfl <| Le.e) ?_
  refine CW.seq ?_
  refine CW.region ?_
  refine RW.v rfl (V.as (d := .r (.v (.slice none 0 0))) rfl rfl) ?_
  refine RW.v rfl (V.as (d := Bo false) rfl rfl) ?_
  refine RW.nil ?_
  refine CW.le [(0, .r (sl 6 Applied.c a))] rfl (Le.c rfl <| Le.e) ?_
  refine CW.seq ?_
  refine CW.seq ?_
  refine CW.region ?_
  refine RW.v rfl (V.mv (d := .r (sl 6 Applied.c a)) rfl rfl) ?_
  refine RW.call rfl (impl_SameApplied_fn a) rfl (.cons (.one (.r .r)) (.nil)) fun g1 => ?_
  refine RW.v rfl (V.not rfl rfl) ?_
  refine RW.nil ?_
  refine CW.le [(0, .r (sl 6 Applied.c a)), (10, Bo (!(pairs badApplied [] a)))] rfl (Le.c rfl <| Le.c rfl <| Le.e) ?_
  refine CW.cond rfl (fun h2 => ?_) (fun h2 => ?_)
  · skip
    refine CW.seq ?_
    refine CW.region ?_
    refine RW.v rfl (V.as (d := .r (.v (.slice none 0 0))) rfl rfl) ?_
    refine RW.v rfl (V.as (d := Bo false) rfl rfl) ?_
    refine RW.nil ?_
    refine CW.le [(2, .r (.v (.slice none 0 0))), (3, Bo false)] rfl (Le.c rfl <| Le.c rfl <| Le.e) ?_
    refine CW.ret ?_
    exact Post.tup (by decide) (RVs.c (RV.n rfl (by exact (ents_no (by simpa using h2)).symm)) (RVs.c (RV.b rfl (by simp_all)) RVs.e)) (AOs.r AOs.e)
  · skip
    refine CW.skip ?_
    refine CW.le [(0, .r (sl 6 Applied.c a))] rfl (Le.c rfl <| Le.e) ?_
    refine CW.seq ?_
    refine CW.region ?_
    refine RW.build0 Entry.c rfl rfl rfl rfl rfl fun X3 => ?_
    refine RW.assignMove rfl rfl rfl (by decide) (Nat.le_of_ble_eq_true rfl) (Nat.le_of_ble_eq_true rfl) ?_
    refine RW.nil ?_
    refine CW.le [(0, .r (sl 6 Applied.c a)), (4, .w (sl 3 Entry.c ([])) X3)] rfl (Le.c rfl <| Le.c rfl <| Le.e) ?_
    refine CW.seq ?_
    refine CW.seq ?_
    refine CW.region ?_
    refine RW.v rfl (V.as (d := Bo true) rfl rfl) ?_
    refine RW.nil ?_
    refine CW.le [(0, .r (sl 6 Applied.c a)), (4, .w (sl 3 Entry.c ([])) X3), (5, Bo true)] rfl (Le.c rfl <| Le.c rfl <| Le.c rfl <| Le.e) ?_
    refine CW.block ?_
    refine CW.loopI 32 (fun (x : Bool × List Entry × Value) => match x with | (f, out, X) => [(0, .r (sl 6 Applied.c a)), (4, .w (sl 3 Entry.c out) X), (5, Bo f)]) (fun (x : Bool × List Entry × Value) => match x with | (f, out, X) => GoodE a out ∧ (f = false → FinE a out)) (fun (x : Bool × List Entry × Value) => match x with | (f, out, X) => 2 * (a.length - out.length) + (if f = true then 1 else 0)) (true, [], _) rfl (Le.c rfl <| Le.c rfl <| Le.c rfl <| Le.e) ⟨good_nil a, by simp⟩ ?_
    rintro ⟨f, out, X⟩ ⟨hg, hfin⟩
    have hol := good_len hg
    refine CW.seq ?_
    refine CW.seq ?_
    refine CW.region ?_
    refine RW.v rfl (V.mv (d := Bo f) rfl rfl) ?_
    refine RW.nil ?_
    refine CW.le [(0, .r (sl 6 Applied.c a)), (4, .w (sl 3 Entry.c out) X), (12, Bo f)] rfl (Le.c rfl <| Le.c rfl <| Le.c rfl <| Le.e) ?_
    refine CW.cond rfl (fun h4 => ?_) (fun h4 => ?_)
    · skip
      refine CW.skip ?_
      refine CW.le [(0, .r (sl 6 Applied.c a)), (4, .w (sl 3 Entry.c out) X)] rfl (Le.c rfl <| Le.c rfl <| Le.e) ?_
      refine CW.block ?_
      refine CW.seq ?_
      refine CW.region ?_
      refine RW.v rfl (V.as (d := Bo false) rfl rfl) ?_
      refine RW.nil ?_
      refine CW.le [(0, .r (sl 6 Applied.c a)), (4, .w (sl 3 Entry.c out) X), (5, Bo false)] rfl (Le.c rfl <| Le.c rfl <| Le.c rfl <| Le.e) ?_
      refine CW.seq ?_
      refine CW.region ?_
      refine RW.v rfl (V.mv (d := .r (sl 6 Applied.c a)) rfl rfl) ?_
      refine RW.v rfl (V.lenT (n := a.length) rfl rfl rfl .r) ?_
      refine RW.v rfl (V.mv (d := I 0) rfl rfl) ?_
      refine RW.nil ?_
      refine CW.le [(0, .r (sl 6 Applied.c a)), (4, .w (sl 3 Entry.c out) X), (5, Bo false), (13, .r (sl 6 Applied.c a)), (14, I (a.length : Int)), (15, I 0)] rfl (Le.c rfl <| Le.c rfl <| Le.c rfl <| Le.c rfl <| Le.c rfl <| Le.c rfl <| Le.e) ?_
      refine CW.block ?_
      refine CW.loopI 32 (fun (x : Nat × Bool × List Entry × Value) => match x with | (k, f2, out2, X2) => [(0, .r (sl 6 Applied.c a)), (4, .w (sl 3 Entry.c out2) X2), (5, Bo f2), (13, .r (sl 6 Applied.c a)), (14, I (a.length : Int)), (15, I (k : Int))]) (fun (x : Nat × Bool × List Entry × Value) => match x with | (k, f2, out2, X2) => EntP a out k f2 out2) (fun (x : Nat × Bool × List Entry × Value) => match x with | (k, f2, out2, X2) => a.length - k) (0, false, _, _) rfl (Le.c rfl <| Le.c rfl <| Le.c rfl <| Le.c rfl <| Le.c rfl <| Le.c rfl <| Le.e) (EntP.init hg) ?_
      rintro ⟨k, f2, out2, X2⟩ hP
      have hb := hP.1
      refine CW.seq ?_
      refine CW.region ?_
      refine RW.v rfl (V.cmpInt rfl rfl rfl rfl) ?_
      refine RW.nil ?_
      refine CW.le [(0, .r (sl 6 Applied.c a)), (4, .w (sl 3 Entry.c out2) X2), (5, Bo f2), (13, .r (sl 6 Applied.c a)), (14, I (a.length : Int)), (15, I (k : Int)), (16, Bo (decide ((k : Int) < (a.length : Int))))] rfl (Le.c rfl <| Le.c rfl <| Le.c rfl <| Le.c rfl <| Le.c rfl <| Le.c rfl <| Le.c rfl <| Le.e) ?_
      refine CW.seq ?_
      refine CW.cond rfl (fun h5 => ?_) (fun h5 => ?_)
      · skip
        have hik : k < a.length := by have := h5; simp at this; first | exact this | (simp; omega)
        obtain ⟨ek, hek⟩ : ∃ e, a[k]? = some e := ⟨_, List.getElem?_eq_getElem hik⟩
        have hdk := drop_get hek
        refine CW.skip ?_
        refine CW.le [(0, .r (sl 6 Applied.c a)), (4, .w (sl 3 Entry.c out2) X2), (5, Bo f2), (13, .r (sl 6 Applied.c a)), (14, I (a.length : Int)), (15, I (k : Int))] rfl (Le.c rfl <| Le.c rfl <| Le.c rfl <| Le.c rfl <| Le.c rfl <| Le.c rfl <| Le.e) ?_
        refine CW.seq ?_
        refine CW.block ?_
        refine CW.seq ?_
        refine CW.region ?_
        refine RW.v rfl (V.indexS rfl rfl rfl rfl rfl rfl Applied.len hek) ?_
        refine RW.v rfl (V.loadAggR rfl rfl rfl rfl (Nat.le_of_ble_eq_true rfl)) ?_
        refine RW.alloc (ds := [I 0, I 0, I 0, I 0, I 0, S (⟨#[]⟩)]) rfl rfl rfl rfl fun b6 => ?_
        refine RW.storeAgg (es := ((Applied.c ek).map .r)) rfl rfl rfl rfl rfl rfl rfl rfl (Nat.le_of_ble_eq_true rfl) rfl ?_
        refine RW.nil ?_
        refine CW.le [(0, .r (sl 6 Applied.c a)), (4, .w (sl 3 Entry.c out2) X2), (5, Bo f2), (7, .obj b6 ((Applied.c ek).map .r)), (13, .r (sl 6 Applied.c a)), (14, I (a.length : Int)), (15, I (k : Int))] rfl (Le.c rfl <| Le.c rfl <| Le.c rfl <| Le.c rfl <| Le.c rfl <| Le.c rfl <| Le.c rfl <| Le.e) ?_
        refine CW.seq ?_
        refine CW.region ?_
        refine RW.v rfl (V.field rfl rfl rfl rfl (by decide) rfl) ?_
        refine RW.v rfl (V.loadPrim (d := I ek.index) rfl rfl (.inl rfl) rfl rfl rfl) ?_
        refine RW.v rfl (V.mv (d := .al 4 none 3 out2.length X2 0) rfl rfl) ?_
        refine RW.v rfl (V.lenT (n := out2.length) rfl rfl rfl (.al rfl rfl nofun)) ?_
        refine RW.v rfl (V.arInt rfl rfl rfl rfl) ?_
        refine RW.v rfl (V.cmpInt rfl rfl rfl rfl) ?_
        refine RW.nil ?_
        refine CW.le [(0, .r (sl 6 Applied.c a)), (4, .w (sl 3 Entry.c out2) X2), (5, Bo f2), (7, .obj b6 ((Applied.c ek).map .r)), (13, .r (sl 6 Applied.c a)), (14, I (a.length : Int)), (15, I (k : Int)), (24, Bo (ek.index == (IntKind.i64.wrap ((out2.length : Int) + 1))))] rfl (Le.c rfl <| Le.c rfl <| Le.c rfl <| Le.c rfl <| Le.c rfl <| Le.c rfl <| Le.c rfl <| Le.c rfl <| Le.e) ?_
        refine CW.cond rfl (fun h7 => ?_) (fun h7 => ?_)
        · skip
          refine CW.seq ?_
          refine CW.region ?_
          refine RW.v rfl (V.mv (d := .al 4 none 3 out2.length X2 0) rfl rfl) ?_
          refine RW.v rfl (V.field rfl rfl rfl rfl (by decide) rfl) ?_
          refine RW.v rfl (V.loadAgg rfl rfl rfl rfl rfl (Nat.le_of_ble_eq_true rfl)) ?_
          refine RW.build1 (c := Entry.c) (v := ek.entry) rfl rfl rfl rfl rfl rfl (DW.v (DW.v (DW.v DW.e))) Entry.len (by decide) (by decide) fun X8 => ?_
          refine RW.appendSR (c := Entry.c) (l1 := out2) (l2 := [ek.entry]) rfl rfl rfl rfl rfl rfl rfl rfl (.al rfl rfl nofun) (by decide) (Nat.le_of_ble_eq_true rfl) Entry.len (fun _ => rfl) rfl (by simp only [maxLen]; have := good_len hP.2.1; first | omega | (simp; omega)) (by simp only [maxLen]; have := good_len hP.2.1; first | omega | (simp; omega)) fun X9 => ?_
          refine RW.assignMove rfl rfl rfl (by decide) (Nat.le_of_ble_eq_true rfl) (Nat.le_of_ble_eq_true rfl) ?_
          refine RW.nil ?_
          refine CW.le [(0, .r (sl 6 Applied.c a)), (4, .w (sl 3 Entry.c (out2 ++ ([ek.entry]))) X9), (13, .r (sl 6 Applied.c a)), (14, I (a.length : Int)), (15, I (k : Int))] rfl (Le.c rfl <| Le.c rfl <| Le.c rfl <| Le.c rfl <| Le.c rfl <| Le.e) ?_
          refine CW.region ?_
          refine RW.v rfl (V.as (d := Bo true) rfl rfl) ?_
          refine RW.nil ?_
          refine CW.le [(0, .r (sl 6 Applied.c a)), (4, .w (sl 3 Entry.c (out2 ++ ([ek.entry]))) X9), (5, Bo true), (13, .r (sl 6 Applied.c a)), (14, I (a.length : Int)), (15, I (k : Int))] rfl (Le.c rfl <| Le.c rfl <| Le.c rfl <| Le.c rfl <| Le.c rfl <| Le.c rfl <| Le.e) ?_
          refine CW.region ?_
          refine RW.v rfl (V.inc rfl rfl rfl hik hl0) ?_
          refine RW.v rfl (V.mv (d := I ((k + 1 : Nat) : Int)) rfl rfl) ?_
          refine RW.nil ?_
          exact ⟨(k + 1, true, (out2 ++ ([ek.entry])), _), by simp only []; omega, (by first | exact hP.yes hm hek h7 | exact hP.no hm hek h7), rfl, Le.c rfl <| Le.c rfl <| Le.c rfl <| Le.c rfl <| Le.c rfl <| Le.c rfl <| Le.e⟩
        · skip
          refine CW.skip ?_
          refine CW.le [(0, .r (sl 6 Applied.c a)), (4, .w (sl 3 Entry.c out2) X2), (5, Bo f2), (13, .r (sl 6 Applied.c a)), (14, I (a.length : Int)), (15, I (k : Int))] rfl (Le.c rfl <| Le.c rfl <| Le.c rfl <| Le.c rfl <| Le.c rfl <| Le.c rfl <| Le.e) ?_
          refine CW.region ?_
          refine RW.v rfl (V.inc rfl rfl rfl hik hl0) ?_
          refine RW.v rfl (V.mv (d := I ((k + 1 : Nat) : Int)) rfl rfl) ?_
          refine RW.nil ?_
          exact ⟨(k + 1, f2, out2, _), by simp only []; omega, (by first | exact hP.yes hm hek h7 | exact hP.no hm hek h7), rfl, Le.c rfl <| Le.c rfl <| Le.c rfl <| Le.c rfl <| Le.c rfl <| Le.c rfl <| Le.e⟩
      · skip
        have hik : a.length ≤ k := by have := h5; simp at this; first | exact this | (simp; omega)
        have hdk : a.drop k = [] := List.drop_eq_nil_of_le hik
        refine CW.exit ?_
        exact ⟨(f2, out2, _), hP.dec hol h4, ⟨hP.2.1, hP.fin hik⟩, rfl, Le.c rfl <| Le.c rfl <| Le.c rfl <| Le.e⟩
    · skip
      refine CW.exit ?_
      refine CW.le [(4, .w (sl 3 Entry.c out) X)] rfl (Le.c rfl <| Le.e) ?_
      refine CW.seq ?_
      refine CW.region ?_
      refine RW.v rfl (V.mv (d := .al 4 none 3 out.length X 0) rfl rfl) ?_
      refine RW.v rfl (V.as (d := .al 4 none 3 out.length X 0) rfl rfl) ?_
      refine RW.v rfl (V.as (d := Bo true) rfl rfl) ?_
      refine RW.nil ?_
      refine CW.le [(2, .al 4 none 3 out.length X 0), (3, Bo true), (4, .w (sl 3 Entry.c out) X)] rfl (Le.c rfl <| Le.c rfl <| Le.c rfl <| Le.e) ?_
      refine CW.pull 2 4 (by decide) rfl rfl ?_
      refine CW.ret ?_
      exact Post.tup (by decide) (RVs.c (RV.w rfl (by exact ents_eq (by simpa using h2) hg (hfin h4))) (RVs.c (RV.b rfl (by simp_all)) RVs.e)) (AOs.r AOs.e)
set_option maxHeartbeats 4000000 in
theorem laws_eqEntry_fn (a : Entry) (b : Entry) : Eng.Fn E.P 50 [.agg ((Entry.c a).map .r), .agg ((Entry.c b).map .r)] (.one (.one (.w (.v (.bool (eqEntry a b)))))) [.agg ((Entry.c a).map .r), .agg ((Entry.c b).map .r)] := by
  refine Eng.Fn.intro (E := E) (rvs := [.tmp 4]) Try.func50 rfl rfl rfl (by simp [outSlots, moved, rvSlot, sl]) ?_
  intro B g bo
  refine CW.le [(0, .agg ((Entry.c a).map .r)), (1, .agg ((Entry.c b).map .r))] rfl (Le.c rfl <| Le.c rfl <| Le.e) ?_
  refine CW.seq ?_
  refine CW.region ?_
  refine RW.box (ds := ((Entry.c a).map .r)) rfl rfl rfl fun b1 => ?_
  refine RW.box (ds := ((Entry.c b).map .r)) rfl rfl rfl fun b2 => ?_
  refine RW.v rfl (V.as (d := Bo false) rfl rfl) ?_
  refine RW.nil ?_
  refine CW.le [(2, .obj b1 ((Entry.c a).map .r)), (3, .obj b2 ((Entry.c b).map .r))] rfl (Le.c rfl <| Le.c rfl <| Le.e) ?_
  refine CW.seq ?_
  refine CW.seq ?_
  refine CW.region ?_
  refine RW.v rfl (V.field rfl rfl rfl rfl (by decide) rfl) ?_
  refine RW.v rfl (V.loadPrim (d := I a.term_) rfl rfl (.inl rfl) rfl rfl rfl) ?_
  refine RW.v rfl (V.field rfl rfl rfl rfl (by decide) rfl) ?_
  refine RW.v rfl (V.loadPrim (d := I b.term_) rfl rfl (.inl rfl) rfl rfl rfl) ?_
  refine RW.v rfl (V.cmpInt rfl rfl rfl rfl) ?_
  refine RW.nil ?_
  refine CW.le [(2, .obj b1 ((Entry.c a).map .r)), (3, .obj b2 ((Entry.c b).map .r)), (9, Bo (a.term_ != b.term_))] rfl (Le.c rfl <| Le.c rfl <| Le.c rfl <| Le.e) ?_
  refine CW.cond rfl (fun h3 => ?_) (fun h3 => ?_)
  · skip
    refine CW.seq ?_
    refine CW.region ?_
    refine RW.v rfl (V.as (d := Bo false) rfl rfl) ?_
    refine RW.nil ?_
    refine CW.le [(4, Bo false)] rfl (Le.c rfl <| Le.e) ?_
    refine CW.ret ?_
    exact Post.one (RV.b rfl (by simp_all [eqEntry])) (AOs.a rfl (AOs.a rfl AOs.e))
  · skip
    refine CW.skip ?_
    refine CW.le [(2, .obj b1 ((Entry.c a).map .r)), (3, .obj b2 ((Entry.c b).map .r))] rfl (Le.c rfl <| Le.c rfl <| Le.e) ?_
    refine CW.seq ?_
    refine CW.seq ?_
    refine CW.region ?_
    refine RW.v rfl (V.field rfl rfl rfl rfl (by decide) rfl) ?_
    refine RW.v rfl (V.loadPrim (d := I a.kind) rfl rfl (.inl rfl) rfl rfl rfl) ?_
    refine RW.v rfl (V.field rfl rfl rfl rfl (by decide) rfl) ?_
    refine RW.v rfl (V.loadPrim (d := I b.kind) rfl rfl (.inl rfl) rfl rfl rfl) ?_
    refine RW.v rfl (V.cmpInt rfl rfl rfl rfl) ?_
    refine RW.nil ?_
    refine CW.le [(2, .obj b1 ((Entry.c a).map .r)), (3, .obj b2 ((Entry.c b).map .r)), (14, Bo (a.kind != b.kind))] rfl (Le.c rfl <| Le.c rfl <| Le.c rfl <| Le.e) ?_
    refine CW.cond rfl (fun h4 => ?_) (fun h4 => ?_)
    · skip
      refine CW.seq ?_
      refine CW.region ?_
      refine RW.v rfl (V.as (d := Bo false) rfl rfl) ?_
      refine RW.nil ?_
      refine CW.le [(4, Bo false)] rfl (Le.c rfl <| Le.e) ?_
      refine CW.ret ?_
      exact Post.one (RV.b rfl (by simp_all [eqEntry])) (AOs.a rfl (AOs.a rfl AOs.e))
    · skip
      refine CW.skip ?_
      refine CW.le [(2, .obj b1 ((Entry.c a).map .r)), (3, .obj b2 ((Entry.c b).map .r))] rfl (Le.c rfl <| Le.c rfl <| Le.e) ?_
      refine CW.seq ?_
      refine CW.seq ?_
      refine CW.region ?_
      refine RW.v rfl (V.field rfl rfl rfl rfl (by decide) rfl) ?_
      refine RW.v rfl (V.loadPrim (d := S a.data) rfl rfl (.inl rfl) rfl rfl rfl) ?_
      refine RW.v rfl (V.field rfl rfl rfl rfl (by decide) rfl) ?_
      refine RW.v rfl (V.loadPrim (d := S b.data) rfl rfl (.inl rfl) rfl rfl rfl) ?_
      refine RW.v rfl (V.strCmp rfl rfl rfl rfl) ?_
      refine RW.nil ?_
      refine CW.le [(19, Bo (!(a.data.toList == b.data.toList)))] rfl (Le.c rfl <| Le.e) ?_
      refine CW.cond rfl (fun h5 => ?_) (fun h5 => ?_)
      · skip
        refine CW.seq ?_
        refine CW.region ?_
        refine RW.v rfl (V.as (d := Bo false) rfl rfl) ?_
        refine RW.nil ?_
        refine CW.le [(4, Bo false)] rfl (Le.c rfl <| Le.e) ?_
        refine CW.ret ?_
        exact Post.one (RV.b rfl (by simp_all [eqEntry])) (AOs.a rfl (AOs.a rfl AOs.e))
      · skip
        refine CW.skip ?_
        refine CW.le [] rfl (Le.e) ?_
        refine CW.seq ?_
        refine CW.region ?_
        refine RW.v rfl (V.as (d := Bo true) rfl rfl) ?_
        refine RW.nil ?_
        refine CW.le [(4, Bo true)] rfl (Le.c rfl <| Le.e) ?_
        refine CW.ret ?_
        exact Post.one (RV.b rfl (by simp_all [eqEntry])) (AOs.a rfl (AOs.a rfl AOs.e))
set_option maxHeartbeats 4000000 in
theorem laws_eqEntryS_fn (a : List Entry) (b : List Entry) : Eng.Fn E.P 14 [.one (.r (sl 3 Entry.c a)), .one (.r (sl 3 Entry.c b))] (.one (.one (.w (.v (.bool (eqS eqEntry a b)))))) [.one (.r (sl 3 Entry.c a)), .one (.r (sl 3 Entry.c b))] := by
  refine Eng.Fn.intro (E := E) (rvs := [.tmp 4]) Try.func14 rfl rfl rfl (by simp [outSlots, moved, rvSlot, sl]) ?_
  intro B g bo
  refine CW.bound (x := .tmp 0) (n := a.length) (AsT.r) (fun hl0 => ?_)
  refine CW.bound (x := .tmp 1) (n := b.length) (AsT.r) (fun hl1 => ?_)
  refine CW.le [(0, .r (sl 3 Entry.c a)), (1, .r (sl 3 Entry.c b))] rfl (Le.c rfl <| Le.c rfl <| Le.e) ?_
  refine CW.seq ?_
  refine CW.region ?_
  refine RW.v rfl (V.as (d := Bo false) rfl rfl) ?_
  refine RW.nil ?_
  refine CW.le [(0, .r (sl 3 Entry.c a)), (1, .r (sl 3 Entry.c b))] rfl (Le.c rfl <| Le.c rfl <| Le.e) ?_
  refine CW.seq ?_
  refine CW.seq ?_
  refine CW.region ?_
  refine RW.v rfl (V.mv (d := .r (sl 3 Entry.c a)) rfl rfl) ?_
  refine RW.v rfl (V.lenT (n := a.length) rfl rfl rfl .r) ?_
  refine RW.v rfl (V.mv (d := .r (sl 3 Entry.c b)) rfl rfl) ?_
  refine RW.v rfl (V.lenT (n := b.length) rfl rfl rfl .r) ?_
  refine RW.v rfl (V.cmpInt rfl rfl rfl rfl) ?_
  refine RW.nil ?_
  refine CW.le [(0, .r (sl 3 Entry.c a)), (1, .r (sl 3 Entry.c b)), (10, Bo ((a.length : Int) != (b.length : Int)))] rfl (Le.c rfl <| Le.c rfl <| Le.c rfl <| Le.e) ?_
  refine CW.cond rfl (fun h1 => ?_) (fun h1 => ?_)
  · skip
    refine CW.seq ?_
    refine CW.region ?_
    refine RW.v rfl (V.as (d := Bo false) rfl rfl) ?_
    refine RW.nil ?_
    refine CW.le [(4, Bo false)] rfl (Le.c rfl <| Le.e) ?_
    refine CW.ret ?_
    exact Post.one (RV.b rfl (by first | (simp_all [eqS, eqI, eqStr, eqB]; done) | exact (eqS_ne (by simp_all; omega)).symm)) (AOs.r (AOs.r AOs.e))
  · skip
    refine CW.skip ?_
    refine CW.le [(0, .r (sl 3 Entry.c a)), (1, .r (sl 3 Entry.c b))] rfl (Le.c rfl <| Le.c rfl <| Le.e) ?_
    refine CW.seq ?_
    refine CW.seq ?_
    refine CW.region ?_
    refine RW.v rfl (V.as (d := I 0) rfl rfl) ?_
    refine RW.nil ?_
    refine CW.le [(0, .r (sl 3 Entry.c a)), (1, .r (sl 3 Entry.c b)), (5, I 0)] rfl (Le.c rfl <| Le.c rfl <| Le.c rfl <| Le.e) ?_
    refine CW.block ?_
    refine CW.loopI 27 (fun (i : Nat) => [(0, .r (sl 3 Entry.c a)), (1, .r (sl 3 Entry.c b)), (5, I (i : Int))]) (fun (i : Nat) => i ≤ a.length ∧ eqS eqEntry (a.drop i) (b.drop i) = eqS eqEntry a b) (fun (i : Nat) => a.length - i) 0 rfl (Le.c rfl <| Le.c rfl <| Le.c rfl <| Le.e) ⟨by omega, by simp⟩ ?_
    rintro i ⟨hb, hr⟩
    have hlen : a.length = b.length := by simp at h1; omega
    refine CW.seq ?_
    refine CW.seq ?_
    refine CW.region ?_
    refine RW.v rfl (V.mv (d := I (i : Int)) rfl rfl) ?_
    refine RW.v rfl (V.mv (d := .r (sl 3 Entry.c a)) rfl rfl) ?_
    refine RW.v rfl (V.lenT (n := a.length) rfl rfl rfl .r) ?_
    refine RW.v rfl (V.cmpInt rfl rfl rfl rfl) ?_
    refine RW.nil ?_
    refine CW.le [(0, .r (sl 3 Entry.c a)), (1, .r (sl 3 Entry.c b)), (5, I (i : Int)), (14, Bo (decide ((i : Int) < (a.length : Int))))] rfl (Le.c rfl <| Le.c rfl <| Le.c rfl <| Le.c rfl <| Le.e) ?_
    refine CW.cond rfl (fun h2 => ?_) (fun h2 => ?_)
    · skip
      have hii : i < a.length := by have := h2; simp at this; first | exact this | (simp; omega)
      obtain ⟨ei, hei⟩ : ∃ e, a[i]? = some e := ⟨_, List.getElem?_eq_getElem hii⟩
      have hdi := drop_get hei
      have hib : i < b.length := by omega
      obtain ⟨eb, heb⟩ : ∃ e, b[i]? = some e := ⟨_, List.getElem?_eq_getElem hib⟩
      have hdb := drop_get heb
      refine CW.skip ?_
      refine CW.le [(0, .r (sl 3 Entry.c a)), (1, .r (sl 3 Entry.c b)), (5, I (i : Int))] rfl (Le.c rfl <| Le.c rfl <| Le.c rfl <| Le.e) ?_
      refine CW.seq ?_
      refine CW.block ?_
      refine CW.seq ?_
      refine CW.drawn (by kernel_rfl) ?_
      refine RQ.v rfl (V.mv (d := .r (sl 3 Entry.c a)) rfl rfl) ?_
      refine RQ.v rfl (V.mv (d := I (i : Int)) rfl rfl) ?_
      refine RQ.v rfl (V.indexS rfl rfl rfl rfl rfl rfl Entry.len hei) ?_
      refine RQ.v rfl (V.loadAggR rfl rfl rfl rfl (Nat.le_of_ble_eq_true rfl)) ?_
      refine RQ.v rfl (V.mv (d := .r (sl 3 Entry.c b)) rfl rfl) ?_
      refine RQ.v rfl (V.mv (d := I (i : Int)) rfl rfl) ?_
      refine RQ.v rfl (V.indexS rfl rfl rfl rfl rfl rfl Entry.len heb) ?_
      refine RQ.v rfl (V.loadAggR rfl rfl rfl rfl (Nat.le_of_ble_eq_true rfl)) ?_
      refine RQ.cons rfl (QOK.call (laws_eqEntry_fn ei eb) rfl (.cons (.agg (.cons (.r .r) (.cons (.r .r) (.cons (.r .r) (.nil))))) (.cons (.agg (.cons (.r .r) (.cons (.r .r) (.cons (.r .r) (.nil))))) (.nil))) ?_)
      refine RQ.v rfl (V.not rfl rfl) ?_
      refine RQ.nil ?_
      refine CW.le [(0, .r (sl 3 Entry.c a)), (1, .r (sl 3 Entry.c b)), (5, I (i : Int)), (26, Bo (!(eqEntry ei eb)))] rfl (Le.c rfl <| Le.c rfl <| Le.c rfl <| Le.c rfl <| Le.e) ?_
      refine CW.cond rfl (fun h3 => ?_) (fun h3 => ?_)
      · skip
        refine CW.seq ?_
        refine CW.region ?_
        refine RW.v rfl (V.as (d := Bo false) rfl rfl) ?_
        refine RW.nil ?_
        refine CW.le [(4, Bo false)] rfl (Le.c rfl <| Le.e) ?_
        refine CW.ret ?_
        exact Post.one (RV.b rfl (by first | (simp_all [eqS, eqI, eqStr, eqB]; done) | exact (eqS_ne (by simp_all; omega)).symm)) (AOs.r (AOs.r AOs.e))
      · skip
        refine CW.skip ?_
        refine CW.le [(0, .r (sl 3 Entry.c a)), (1, .r (sl 3 Entry.c b)), (5, I (i : Int))] rfl (Le.c rfl <| Le.c rfl <| Le.c rfl <| Le.e) ?_
        refine CW.region ?_
        refine RW.v rfl (V.mv (d := I (i : Int)) rfl rfl) ?_
        refine RW.v rfl (V.inc rfl rfl rfl hii hl0) ?_
        refine RW.v rfl (V.as (d := I ((i + 1 : Nat) : Int)) rfl rfl) ?_
        refine RW.nil ?_
        exact ⟨i + 1, by omega, ⟨by omega, by simp_all [eqS, eqI, eqStr, eqB]⟩, rfl, Le.c rfl <| Le.c rfl <| Le.c rfl <| Le.e⟩
    · skip
      have hii : a.length ≤ i := by have := h2; simp at this; first | exact this | (simp; omega)
      have hdi : a.drop i = [] := List.drop_eq_nil_of_le hii
      refine CW.exit ?_
      refine CW.le [] rfl (Le.e) ?_
      refine CW.seq ?_
      refine CW.region ?_
      refine RW.v rfl (V.as (d := Bo true) rfl rfl) ?_
      refine RW.nil ?_
      refine CW.le [(4, Bo true)] rfl (Le.c rfl <| Le.e) ?_
      refine CW.ret ?_
      exact Post.one (RV.b rfl (by rw [← hr, hdi, List.drop_eq_nil_of_le (show b.length ≤ i by omega)]; rfl)) (AOs.r (AOs.r AOs.e))
set_option maxHeartbeats 4000000 in
theorem laws_eqApplied_fn (a : Applied) (b : Applied) : Eng.Fn E.P 51 [.agg ((Applied.c a).map .r), .agg ((Applied.c b).map .r)] (.one (.one (.w (.v (.bool (eqApplied a b)))))) [.agg ((Applied.c a).map .r), .agg ((Applied.c b).map .r)] := by
  refine Eng.Fn.intro (E := E) (rvs := [.tmp 4]) Try.func51 rfl rfl rfl (by simp [outSlots, moved, rvSlot, sl]) ?_
  intro B g bo
  refine CW.le [(0, .agg ((Applied.c a).map .r)), (1, .agg ((Applied.c b).map .r))] rfl (Le.c rfl <| Le.c rfl <| Le.e) ?_
  refine CW.seq ?_
  refine CW.region ?_
  refine RW.box (ds := ((Applied.c a).map .r)) rfl rfl rfl fun b1 => ?_
  refine RW.box (ds := ((Applied.c b).map .r)) rfl rfl rfl fun b2 => ?_
  refine RW.v rfl (V.as (d := Bo false) rfl rfl) ?_
  refine RW.nil ?_
  refine CW.le [(2, .obj b1 ((Applied.c a).map .r)), (3, .obj b2 ((Applied.c b).map .r))] rfl (Le.c rfl <| Le.c rfl <| Le.e) ?_
  refine CW.seq ?_
  refine CW.seq ?_
  refine CW.region ?_
  refine RW.v rfl (V.field rfl rfl rfl rfl (by decide) rfl) ?_
  refine RW.v rfl (V.loadPrim (d := I a.node) rfl rfl (.inl rfl) rfl rfl rfl) ?_
  refine RW.v rfl (V.field rfl rfl rfl rfl (by decide) rfl) ?_
  refine RW.v rfl (V.loadPrim (d := I b.node) rfl rfl (.inl rfl) rfl rfl rfl) ?_
  refine RW.v rfl (V.cmpInt rfl rfl rfl rfl) ?_
  refine RW.nil ?_
  refine CW.le [(2, .obj b1 ((Applied.c a).map .r)), (3, .obj b2 ((Applied.c b).map .r)), (9, Bo (a.node != b.node))] rfl (Le.c rfl <| Le.c rfl <| Le.c rfl <| Le.e) ?_
  refine CW.cond rfl (fun h3 => ?_) (fun h3 => ?_)
  · skip
    refine CW.seq ?_
    refine CW.region ?_
    refine RW.v rfl (V.as (d := Bo false) rfl rfl) ?_
    refine RW.nil ?_
    refine CW.le [(4, Bo false)] rfl (Le.c rfl <| Le.e) ?_
    refine CW.ret ?_
    exact Post.one (RV.b rfl (by simp_all [eqApplied])) (AOs.a rfl (AOs.a rfl AOs.e))
  · skip
    refine CW.skip ?_
    refine CW.le [(2, .obj b1 ((Applied.c a).map .r)), (3, .obj b2 ((Applied.c b).map .r))] rfl (Le.c rfl <| Le.c rfl <| Le.e) ?_
    refine CW.seq ?_
    refine CW.seq ?_
    refine CW.region ?_
    refine RW.v rfl (V.field rfl rfl rfl rfl (by decide) rfl) ?_
    refine RW.v rfl (V.loadPrim (d := I a.term_) rfl rfl (.inl rfl) rfl rfl rfl) ?_
    refine RW.v rfl (V.field rfl rfl rfl rfl (by decide) rfl) ?_
    refine RW.v rfl (V.loadPrim (d := I b.term_) rfl rfl (.inl rfl) rfl rfl rfl) ?_
    refine RW.v rfl (V.cmpInt rfl rfl rfl rfl) ?_
    refine RW.nil ?_
    refine CW.le [(2, .obj b1 ((Applied.c a).map .r)), (3, .obj b2 ((Applied.c b).map .r)), (14, Bo (a.term_ != b.term_))] rfl (Le.c rfl <| Le.c rfl <| Le.c rfl <| Le.e) ?_
    refine CW.cond rfl (fun h4 => ?_) (fun h4 => ?_)
    · skip
      refine CW.seq ?_
      refine CW.region ?_
      refine RW.v rfl (V.as (d := Bo false) rfl rfl) ?_
      refine RW.nil ?_
      refine CW.le [(4, Bo false)] rfl (Le.c rfl <| Le.e) ?_
      refine CW.ret ?_
      exact Post.one (RV.b rfl (by simp_all [eqApplied])) (AOs.a rfl (AOs.a rfl AOs.e))
    · skip
      refine CW.skip ?_
      refine CW.le [(2, .obj b1 ((Applied.c a).map .r)), (3, .obj b2 ((Applied.c b).map .r))] rfl (Le.c rfl <| Le.c rfl <| Le.e) ?_
      refine CW.seq ?_
      refine CW.seq ?_
      refine CW.region ?_
      refine RW.v rfl (V.field rfl rfl rfl rfl (by decide) rfl) ?_
      refine RW.v rfl (V.loadPrim (d := I a.index) rfl rfl (.inl rfl) rfl rfl rfl) ?_
      refine RW.v rfl (V.field rfl rfl rfl rfl (by decide) rfl) ?_
      refine RW.v rfl (V.loadPrim (d := I b.index) rfl rfl (.inl rfl) rfl rfl rfl) ?_
      refine RW.v rfl (V.cmpInt rfl rfl rfl rfl) ?_
      refine RW.nil ?_
      refine CW.le [(2, .obj b1 ((Applied.c a).map .r)), (3, .obj b2 ((Applied.c b).map .r)), (19, Bo (a.index != b.index))] rfl (Le.c rfl <| Le.c rfl <| Le.c rfl <| Le.e) ?_
      refine CW.cond rfl (fun h5 => ?_) (fun h5 => ?_)
      · skip
        refine CW.seq ?_
        refine CW.region ?_
        refine RW.v rfl (V.as (d := Bo false) rfl rfl) ?_
        refine RW.nil ?_
        refine CW.le [(4, Bo false)] rfl (Le.c rfl <| Le.e) ?_
        refine CW.ret ?_
        exact Post.one (RV.b rfl (by simp_all [eqApplied])) (AOs.a rfl (AOs.a rfl AOs.e))
      · skip
        refine CW.skip ?_
        refine CW.le [(2, .obj b1 ((Applied.c a).map .r)), (3, .obj b2 ((Applied.c b).map .r))] rfl (Le.c rfl <| Le.c rfl <| Le.e) ?_
        refine CW.seq ?_
        refine CW.seq ?_
        refine CW.region ?_
        refine RW.v rfl (V.field rfl rfl rfl rfl (by decide) rfl) ?_
        refine RW.v rfl (V.loadAgg rfl rfl rfl rfl rfl (Nat.le_of_ble_eq_true rfl)) ?_
        refine RW.v rfl (V.field rfl rfl rfl rfl (by decide) rfl) ?_
        refine RW.v rfl (V.loadAgg rfl rfl rfl rfl rfl (Nat.le_of_ble_eq_true rfl)) ?_
        refine RW.call rfl (laws_eqEntry_fn a.entry b.entry) rfl (.cons (.agg (.cons (.r .r) (.cons (.r .r) (.cons (.r .r) (.nil))))) (.cons (.agg (.cons (.r .r) (.cons (.r .r) (.cons (.r .r) (.nil))))) (.nil))) fun g6 => ?_
        refine RW.v rfl (V.not rfl rfl) ?_
        refine RW.nil ?_
        refine CW.le [(25, Bo (!(eqEntry a.entry b.entry)))] rfl (Le.c rfl <| Le.e) ?_
        refine CW.cond rfl (fun h7 => ?_) (fun h7 => ?_)
        · skip
          refine CW.seq ?_
          refine CW.region ?_
          refine RW.v rfl (V.as (d := Bo false) rfl rfl) ?_
          refine RW.nil ?_
          refine CW.le [(4, Bo false)] rfl (Le.c rfl <| Le.e) ?_
          refine CW.ret ?_
          exact Post.one (RV.b rfl (by simp_all [eqApplied])) (AOs.a rfl (AOs.a rfl AOs.e))
        · skip
          refine CW.skip ?_
          refine CW.le [] rfl (Le.e) ?_
          refine CW.seq ?_
          refine CW.region ?_
          refine RW.v rfl (V.as (d := Bo true) rfl rfl) ?_
          refine RW.nil ?_
          refine CW.le [(4, Bo true)] rfl (Le.c rfl <| Le.e) ?_
          refine CW.ret ?_
          exact Post.one (RV.b rfl (by simp_all [eqApplied])) (AOs.a rfl (AOs.a rfl AOs.e))
set_option maxHeartbeats 4000000 in
theorem laws_eqAppliedS_fn (a : List Applied) (b : List Applied) : Eng.Fn E.P 15 [.one (.r (sl 6 Applied.c a)), .one (.r (sl 6 Applied.c b))] (.one (.one (.w (.v (.bool (eqS eqApplied a b)))))) [.one (.r (sl 6 Applied.c a)), .one (.r (sl 6 Applied.c b))] := by
  refine Eng.Fn.intro (E := E) (rvs := [.tmp 4]) Try.func15 rfl rfl rfl (by simp [outSlots, moved, rvSlot, sl]) ?_
  intro B g bo
  refine CW.bound (x := .tmp 0) (n := a.length) (AsT.r) (fun hl0 => ?_)
  refine CW.bound (x := .tmp 1) (n := b.length) (AsT.r) (fun hl1 => ?_)
  refine CW.le [(0, .r (sl 6 Applied.c a)), (1, .r (sl 6 Applied.c b))] rfl (Le.c rfl <| Le.c rfl <| Le.e) ?_
  refine CW.seq ?_
  refine CW.region ?_
  refine RW.v rfl (V.as (d := Bo false) rfl rfl) ?_
  refine RW.nil ?_
  refine CW.le [(0, .r (sl 6 Applied.c a)), (1, .r (sl 6 Applied.c b))] rfl (Le.c rfl <| Le.c rfl <| Le.e) ?_
  refine CW.seq ?_
  refine CW.seq ?_
  refine CW.region ?_
  refine RW.v rfl (V.mv (d := .r (sl 6 Applied.c a)) rfl rfl) ?_
  refine RW.v rfl (V.lenT (n := a.length) rfl rfl rfl .r) ?_
  refine RW.v rfl (V.mv (d := .r (sl 6 Applied.c b)) rfl rfl) ?_
  refine RW.v rfl (V.lenT (n := b.length) rfl rfl rfl .r) ?_
  refine RW.v rfl (V.cmpInt rfl rfl rfl rfl) ?_
  refine RW.nil ?_
  refine CW.le [(0, .r (sl 6 Applied.c a)), (1, .r (sl 6 Applied.c b)), (10, Bo ((a.length : Int) != (b.length : Int)))] rfl (Le.c rfl <| Le.c rfl <| Le.c rfl <| Le.e) ?_
  refine CW.cond rfl (fun h1 => ?_) (fun h1 => ?_)
  · skip
    refine CW.seq ?_
    refine CW.region ?_
    refine RW.v rfl (V.as (d := Bo false) rfl rfl) ?_
    refine RW.nil ?_
    refine CW.le [(4, Bo false)] rfl (Le.c rfl <| Le.e) ?_
    refine CW.ret ?_
    exact Post.one (RV.b rfl (by first | (simp_all [eqS, eqI, eqStr, eqB]; done) | exact (eqS_ne (by simp_all; omega)).symm)) (AOs.r (AOs.r AOs.e))
  · skip
    refine CW.skip ?_
    refine CW.le [(0, .r (sl 6 Applied.c a)), (1, .r (sl 6 Applied.c b))] rfl (Le.c rfl <| Le.c rfl <| Le.e) ?_
    refine CW.seq ?_
    refine CW.seq ?_
    refine CW.region ?_
    refine RW.v rfl (V.as (d := I 0) rfl rfl) ?_
    refine RW.nil ?_
    refine CW.le [(0, .r (sl 6 Applied.c a)), (1, .r (sl 6 Applied.c b)), (5, I 0)] rfl (Le.c rfl <| Le.c rfl <| Le.c rfl <| Le.e) ?_
    refine CW.block ?_
    refine CW.loopI 27 (fun (i : Nat) => [(0, .r (sl 6 Applied.c a)), (1, .r (sl 6 Applied.c b)), (5, I (i : Int))]) (fun (i : Nat) => i ≤ a.length ∧ eqS eqApplied (a.drop i) (b.drop i) = eqS eqApplied a b) (fun (i : Nat) => a.length - i) 0 rfl (Le.c rfl <| Le.c rfl <| Le.c rfl <| Le.e) ⟨by omega, by simp⟩ ?_
    rintro i ⟨hb, hr⟩
    have hlen : a.length = b.length := by simp at h1; omega
    refine CW.seq ?_
    refine CW.seq ?_
    refine CW.region ?_
    refine RW.v rfl (V.mv (d := I (i : Int)) rfl rfl) ?_
    refine RW.v rfl (V.mv (d := .r (sl 6 Applied.c a)) rfl rfl) ?_
    refine RW.v rfl (V.lenT (n := a.length) rfl rfl rfl .r) ?_
    refine RW.v rfl (V.cmpInt rfl rfl rfl rfl) ?_
    refine RW.nil ?_
    refine CW.le [(0, .r (sl 6 Applied.c a)), (1, .r (sl 6 Applied.c b)), (5, I (i : Int)), (14, Bo (decide ((i : Int) < (a.length : Int))))] rfl (Le.c rfl <| Le.c rfl <| Le.c rfl <| Le.c rfl <| Le.e) ?_
    refine CW.cond rfl (fun h2 => ?_) (fun h2 => ?_)
    · skip
      have hii : i < a.length := by have := h2; simp at this; first | exact this | (simp; omega)
      obtain ⟨ei, hei⟩ : ∃ e, a[i]? = some e := ⟨_, List.getElem?_eq_getElem hii⟩
      have hdi := drop_get hei
      have hib : i < b.length := by omega
      obtain ⟨eb, heb⟩ : ∃ e, b[i]? = some e := ⟨_, List.getElem?_eq_getElem hib⟩
      have hdb := drop_get heb
      refine CW.skip ?_
      refine CW.le [(0, .r (sl 6 Applied.c a)), (1, .r (sl 6 Applied.c b)), (5, I (i : Int))] rfl (Le.c rfl <| Le.c rfl <| Le.c rfl <| Le.e) ?_
      refine CW.seq ?_
      refine CW.block ?_
      refine CW.seq ?_
      refine CW.drawn (by kernel_rfl) ?_
      refine RQ.v rfl (V.mv (d := .r (sl 6 Applied.c a)) rfl rfl) ?_
      refine RQ.v rfl (V.mv (d := I (i : Int)) rfl rfl) ?_
      refine RQ.v rfl (V.indexS rfl rfl rfl rfl rfl rfl Applied.len hei) ?_
      refine RQ.v rfl (V.loadAggR rfl rfl rfl rfl (Nat.le_of_ble_eq_true rfl)) ?_
      refine RQ.v rfl (V.mv (d := .r (sl 6 Applied.c b)) rfl rfl) ?_
      refine RQ.v rfl (V.mv (d := I (i : Int)) rfl rfl) ?_
      refine RQ.v rfl (V.indexS rfl rfl rfl rfl rfl rfl Applied.len heb) ?_
      refine RQ.v rfl (V.loadAggR rfl rfl rfl rfl (Nat.le_of_ble_eq_true rfl)) ?_
      refine RQ.cons rfl (QOK.call (laws_eqApplied_fn ei eb) rfl (.cons (.agg (.cons (.r .r) (.cons (.r .r) (.cons (.r .r) (.cons (.r .r) (.cons (.r .r) (.cons (.r .r) (.nil)))))))) (.cons (.agg (.cons (.r .r) (.cons (.r .r) (.cons (.r .r) (.cons (.r .r) (.cons (.r .r) (.cons (.r .r) (.nil)))))))) (.nil))) ?_)
      refine RQ.v rfl (V.not rfl rfl) ?_
      refine RQ.nil ?_
      refine CW.le [(0, .r (sl 6 Applied.c a)), (1, .r (sl 6 Applied.c b)), (5, I (i : Int)), (26, Bo (!(eqApplied ei eb)))] rfl (Le.c rfl <| Le.c rfl <| Le.c rfl <| Le.c rfl <| Le.e) ?_
      refine CW.cond rfl (fun h3 => ?_) (fun h3 => ?_)
      · skip
        refine CW.seq ?_
        refine CW.region ?_
        refine RW.v rfl (V.as (d := Bo false) rfl rfl) ?_
        refine RW.nil ?_
        refine CW.le [(4, Bo false)] rfl (Le.c rfl <| Le.e) ?_
        refine CW.ret ?_
        exact Post.one (RV.b rfl (by first | (simp_all [eqS, eqI, eqStr, eqB]; done) | exact (eqS_ne (by simp_all; omega)).symm)) (AOs.r (AOs.r AOs.e))
      · skip
        refine CW.skip ?_
        refine CW.le [(0, .r (sl 6 Applied.c a)), (1, .r (sl 6 Applied.c b)), (5, I (i : Int))] rfl (Le.c rfl <| Le.c rfl <| Le.c rfl <| Le.e) ?_
        refine CW.region ?_
        refine RW.v rfl (V.mv (d := I (i : Int)) rfl rfl) ?_
        refine RW.v rfl (V.inc rfl rfl rfl hii hl0) ?_
        refine RW.v rfl (V.as (d := I ((i + 1 : Nat) : Int)) rfl rfl) ?_
        refine RW.nil ?_
        exact ⟨i + 1, by omega, ⟨by omega, by simp_all [eqS, eqI, eqStr, eqB]⟩, rfl, Le.c rfl <| Le.c rfl <| Le.c rfl <| Le.e⟩
    · skip
      have hii : a.length ≤ i := by have := h2; simp at this; first | exact this | (simp; omega)
      have hdi : a.drop i = [] := List.drop_eq_nil_of_le hii
      refine CW.exit ?_
      refine CW.le [] rfl (Le.e) ?_
      refine CW.seq ?_
      refine CW.region ?_
      refine RW.v rfl (V.as (d := Bo true) rfl rfl) ?_
      refine RW.nil ?_
      refine CW.le [(4, Bo true)] rfl (Le.c rfl <| Le.e) ?_
      refine CW.ret ?_
      exact Post.one (RV.b rfl (by rw [← hr, hdi, List.drop_eq_nil_of_le (show b.length ≤ i by omega)]; rfl)) (AOs.r (AOs.r AOs.e))
set_option maxHeartbeats 4000000 in
theorem laws_markText_fn (k : Int) (hk : k ≤ 9223372036854775807) : Eng.Fn E.P 52 [.one (.r (.v (.int .i64 k)))] (.one (.one (.w (.v (.string (mtext k)))))) [.one (.r (.v (.int .i64 k)))] := by
  refine Eng.Fn.intro (E := E) (rvs := [.tmp 2]) Try.func52 rfl rfl rfl (by simp [outSlots, moved, rvSlot, sl]) ?_
  intro B g bo
  refine CW.le [(0, I k)] rfl (Le.c rfl <| Le.e) ?_
  refine CW.seq ?_
  refine CW.region ?_
  refine RW.v rfl (V.as (d := S (⟨#[]⟩ : ByteArray)) rfl rfl) ?_
  refine RW.nil ?_
  refine CW.le [(0, I k)] rfl (Le.c rfl <| Le.e) ?_
  refine CW.seq ?_
  refine CW.seq ?_
  refine CW.region ?_
  refine RW.v rfl (V.mv (d := I k) rfl rfl) ?_
  refine RW.v rfl (V.cmpInt rfl rfl rfl rfl) ?_
  refine RW.nil ?_
  refine CW.le [(0, I k), (5, Bo (decide (k ≤ 0)))] rfl (Le.c rfl <| Le.c rfl <| Le.e) ?_
  refine CW.cond rfl (fun h1 => ?_) (fun h1 => ?_)
  · skip
    refine CW.seq ?_
    refine CW.region ?_
    refine RW.v rfl (V.as (d := S (⟨#[109, 48]⟩ : ByteArray)) rfl rfl) ?_
    refine RW.nil ?_
    refine CW.le [(2, S (⟨#[109, 48]⟩ : ByteArray))] rfl (Le.c rfl <| Le.e) ?_
    refine CW.ret ?_
    exact Post.one (RV.s rfl (by simp_all [mtext])) (AOs.r AOs.e)
  · skip
    refine CW.skip ?_
    refine CW.le [(0, I k)] rfl (Le.c rfl <| Le.e) ?_
    refine CW.seq ?_
    refine CW.region ?_
    refine RW.v rfl (V.as (d := S (⟨#[]⟩ : ByteArray)) rfl rfl) ?_
    refine RW.nil ?_
    refine CW.le [(0, I k), (3, S (⟨#[]⟩ : ByteArray))] rfl (Le.c rfl <| Le.c rfl <| Le.e) ?_
    refine CW.seq ?_
    refine CW.block ?_
    refine CW.loopI 20 (fun (x : Int × ByteArray) => match x with | (n, out) => [(0, I n), (3, S out)]) (fun (x : Int × ByteArray) => match x with | (n, out) => 0 ≤ n ∧ out.size ≤ 60 ∧ n * 10 ^ out.size ≤ 9223372036854775807 ∧ dgs n.toNat out = dgs k.toNat ⟨#[]⟩) (fun (x : Int × ByteArray) => match x with | (n, out) => n.toNat) (_, _) rfl (Le.c rfl <| Le.c rfl <| Le.e) ⟨by simp at h1; omega, by decide, by show k * 10 ^ 0 ≤ _; omega, rfl⟩ ?_
    rintro ⟨n, out⟩ ⟨h0, hs, hp, hr⟩
    refine CW.seq ?_
    refine CW.seq ?_
    refine CW.region ?_
    refine RW.v rfl (V.mv (d := I n) rfl rfl) ?_
    refine RW.v rfl (V.cmpInt rfl rfl rfl rfl) ?_
    refine RW.nil ?_
    refine CW.le [(0, I n), (3, S out), (7, Bo (decide (n > 0)))] rfl (Le.c rfl <| Le.c rfl <| Le.c rfl <| Le.e) ?_
    refine CW.cond rfl (fun h2 => ?_) (fun h2 => ?_)
    · skip
      refine CW.skip ?_
      refine CW.le [(0, I n), (3, S out)] rfl (Le.c rfl <| Le.c rfl <| Le.e) ?_
      refine CW.block ?_
      refine CW.seq ?_
      refine CW.region ?_
      refine RW.v rfl (V.mv (d := I n) rfl rfl) ?_
      refine RW.v rfl (V.rem rfl rfl rfl (by decide)) ?_
      refine RW.v rfl (V.arInt rfl rfl rfl rfl) ?_
      refine RW.v rfl (V.convInt (k := .u8) (k' := .i64) rfl (by kernel_rfl) (by kernel_rfl) rfl) ?_
      refine RW.build1c (c := cU) (v := (IntKind.u8.wrap (IntKind.i64.wrap (48 + (Int.tmod n 10))))) (u := .v (.int .u8 (IntKind.u8.wrap (IntKind.i64.wrap (48 + (Int.tmod n 10)))))) rfl rfl rfl rfl rfl rfl (.inl rfl) rfl rfl fun X3 => ?_
      refine RW.v rfl (V.bytesStr (l := [(IntKind.u8.wrap (IntKind.i64.wrap (48 + (Int.tmod n 10))))]) rfl rfl rfl (by kernel_rfl) (by kernel_rfl) (.al rfl rfl nofun)) ?_
      refine RW.v rfl (V.mv (d := S out) rfl rfl) ?_
      refine RW.v rfl (V.cat rfl rfl rfl (by simp only [bytesOf_one, maxLen]; first | omega | (show 1 + out.size ≤ _; omega))) ?_
      refine RW.v rfl (V.as (d := S ((bytesOf ([(IntKind.u8.wrap (IntKind.i64.wrap (48 + (Int.tmod n 10))))])) ++ out)) rfl rfl) ?_
      refine RW.nil ?_
      refine CW.le [(0, I n), (3, S ((bytesOf ([(IntKind.u8.wrap (IntKind.i64.wrap (48 + (Int.tmod n 10))))])) ++ out))] rfl (Le.c rfl <| Le.c rfl <| Le.e) ?_
      refine CW.region ?_
      refine RW.v rfl (V.mv (d := I n) rfl rfl) ?_
      refine RW.v rfl (V.quo rfl rfl rfl (by decide)) ?_
      refine RW.v rfl (V.as (d := I (IntKind.i64.wrap (Int.tdiv n 10))) rfl rfl) ?_
      refine RW.nil ?_
      exact ⟨(_, _), by have := mt_dec h0 hp h2; simp only []; omega, mt_step h0 hp hr h2, rfl, Le.c rfl <| Le.c rfl <| Le.e⟩
    · skip
      refine CW.exit ?_
      refine CW.le [(3, S out)] rfl (Le.c rfl <| Le.e) ?_
      refine CW.seq ?_
      refine CW.region ?_
      refine RW.v rfl (V.mv (d := S out) rfl rfl) ?_
      refine RW.v rfl (V.cat rfl rfl rfl (by simp only [bytesOf_one, maxLen]; first | omega | (show 1 + out.size ≤ _; omega))) ?_
      refine RW.v rfl (V.as (d := S ((⟨#[109]⟩ : ByteArray) ++ out)) rfl rfl) ?_
      refine RW.nil ?_
      refine CW.le [(2, S ((⟨#[109]⟩ : ByteArray) ++ out))] rfl (Le.c rfl <| Le.e) ?_
      refine CW.ret ?_
      exact Post.one (RV.s rfl (by rw [mtext_dgs (by simpa using h1), ← hr, dgs, dif_pos (by simp at h2; omega)])) (AOs.r AOs.e)
set_option maxHeartbeats 4000000 in
theorem laws_markAppliedS_fn (a : List Applied) (k : Int) (hk : k ≤ 9223372036854775807) : Eng.Fn E.P 16 [.one (.w (sl 6 Applied.c a)), .one (.r (.v (.int .i64 k)))] (.one (.one (.w (.v (.int .i64 ((mkL mkEApplied a k).2)))))) [.one (.w (sl 6 Applied.c ((mkL mkEApplied a k).1))), .one (.r (.v (.int .i64 k)))] := by
  refine Eng.Fn.intro (E := E) (rvs := [.tmp 4]) Try.func16 rfl rfl rfl (by simp [outSlots, moved, rvSlot, sl]) ?_
  intro B g bo
  refine CW.bound (x := .tmp 0) (n := a.length) (AsT.al rfl rfl nofun) (fun hl0 => ?_)
  refine CW.le [(0, .w (sl 6 Applied.c a) (g 0 0)), (1, I k)] rfl (Le.c rfl <| Le.c rfl <| Le.e) ?_
  have hl0b : a.length ≤ maxLen := hl0
  refine CW.seq ?_
  refine CW.region ?_
  refine RW.v rfl (V.as (d := I 0) rfl rfl) ?_
  refine RW.nil ?_
  refine CW.le [(0, .w (sl 6 Applied.c a) (g 0 0)), (1, I k)] rfl (Le.c rfl <| Le.c rfl <| Le.e) ?_
  refine CW.seq ?_
  refine CW.seq ?_
  refine CW.region ?_
  refine RW.v rfl (V.as (d := I 0) rfl rfl) ?_
  refine RW.nil ?_
  refine CW.le [(0, .w (sl 6 Applied.c a) (g 0 0)), (1, I k), (5, I 0)] rfl (Le.c rfl <| Le.c rfl <| Le.c rfl <| Le.e) ?_
  refine CW.block ?_
  refine CW.loopI 59 (fun (x : Nat × Int × List Applied) => match x with | (i, l, b) => [(0, .w (sl 6 Applied.c b) (g 0 0)), (1, I l), (5, I (i : Int))]) (fun (x : Nat × Int × List Applied) => match x with | (i, l, b) => i ≤ b.length ∧ l ≤ 9223372036854775807 ∧ b.length = a.length ∧ b.drop i = a.drop i ∧ (b.take i ++ (mkL mkEApplied (a.drop i) l).1, (mkL mkEApplied (a.drop i) l).2) = mkL mkEApplied a k) (fun (x : Nat × Int × List Applied) => match x with | (i, l, b) => a.length - i) (0, _, _) rfl (Le.c rfl <| Le.c rfl <| Le.c rfl <| Le.e) ⟨by omega, hk, rfl, rfl, by simp⟩ ?_
  rintro ⟨i, l, b⟩ ⟨hb, hlk, hlen, hdr, hr⟩
  refine CW.seq ?_
  refine CW.seq ?_
  refine CW.region ?_
  refine RW.v rfl (V.mv (d := I (i : Int)) rfl rfl) ?_
  refine RW.v rfl (V.mv (d := .al 0 none 6 b.length (g 0 0) 0) rfl rfl) ?_
  refine RW.v rfl (V.lenT (n := b.length) rfl rfl rfl (.al rfl rfl nofun)) ?_
  refine RW.v rfl (V.cmpInt rfl rfl rfl rfl) ?_
  refine RW.nil ?_
  refine CW.le [(0, .w (sl 6 Applied.c b) (g 0 0)), (1, I l), (5, I (i : Int)), (9, Bo (decide ((i : Int) < (b.length : Int))))] rfl (Le.c rfl <| Le.c rfl <| Le.c rfl <| Le.c rfl <| Le.e) ?_
  refine CW.cond rfl (fun h1 => ?_) (fun h1 => ?_)
  · skip
    have hii : i < b.length := by have := h1; simp at this; first | exact this | (simp; omega)
    obtain ⟨ei, hei⟩ : ∃ e, b[i]? = some e := ⟨_, List.getElem?_eq_getElem hii⟩
    have hdi := drop_get hei
    refine CW.skip ?_
    refine CW.le [(0, .w (sl 6 Applied.c b) (g 0 0)), (1, I l), (5, I (i : Int))] rfl (Le.c rfl <| Le.c rfl <| Le.c rfl <| Le.e) ?_
    refine CW.seq ?_
    refine CW.block ?_
    refine CW.seq ?_
    refine CW.region ?_
    refine RW.v rfl (V.mv (d := .al 0 none 6 b.length (g 0 0) 0) rfl rfl) ?_
    refine RW.v rfl (V.mv (d := I (i : Int)) rfl rfl) ?_
    refine RW.v rfl (V.mv (d := I l) rfl rfl) ?_
    refine RW.v rfl (V.indexW rfl rfl rfl rfl rfl rfl rfl (by first | omega | (simp; omega))) ?_
    refine RW.v rfl (V.fieldE rfl rfl rfl rfl (by decide) rfl) ?_
    refine RW.storeF (m := i) (off := 0) (v := ei) (v' := (⟨l, ei.term_, ei.index, ei.entry⟩ : Applied)) (u := .v (.int .i64 l)) (c := Applied.c) rfl rfl rfl rfl rfl rfl rfl (.inl rfl) Applied.len hei (by decide) rfl rfl ?_
    refine RW.nil ?_
    refine CW.le [(0, .w (sl 6 Applied.c (b.set i (⟨l, ei.term_, ei.index, ei.entry⟩ : Applied))) (g 0 0)), (1, I l), (5, I (i : Int))] rfl (Le.c rfl <| Le.c rfl <| Le.c rfl <| Le.e) ?_
    refine CW.seq ?_
    refine CW.region ?_
    refine RW.v rfl (V.mv (d := I l) rfl rfl) ?_
    refine RW.v rfl (V.arInt rfl rfl rfl rfl) ?_
    refine RW.v rfl (V.as (d := I (IntKind.i64.wrap (l + 1))) rfl rfl) ?_
    refine RW.nil ?_
    refine CW.le [(0, .w (sl 6 Applied.c (b.set i (⟨l, ei.term_, ei.index, ei.entry⟩ : Applied))) (g 0 0)), (1, I (IntKind.i64.wrap (l + 1))), (5, I (i : Int))] rfl (Le.c rfl <| Le.c rfl <| Le.c rfl <| Le.e) ?_
    refine CW.seq ?_
    refine CW.region ?_
    refine RW.v rfl (V.mv (d := .al 0 none 6 ((b.set i (⟨l, ei.term_, ei.index, ei.entry⟩ : Applied)).length) (g 0 0) 0) rfl rfl) ?_
    refine RW.v rfl (V.mv (d := I (i : Int)) rfl rfl) ?_
    refine RW.v rfl (V.mv (d := I (IntKind.i64.wrap (l + 1))) rfl rfl) ?_
    refine RW.v rfl (V.indexW rfl rfl rfl rfl rfl rfl rfl (by first | omega | (simp; omega))) ?_
    refine RW.v rfl (V.fieldE rfl rfl rfl rfl (by decide) rfl) ?_
    refine RW.storeF (m := i) (off := 1) (v := (⟨l, ei.term_, ei.index, ei.entry⟩ : Applied)) (v' := (⟨l, (IntKind.i64.wrap (l + 1)), ei.index, ei.entry⟩ : Applied)) (u := .v (.int .i64 (IntKind.i64.wrap (l + 1)))) (c := Applied.c) rfl rfl rfl rfl rfl rfl rfl (.inl rfl) Applied.len (List.getElem?_set_self (by first | omega | (simp; omega))) (by decide) rfl rfl ?_
    refine RW.nil ?_
    refine CW.le [(0, .w (sl 6 Applied.c ((b.set i (⟨l, ei.term_, ei.index, ei.entry⟩ : Applied)).set i (⟨l, (IntKind.i64.wrap (l + 1)), ei.index, ei.entry⟩ : Applied))) (g 0 0)), (1, I (IntKind.i64.wrap (l + 1))), (5, I (i : Int))] rfl (Le.c rfl <| Le.c rfl <| Le.c rfl <| Le.e) ?_
    refine CW.seq ?_
    refine CW.region ?_
    refine RW.v rfl (V.mv (d := I (IntKind.i64.wrap (l + 1))) rfl rfl) ?_
    refine RW.v rfl (V.arInt rfl rfl rfl rfl) ?_
    refine RW.v rfl (V.as (d := I (IntKind.i64.wrap ((IntKind.i64.wrap (l + 1)) + 1))) rfl rfl) ?_
    refine RW.nil ?_
    refine CW.le [(0, .w (sl 6 Applied.c ((b.set i (⟨l, ei.term_, ei.index, ei.entry⟩ : Applied)).set i (⟨l, (IntKind.i64.wrap (l + 1)), ei.index, ei.entry⟩ : Applied))) (g 0 0)), (1, I (IntKind.i64.wrap ((IntKind.i64.wrap (l + 1)) + 1))), (5, I (i : Int))] rfl (Le.c rfl <| Le.c rfl <| Le.c rfl <| Le.e) ?_
    refine CW.seq ?_
    refine CW.region ?_
    refine RW.v rfl (V.mv (d := .al 0 none 6 (((b.set i (⟨l, ei.term_, ei.index, ei.entry⟩ : Applied)).set i (⟨l, (IntKind.i64.wrap (l + 1)), ei.index, ei.entry⟩ : Applied)).length) (g 0 0) 0) rfl rfl) ?_
    refine RW.v rfl (V.mv (d := I (i : Int)) rfl rfl) ?_
    refine RW.v rfl (V.mv (d := I (IntKind.i64.wrap ((IntKind.i64.wrap (l + 1)) + 1))) rfl rfl) ?_
    refine RW.v rfl (V.indexW rfl rfl rfl rfl rfl rfl rfl (by first | omega | (simp; omega))) ?_
    refine RW.v rfl (V.fieldE rfl rfl rfl rfl (by decide) rfl) ?_
    refine RW.storeF (m := i) (off := 2) (v := (⟨l, (IntKind.i64.wrap (l + 1)), ei.index, ei.entry⟩ : Applied)) (v' := (⟨l, (IntKind.i64.wrap (l + 1)), (IntKind.i64.wrap ((IntKind.i64.wrap (l + 1)) + 1)), ei.entry⟩ : Applied)) (u := .v (.int .i64 (IntKind.i64.wrap ((IntKind.i64.wrap (l + 1)) + 1)))) (c := Applied.c) rfl rfl rfl rfl rfl rfl rfl (.inl rfl) Applied.len (List.getElem?_set_self (by first | omega | (simp; omega))) (by decide) rfl rfl ?_
    refine RW.nil ?_
    refine CW.le [(0, .w (sl 6 Applied.c (((b.set i (⟨l, ei.term_, ei.index, ei.entry⟩ : Applied)).set i (⟨l, (IntKind.i64.wrap (l + 1)), ei.index, ei.entry⟩ : Applied)).set i (⟨l, (IntKind.i64.wrap (l + 1)), (IntKind.i64.wrap ((IntKind.i64.wrap (l + 1)) + 1)), ei.entry⟩ : Applied))) (g 0 0)), (1, I (IntKind.i64.wrap ((IntKind.i64.wrap (l + 1)) + 1))), (5, I (i : Int))] rfl (Le.c rfl <| Le.c rfl <| Le.c rfl <| Le.e) ?_
    refine CW.seq ?_
    refine CW.region ?_
    refine RW.v rfl (V.mv (d := I (IntKind.i64.wrap ((IntKind.i64.wrap (l + 1)) + 1))) rfl rfl) ?_
    refine RW.v rfl (V.arInt rfl rfl rfl rfl) ?_
    refine RW.v rfl (V.as (d := I (IntKind.i64.wrap ((IntKind.i64.wrap ((IntKind.i64.wrap (l + 1)) + 1)) + 1))) rfl rfl) ?_
    refine RW.nil ?_
    refine CW.le [(0, .w (sl 6 Applied.c (((b.set i (⟨l, ei.term_, ei.index, ei.entry⟩ : Applied)).set i (⟨l, (IntKind.i64.wrap (l + 1)), ei.index, ei.entry⟩ : Applied)).set i (⟨l, (IntKind.i64.wrap (l + 1)), (IntKind.i64.wrap ((IntKind.i64.wrap (l + 1)) + 1)), ei.entry⟩ : Applied))) (g 0 0)), (1, I (IntKind.i64.wrap ((IntKind.i64.wrap ((IntKind.i64.wrap (l + 1)) + 1)) + 1))), (5, I (i : Int))] rfl (Le.c rfl <| Le.c rfl <| Le.c rfl <| Le.e) ?_
    refine CW.seq ?_
    refine CW.region ?_
    refine RW.v rfl (V.mv (d := .al 0 none 6 ((((b.set i (⟨l, ei.term_, ei.index, ei.entry⟩ : Applied)).set i (⟨l, (IntKind.i64.wrap (l + 1)), ei.index, ei.entry⟩ : Applied)).set i (⟨l, (IntKind.i64.wrap (l + 1)), (IntKind.i64.wrap ((IntKind.i64.wrap (l + 1)) + 1)), ei.entry⟩ : Applied)).length) (g 0 0) 0) rfl rfl) ?_
    refine RW.v rfl (V.mv (d := I (i : Int)) rfl rfl) ?_
    refine RW.v rfl (V.mv (d := I (IntKind.i64.wrap ((IntKind.i64.wrap ((IntKind.i64.wrap (l + 1)) + 1)) + 1))) rfl rfl) ?_
    refine RW.v rfl (V.indexW rfl rfl rfl rfl rfl rfl rfl (by first | omega | (simp; omega))) ?_
    refine RW.v rfl (V.fieldE rfl rfl rfl rfl (by decide) rfl) ?_
    refine RW.v rfl (V.fieldE rfl rfl rfl rfl (by decide) rfl) ?_
    refine RW.storeF (m := i) (off := 3) (v := (⟨l, (IntKind.i64.wrap (l + 1)), (IntKind.i64.wrap ((IntKind.i64.wrap (l + 1)) + 1)), ei.entry⟩ : Applied)) (v' := (⟨l, (IntKind.i64.wrap (l + 1)), (IntKind.i64.wrap ((IntKind.i64.wrap (l + 1)) + 1)), (⟨(IntKind.i64.wrap ((IntKind.i64.wrap ((IntKind.i64.wrap (l + 1)) + 1)) + 1)), ei.entry.kind, ei.entry.data⟩ : Entry)⟩ : Applied)) (u := .v (.int .i64 (IntKind.i64.wrap ((IntKind.i64.wrap ((IntKind.i64.wrap (l + 1)) + 1)) + 1)))) (c := Applied.c) rfl rfl rfl rfl rfl rfl rfl (.inl rfl) Applied.len (List.getElem?_set_self (by first | omega | (simp; omega))) (by decide) rfl rfl ?_
    refine RW.nil ?_
    refine CW.le [(0, .w (sl 6 Applied.c ((((b.set i (⟨l, ei.term_, ei.index, ei.entry⟩ : Applied)).set i (⟨l, (IntKind.i64.wrap (l + 1)), ei.index, ei.entry⟩ : Applied)).set i (⟨l, (IntKind.i64.wrap (l + 1)), (IntKind.i64.wrap ((IntKind.i64.wrap (l + 1)) + 1)), ei.entry⟩ : Applied)).set i (⟨l, (IntKind.i64.wrap (l + 1)), (IntKind.i64.wrap ((IntKind.i64.wrap (l + 1)) + 1)), (⟨(IntKind.i64.wrap ((IntKind.i64.wrap ((IntKind.i64.wrap (l + 1)) + 1)) + 1)), ei.entry.kind, ei.entry.data⟩ : Entry)⟩ : Applied))) (g 0 0)), (1, I (IntKind.i64.wrap ((IntKind.i64.wrap ((IntKind.i64.wrap (l + 1)) + 1)) + 1))), (5, I (i : Int))] rfl (Le.c rfl <| Le.c rfl <| Le.c rfl <| Le.e) ?_
    refine CW.seq ?_
    refine CW.region ?_
    refine RW.v rfl (V.mv (d := I (IntKind.i64.wrap ((IntKind.i64.wrap ((IntKind.i64.wrap (l + 1)) + 1)) + 1))) rfl rfl) ?_
    refine RW.v rfl (V.arInt rfl rfl rfl rfl) ?_
    refine RW.v rfl (V.as (d := I (IntKind.i64.wrap ((IntKind.i64.wrap ((IntKind.i64.wrap ((IntKind.i64.wrap (l + 1)) + 1)) + 1)) + 1))) rfl rfl) ?_
    refine RW.nil ?_
    refine CW.le [(0, .w (sl 6 Applied.c ((((b.set i (⟨l, ei.term_, ei.index, ei.entry⟩ : Applied)).set i (⟨l, (IntKind.i64.wrap (l + 1)), ei.index, ei.entry⟩ : Applied)).set i (⟨l, (IntKind.i64.wrap (l + 1)), (IntKind.i64.wrap ((IntKind.i64.wrap (l + 1)) + 1)), ei.entry⟩ : Applied)).set i (⟨l, (IntKind.i64.wrap (l + 1)), (IntKind.i64.wrap ((IntKind.i64.wrap (l + 1)) + 1)), (⟨(IntKind.i64.wrap ((IntKind.i64.wrap ((IntKind.i64.wrap (l + 1)) + 1)) + 1)), ei.entry.kind, ei.entry.data⟩ : Entry)⟩ : Applied))) (g 0 0)), (1, I (IntKind.i64.wrap ((IntKind.i64.wrap ((IntKind.i64.wrap ((IntKind.i64.wrap (l + 1)) + 1)) + 1)) + 1))), (5, I (i : Int))] rfl (Le.c rfl <| Le.c rfl <| Le.c rfl <| Le.e) ?_
    refine CW.seq ?_
    refine CW.region ?_
    refine RW.v rfl (V.mv (d := .al 0 none 6 (((((b.set i (⟨l, ei.term_, ei.index, ei.entry⟩ : Applied)).set i (⟨l, (IntKind.i64.wrap (l + 1)), ei.index, ei.entry⟩ : Applied)).set i (⟨l, (IntKind.i64.wrap (l + 1)), (IntKind.i64.wrap ((IntKind.i64.wrap (l + 1)) + 1)), ei.entry⟩ : Applied)).set i (⟨l, (IntKind.i64.wrap (l + 1)), (IntKind.i64.wrap ((IntKind.i64.wrap (l + 1)) + 1)), (⟨(IntKind.i64.wrap ((IntKind.i64.wrap ((IntKind.i64.wrap (l + 1)) + 1)) + 1)), ei.entry.kind, ei.entry.data⟩ : Entry)⟩ : Applied)).length) (g 0 0) 0) rfl rfl) ?_
    refine RW.v rfl (V.mv (d := I (i : Int)) rfl rfl) ?_
    refine RW.v rfl (V.mv (d := I (IntKind.i64.wrap ((IntKind.i64.wrap ((IntKind.i64.wrap ((IntKind.i64.wrap (l + 1)) + 1)) + 1)) + 1))) rfl rfl) ?_
    refine RW.v rfl (V.indexW rfl rfl rfl rfl rfl rfl rfl (by first | omega | (simp; omega))) ?_
    refine RW.v rfl (V.fieldE rfl rfl rfl rfl (by decide) rfl) ?_
    refine RW.v rfl (V.fieldE rfl rfl rfl rfl (by decide) rfl) ?_
    refine RW.storeF (m := i) (off := 4) (v := (⟨l, (IntKind.i64.wrap (l + 1)), (IntKind.i64.wrap ((IntKind.i64.wrap (l + 1)) + 1)), (⟨(IntKind.i64.wrap ((IntKind.i64.wrap ((IntKind.i64.wrap (l + 1)) + 1)) + 1)), ei.entry.kind, ei.entry.data⟩ : Entry)⟩ : Applied)) (v' := (⟨l, (IntKind.i64.wrap (l + 1)), (IntKind.i64.wrap ((IntKind.i64.wrap (l + 1)) + 1)), (⟨(IntKind.i64.wrap ((IntKind.i64.wrap ((IntKind.i64.wrap (l + 1)) + 1)) + 1)), (IntKind.i64.wrap ((IntKind.i64.wrap ((IntKind.i64.wrap ((IntKind.i64.wrap (l + 1)) + 1)) + 1)) + 1)), ei.entry.data⟩ : Entry)⟩ : Applied)) (u := .v (.int .i64 (IntKind.i64.wrap ((IntKind.i64.wrap ((IntKind.i64.wrap ((IntKind.i64.wrap (l + 1)) + 1)) + 1)) + 1)))) (c := Applied.c) rfl rfl rfl rfl rfl rfl rfl (.inl rfl) Applied.len (List.getElem?_set_self (by first | omega | (simp; omega))) (by decide) rfl rfl ?_
    refine RW.nil ?_
    refine CW.le [(0, .w (sl 6 Applied.c (((((b.set i (⟨l, ei.term_, ei.index, ei.entry⟩ : Applied)).set i (⟨l, (IntKind.i64.wrap (l + 1)), ei.index, ei.entry⟩ : Applied)).set i (⟨l, (IntKind.i64.wrap (l + 1)), (IntKind.i64.wrap ((IntKind.i64.wrap (l + 1)) + 1)), ei.entry⟩ : Applied)).set i (⟨l, (IntKind.i64.wrap (l + 1)), (IntKind.i64.wrap ((IntKind.i64.wrap (l + 1)) + 1)), (⟨(IntKind.i64.wrap ((IntKind.i64.wrap ((IntKind.i64.wrap (l + 1)) + 1)) + 1)), ei.entry.kind, ei.entry.data⟩ : Entry)⟩ : Applied)).set i (⟨l, (IntKind.i64.wrap (l + 1)), (IntKind.i64.wrap ((IntKind.i64.wrap (l + 1)) + 1)), (⟨(IntKind.i64.wrap ((IntKind.i64.wrap ((IntKind.i64.wrap (l + 1)) + 1)) + 1)), (IntKind.i64.wrap ((IntKind.i64.wrap ((IntKind.i64.wrap ((IntKind.i64.wrap (l + 1)) + 1)) + 1)) + 1)), ei.entry.data⟩ : Entry)⟩ : Applied))) (g 0 0)), (1, I (IntKind.i64.wrap ((IntKind.i64.wrap ((IntKind.i64.wrap ((IntKind.i64.wrap (l + 1)) + 1)) + 1)) + 1))), (5, I (i : Int))] rfl (Le.c rfl <| Le.c rfl <| Le.c rfl <| Le.e) ?_
    refine CW.seq ?_
    refine CW.region ?_
    refine RW.v rfl (V.mv (d := I (IntKind.i64.wrap ((IntKind.i64.wrap ((IntKind.i64.wrap ((IntKind.i64.wrap (l + 1)) + 1)) + 1)) + 1))) rfl rfl) ?_
    refine RW.v rfl (V.arInt rfl rfl rfl rfl) ?_
    refine RW.v rfl (V.as (d := I (IntKind.i64.wrap ((IntKind.i64.wrap ((IntKind.i64.wrap ((IntKind.i64.wrap ((IntKind.i64.wrap (l + 1)) + 1)) + 1)) + 1)) + 1))) rfl rfl) ?_
    refine RW.nil ?_
    refine CW.le [(0, .w (sl 6 Applied.c (((((b.set i (⟨l, ei.term_, ei.index, ei.entry⟩ : Applied)).set i (⟨l, (IntKind.i64.wrap (l + 1)), ei.index, ei.entry⟩ : Applied)).set i (⟨l, (IntKind.i64.wrap (l + 1)), (IntKind.i64.wrap ((IntKind.i64.wrap (l + 1)) + 1)), ei.entry⟩ : Applied)).set i (⟨l, (IntKind.i64.wrap (l + 1)), (IntKind.i64.wrap ((IntKind.i64.wrap (l + 1)) + 1)), (⟨(IntKind.i64.wrap ((IntKind.i64.wrap ((IntKind.i64.wrap (l + 1)) + 1)) + 1)), ei.entry.kind, ei.entry.data⟩ : Entry)⟩ : Applied)).set i (⟨l, (IntKind.i64.wrap (l + 1)), (IntKind.i64.wrap ((IntKind.i64.wrap (l + 1)) + 1)), (⟨(IntKind.i64.wrap ((IntKind.i64.wrap ((IntKind.i64.wrap (l + 1)) + 1)) + 1)), (IntKind.i64.wrap ((IntKind.i64.wrap ((IntKind.i64.wrap ((IntKind.i64.wrap (l + 1)) + 1)) + 1)) + 1)), ei.entry.data⟩ : Entry)⟩ : Applied))) (g 0 0)), (1, I (IntKind.i64.wrap ((IntKind.i64.wrap ((IntKind.i64.wrap ((IntKind.i64.wrap ((IntKind.i64.wrap (l + 1)) + 1)) + 1)) + 1)) + 1))), (5, I (i : Int))] rfl (Le.c rfl <| Le.c rfl <| Le.c rfl <| Le.e) ?_
    refine CW.seq ?_
    refine CW.region ?_
    refine RW.v rfl (V.mv (d := .al 0 none 6 ((((((b.set i (⟨l, ei.term_, ei.index, ei.entry⟩ : Applied)).set i (⟨l, (IntKind.i64.wrap (l + 1)), ei.index, ei.entry⟩ : Applied)).set i (⟨l, (IntKind.i64.wrap (l + 1)), (IntKind.i64.wrap ((IntKind.i64.wrap (l + 1)) + 1)), ei.entry⟩ : Applied)).set i (⟨l, (IntKind.i64.wrap (l + 1)), (IntKind.i64.wrap ((IntKind.i64.wrap (l + 1)) + 1)), (⟨(IntKind.i64.wrap ((IntKind.i64.wrap ((IntKind.i64.wrap (l + 1)) + 1)) + 1)), ei.entry.kind, ei.entry.data⟩ : Entry)⟩ : Applied)).set i (⟨l, (IntKind.i64.wrap (l + 1)), (IntKind.i64.wrap ((IntKind.i64.wrap (l + 1)) + 1)), (⟨(IntKind.i64.wrap ((IntKind.i64.wrap ((IntKind.i64.wrap (l + 1)) + 1)) + 1)), (IntKind.i64.wrap ((IntKind.i64.wrap ((IntKind.i64.wrap ((IntKind.i64.wrap (l + 1)) + 1)) + 1)) + 1)), ei.entry.data⟩ : Entry)⟩ : Applied)).length) (g 0 0) 0) rfl rfl) ?_
    refine RW.v rfl (V.mv (d := I (i : Int)) rfl rfl) ?_
    refine RW.v rfl (V.mv (d := I (IntKind.i64.wrap ((IntKind.i64.wrap ((IntKind.i64.wrap ((IntKind.i64.wrap ((IntKind.i64.wrap (l + 1)) + 1)) + 1)) + 1)) + 1))) rfl rfl) ?_
    refine RW.call rfl (laws_markText_fn (IntKind.i64.wrap ((IntKind.i64.wrap ((IntKind.i64.wrap ((IntKind.i64.wrap ((IntKind.i64.wrap (l + 1)) + 1)) + 1)) + 1)) + 1)) (by first | exact hlk | exact wrap_le _ | simp only [mkL_le, mkI_le, mkS_le, mkB_le, mkEEntry_le, mkEPeer_le, mkEApplied_le])) rfl (.cons (.one (.r .r)) (.nil)) fun g2 => ?_
    refine RW.v rfl (V.indexW rfl rfl rfl rfl rfl rfl rfl (by first | omega | (simp; omega))) ?_
    refine RW.v rfl (V.fieldE rfl rfl rfl rfl (by decide) rfl) ?_
    refine RW.v rfl (V.fieldE rfl rfl rfl rfl (by decide) rfl) ?_
    refine RW.storeF (m := i) (off := 5) (v := (⟨l, (IntKind.i64.wrap (l + 1)), (IntKind.i64.wrap ((IntKind.i64.wrap (l + 1)) + 1)), (⟨(IntKind.i64.wrap ((IntKind.i64.wrap ((IntKind.i64.wrap (l + 1)) + 1)) + 1)), (IntKind.i64.wrap ((IntKind.i64.wrap ((IntKind.i64.wrap ((IntKind.i64.wrap (l + 1)) + 1)) + 1)) + 1)), ei.entry.data⟩ : Entry)⟩ : Applied)) (v' := (⟨l, (IntKind.i64.wrap (l + 1)), (IntKind.i64.wrap ((IntKind.i64.wrap (l + 1)) + 1)), (⟨(IntKind.i64.wrap ((IntKind.i64.wrap ((IntKind.i64.wrap (l + 1)) + 1)) + 1)), (IntKind.i64.wrap ((IntKind.i64.wrap ((IntKind.i64.wrap ((IntKind.i64.wrap (l + 1)) + 1)) + 1)) + 1)), (mtext (IntKind.i64.wrap ((IntKind.i64.wrap ((IntKind.i64.wrap ((IntKind.i64.wrap ((IntKind.i64.wrap (l + 1)) + 1)) + 1)) + 1)) + 1)))⟩ : Entry)⟩ : Applied)) (u := .v (.string (mtext (IntKind.i64.wrap ((IntKind.i64.wrap ((IntKind.i64.wrap ((IntKind.i64.wrap ((IntKind.i64.wrap (l + 1)) + 1)) + 1)) + 1)) + 1))))) (c := Applied.c) rfl rfl rfl rfl rfl rfl rfl (.inl rfl) Applied.len (List.getElem?_set_self (by first | omega | (simp; omega))) (by decide) rfl rfl ?_
    refine RW.nil ?_
    refine CW.le [(0, .w (sl 6 Applied.c ((((((b.set i (⟨l, ei.term_, ei.index, ei.entry⟩ : Applied)).set i (⟨l, (IntKind.i64.wrap (l + 1)), ei.index, ei.entry⟩ : Applied)).set i (⟨l, (IntKind.i64.wrap (l + 1)), (IntKind.i64.wrap ((IntKind.i64.wrap (l + 1)) + 1)), ei.entry⟩ : Applied)).set i (⟨l, (IntKind.i64.wrap (l + 1)), (IntKind.i64.wrap ((IntKind.i64.wrap (l + 1)) + 1)), (⟨(IntKind.i64.wrap ((IntKind.i64.wrap ((IntKind.i64.wrap (l + 1)) + 1)) + 1)), ei.entry.kind, ei.entry.data⟩ : Entry)⟩ : Applied)).set i (⟨l, (IntKind.i64.wrap (l + 1)), (IntKind.i64.wrap ((IntKind.i64.wrap (l + 1)) + 1)), (⟨(IntKind.i64.wrap ((IntKind.i64.wrap ((IntKind.i64.wrap (l + 1)) + 1)) + 1)), (IntKind.i64.wrap ((IntKind.i64.wrap ((IntKind.i64.wrap ((IntKind.i64.wrap (l + 1)) + 1)) + 1)) + 1)), ei.entry.data⟩ : Entry)⟩ : Applied)).set i (⟨l, (IntKind.i64.wrap (l + 1)), (IntKind.i64.wrap ((IntKind.i64.wrap (l + 1)) + 1)), (⟨(IntKind.i64.wrap ((IntKind.i64.wrap ((IntKind.i64.wrap (l + 1)) + 1)) + 1)), (IntKind.i64.wrap ((IntKind.i64.wrap ((IntKind.i64.wrap ((IntKind.i64.wrap (l + 1)) + 1)) + 1)) + 1)), (mtext (IntKind.i64.wrap ((IntKind.i64.wrap ((IntKind.i64.wrap ((IntKind.i64.wrap ((IntKind.i64.wrap (l + 1)) + 1)) + 1)) + 1)) + 1)))⟩ : Entry)⟩ : Applied))) (g 0 0)), (1, I (IntKind.i64.wrap ((IntKind.i64.wrap ((IntKind.i64.wrap ((IntKind.i64.wrap ((IntKind.i64.wrap (l + 1)) + 1)) + 1)) + 1)) + 1))), (5, I (i : Int))] rfl (Le.c rfl <| Le.c rfl <| Le.c rfl <| Le.e) ?_
    refine CW.region ?_
    refine RW.v rfl (V.mv (d := I (IntKind.i64.wrap ((IntKind.i64.wrap ((IntKind.i64.wrap ((IntKind.i64.wrap ((IntKind.i64.wrap (l + 1)) + 1)) + 1)) + 1)) + 1))) rfl rfl) ?_
    refine RW.v rfl (V.arInt rfl rfl rfl rfl) ?_
    refine RW.v rfl (V.as (d := I (IntKind.i64.wrap ((IntKind.i64.wrap ((IntKind.i64.wrap ((IntKind.i64.wrap ((IntKind.i64.wrap ((IntKind.i64.wrap (l + 1)) + 1)) + 1)) + 1)) + 1)) + 1))) rfl rfl) ?_
    refine RW.nil ?_
    refine CW.le [(0, .w (sl 6 Applied.c ((((((b.set i (⟨l, ei.term_, ei.index, ei.entry⟩ : Applied)).set i (⟨l, (IntKind.i64.wrap (l + 1)), ei.index, ei.entry⟩ : Applied)).set i (⟨l, (IntKind.i64.wrap (l + 1)), (IntKind.i64.wrap ((IntKind.i64.wrap (l + 1)) + 1)), ei.entry⟩ : Applied)).set i (⟨l, (IntKind.i64.wrap (l + 1)), (IntKind.i64.wrap ((IntKind.i64.wrap (l + 1)) + 1)), (⟨(IntKind.i64.wrap ((IntKind.i64.wrap ((IntKind.i64.wrap (l + 1)) + 1)) + 1)), ei.entry.kind, ei.entry.data⟩ : Entry)⟩ : Applied)).set i (⟨l, (IntKind.i64.wrap (l + 1)), (IntKind.i64.wrap ((IntKind.i64.wrap (l + 1)) + 1)), (⟨(IntKind.i64.wrap ((IntKind.i64.wrap ((IntKind.i64.wrap (l + 1)) + 1)) + 1)), (IntKind.i64.wrap ((IntKind.i64.wrap ((IntKind.i64.wrap ((IntKind.i64.wrap (l + 1)) + 1)) + 1)) + 1)), ei.entry.data⟩ : Entry)⟩ : Applied)).set i (⟨l, (IntKind.i64.wrap (l + 1)), (IntKind.i64.wrap ((IntKind.i64.wrap (l + 1)) + 1)), (⟨(IntKind.i64.wrap ((IntKind.i64.wrap ((IntKind.i64.wrap (l + 1)) + 1)) + 1)), (IntKind.i64.wrap ((IntKind.i64.wrap ((IntKind.i64.wrap ((IntKind.i64.wrap (l + 1)) + 1)) + 1)) + 1)), (mtext (IntKind.i64.wrap ((IntKind.i64.wrap ((IntKind.i64.wrap ((IntKind.i64.wrap ((IntKind.i64.wrap (l + 1)) + 1)) + 1)) + 1)) + 1)))⟩ : Entry)⟩ : Applied))) (g 0 0)), (1, I (IntKind.i64.wrap ((IntKind.i64.wrap ((IntKind.i64.wrap ((IntKind.i64.wrap ((IntKind.i64.wrap ((IntKind.i64.wrap (l + 1)) + 1)) + 1)) + 1)) + 1)) + 1))), (5, I (i : Int))] rfl (Le.c rfl <| Le.c rfl <| Le.c rfl <| Le.e) ?_
    refine CW.region ?_
    refine RW.v rfl (V.mv (d := I (i : Int)) rfl rfl) ?_
    refine RW.v rfl (V.inc rfl rfl rfl hii (by omega)) ?_
    refine RW.v rfl (V.as (d := I ((i + 1 : Nat) : Int)) rfl rfl) ?_
    refine RW.nil ?_
    exact ⟨(i + 1, (IntKind.i64.wrap ((IntKind.i64.wrap ((IntKind.i64.wrap ((IntKind.i64.wrap ((IntKind.i64.wrap ((IntKind.i64.wrap (l + 1)) + 1)) + 1)) + 1)) + 1)) + 1)), ((((((b.set i (⟨l, ei.term_, ei.index, ei.entry⟩ : Applied)).set i (⟨l, (IntKind.i64.wrap (l + 1)), ei.index, ei.entry⟩ : Applied)).set i (⟨l, (IntKind.i64.wrap (l + 1)), (IntKind.i64.wrap ((IntKind.i64.wrap (l + 1)) + 1)), ei.entry⟩ : Applied)).set i (⟨l, (IntKind.i64.wrap (l + 1)), (IntKind.i64.wrap ((IntKind.i64.wrap (l + 1)) + 1)), (⟨(IntKind.i64.wrap ((IntKind.i64.wrap ((IntKind.i64.wrap (l + 1)) + 1)) + 1)), ei.entry.kind, ei.entry.data⟩ : Entry)⟩ : Applied)).set i (⟨l, (IntKind.i64.wrap (l + 1)), (IntKind.i64.wrap ((IntKind.i64.wrap (l + 1)) + 1)), (⟨(IntKind.i64.wrap ((IntKind.i64.wrap ((IntKind.i64.wrap (l + 1)) + 1)) + 1)), (IntKind.i64.wrap ((IntKind.i64.wrap ((IntKind.i64.wrap ((IntKind.i64.wrap (l + 1)) + 1)) + 1)) + 1)), ei.entry.data⟩ : Entry)⟩ : Applied)).set i (⟨l, (IntKind.i64.wrap (l + 1)), (IntKind.i64.wrap ((IntKind.i64.wrap (l + 1)) + 1)), (⟨(IntKind.i64.wrap ((IntKind.i64.wrap ((IntKind.i64.wrap (l + 1)) + 1)) + 1)), (IntKind.i64.wrap ((IntKind.i64.wrap ((IntKind.i64.wrap ((IntKind.i64.wrap (l + 1)) + 1)) + 1)) + 1)), (mtext (IntKind.i64.wrap ((IntKind.i64.wrap ((IntKind.i64.wrap ((IntKind.i64.wrap ((IntKind.i64.wrap (l + 1)) + 1)) + 1)) + 1)) + 1)))⟩ : Entry)⟩ : Applied))), by simp only []; omega, mk_step mkEApplied ((⟨l, (IntKind.i64.wrap (l + 1)), (IntKind.i64.wrap ((IntKind.i64.wrap (l + 1)) + 1)), (⟨(IntKind.i64.wrap ((IntKind.i64.wrap ((IntKind.i64.wrap (l + 1)) + 1)) + 1)), (IntKind.i64.wrap ((IntKind.i64.wrap ((IntKind.i64.wrap ((IntKind.i64.wrap (l + 1)) + 1)) + 1)) + 1)), (mtext (IntKind.i64.wrap ((IntKind.i64.wrap ((IntKind.i64.wrap ((IntKind.i64.wrap ((IntKind.i64.wrap (l + 1)) + 1)) + 1)) + 1)) + 1)))⟩ : Entry)⟩ : Applied)) ((IntKind.i64.wrap ((IntKind.i64.wrap ((IntKind.i64.wrap ((IntKind.i64.wrap ((IntKind.i64.wrap ((IntKind.i64.wrap (l + 1)) + 1)) + 1)) + 1)) + 1)) + 1))) hei hlen hdr hr (by first | rfl | simp only [List.set_set]) rfl (by first | exact wrap_le _ | (apply mkL_le; assumption)), rfl, Le.c rfl <| Le.c rfl <| Le.c rfl <| Le.e⟩
  · skip
    have hii : b.length ≤ i := by have := h1; simp at this; first | exact this | (simp; omega)
    have hdi : b.drop i = [] := List.drop_eq_nil_of_le hii
    refine CW.exit ?_
    refine CW.le [(0, .w (sl 6 Applied.c b) (g 0 0)), (1, I l)] rfl (Le.c rfl <| Le.c rfl <| Le.e) ?_
    refine CW.seq ?_
    refine CW.region ?_
    refine RW.v rfl (V.mv (d := I l) rfl rfl) ?_
    refine RW.v rfl (V.as (d := I l) rfl rfl) ?_
    refine RW.nil ?_
    refine CW.le [(0, .w (sl 6 Applied.c b) (g 0 0)), (4, I l)] rfl (Le.c rfl <| Le.c rfl <| Le.e) ?_
    refine CW.ret ?_
    exact Post.one (RV.i rfl (by rw [← hr, ← hdr, hdi]; rfl)) (AOs.w (by show _ = D.w _ _; exact congrArg (fun l => D.w (sl _ Applied.c l) _) (by rw [← hr, ← hdr, hdi]; show b = b.take i ++ []; rw [List.append_nil, List.take_of_length_le hii])) (AOs.r AOs.e))
set_option maxHeartbeats 4000000 in
theorem laws_markEntryS_fn (a : List Entry) (k : Int) (hk : k ≤ 9223372036854775807) : Eng.Fn E.P 17 [.one (.w (sl 3 Entry.c a)), .one (.r (.v (.int .i64 k)))] (.one (.one (.w (.v (.int .i64 ((mkL mkEEntry a k).2)))))) [.one (.w (sl 3 Entry.c ((mkL mkEEntry a k).1))), .one (.r (.v (.int .i64 k)))] := by
  refine Eng.Fn.intro (E := E) (rvs := [.tmp 4]) Try.func17 rfl rfl rfl (by simp [outSlots, moved, rvSlot, sl]) ?_
  intro B g bo
  refine CW.bound (x := .tmp 0) (n := a.length) (AsT.al rfl rfl nofun) (fun hl0 => ?_)
  refine CW.le [(0, .w (sl 3 Entry.c a) (g 0 0)), (1, I k)] rfl (Le.c rfl <| Le.c rfl <| Le.e) ?_
  have hl0b : a.length ≤ maxLen := hl0
  refine CW.seq ?_
  refine CW.region ?_
  refine RW.v rfl (V.as (d := I 0) rfl rfl) ?_
  refine RW.nil ?_
  refine CW.le [(0, .w (sl 3 Entry.c a) (g 0 0)), (1, I k)] rfl (Le.c rfl <| Le.c rfl <| Le.e) ?_
  refine CW.seq ?_
  refine CW.seq ?_
  refine CW.region ?_
  refine RW.v rfl (V.as (d := I 0) rfl rfl) ?_
  refine RW.nil ?_
  refine CW.le [(0, .w (sl 3 Entry.c a) (g 0 0)), (1, I k), (5, I 0)] rfl (Le.c rfl <| Le.c rfl <| Le.c rfl <| Le.e) ?_
  refine CW.block ?_
  refine CW.loopI 35 (fun (x : Nat × Int × List Entry) => match x with | (i, l, b) => [(0, .w (sl 3 Entry.c b) (g 0 0)), (1, I l), (5, I (i : Int))]) (fun (x : Nat × Int × List Entry) => match x with | (i, l, b) => i ≤ b.length ∧ l ≤ 9223372036854775807 ∧ b.length = a.length ∧ b.drop i = a.drop i ∧ (b.take i ++ (mkL mkEEntry (a.drop i) l).1, (mkL mkEEntry (a.drop i) l).2) = mkL mkEEntry a k) (fun (x : Nat × Int × List Entry) => match x with | (i, l, b) => a.length - i) (0, _, _) rfl (Le.c rfl <| Le.c rfl <| Le.c rfl <| Le.e) ⟨by omega, hk, rfl, rfl, by simp⟩ ?_
  rintro ⟨i, l, b⟩ ⟨hb, hlk, hlen, hdr, hr⟩
  refine CW.seq ?_
  refine CW.seq ?_
  refine CW.region ?_
  refine RW.v rfl (V.mv (d := I (i : Int)) rfl rfl) ?_
  refine RW.v rfl (V.mv (d := .al 0 none 3 b.length (g 0 0) 0) rfl rfl) ?_
  refine RW.v rfl (V.lenT (n := b.length) rfl rfl rfl (.al rfl rfl nofun)) ?_
  refine RW.v rfl (V.cmpInt rfl rfl rfl rfl) ?_
  refine RW.nil ?_
  refine CW.le [(0, .w (sl 3 Entry.c b) (g 0 0)), (1, I l), (5, I (i : Int)), (9, Bo (decide ((i : Int) < (b.length : Int))))] rfl (Le.c rfl <| Le.c rfl <| Le.c rfl <| Le.c rfl <| Le.e) ?_
  refine CW.cond rfl (fun h1 => ?_) (fun h1 => ?_)
  · skip
    have hii : i < b.length := by have := h1; simp at this; first | exact this | (simp; omega)
    obtain ⟨ei, hei⟩ : ∃ e, b[i]? = some e := ⟨_, List.getElem?_eq_getElem hii⟩
    have hdi := drop_get hei
    refine CW.skip ?_
    refine CW.le [(0, .w (sl 3 Entry.c b) (g 0 0)), (1, I l), (5, I (i : Int))] rfl (Le.c rfl <| Le.c rfl <| Le.c rfl <| Le.e) ?_
    refine CW.seq ?_
    refine CW.block ?_
    refine CW.seq ?_
    refine CW.region ?_
    refine RW.v rfl (V.mv (d := .al 0 none 3 b.length (g 0 0) 0) rfl rfl) ?_
    refine RW.v rfl (V.mv (d := I (i : Int)) rfl rfl) ?_
    refine RW.v rfl (V.mv (d := I l) rfl rfl) ?_
    refine RW.v rfl (V.indexW rfl rfl rfl rfl rfl rfl rfl (by first | omega | (simp; omega))) ?_
    refine RW.v rfl (V.fieldE rfl rfl rfl rfl (by decide) rfl) ?_
    refine RW.storeF (m := i) (off := 0) (v := ei) (v' := (⟨l, ei.kind, ei.data⟩ : Entry)) (u := .v (.int .i64 l)) (c := Entry.c) rfl rfl rfl rfl rfl rfl rfl (.inl rfl) Entry.len hei (by decide) rfl rfl ?_
    refine RW.nil ?_
    refine CW.le [(0, .w (sl 3 Entry.c (b.set i (⟨l, ei.kind, ei.data⟩ : Entry))) (g 0 0)), (1, I l), (5, I (i : Int))] rfl (Le.c rfl <| Le.c rfl <| Le.c rfl <| Le.e) ?_
    refine CW.seq ?_
    refine CW.region ?_
    refine RW.v rfl (V.mv (d := I l) rfl rfl) ?_
    refine RW.v rfl (V.arInt rfl rfl rfl rfl) ?_
    refine RW.v rfl (V.as (d := I (IntKind.i64.wrap (l + 1))) rfl rfl) ?_
    refine RW.nil ?_
    refine CW.le [(0, .w (sl 3 Entry.c (b.set i (⟨l, ei.kind, ei.data⟩ : Entry))) (g 0 0)), (1, I (IntKind.i64.wrap (l + 1))), (5, I (i : Int))] rfl (Le.c rfl <| Le.c rfl <| Le.c rfl <| Le.e) ?_
    refine CW.seq ?_
    refine CW.region ?_
    refine RW.v rfl (V.mv (d := .al 0 none 3 ((b.set i (⟨l, ei.kind, ei.data⟩ : Entry)).length) (g 0 0) 0) rfl rfl) ?_
    refine RW.v rfl (V.mv (d := I (i : Int)) rfl rfl) ?_
    refine RW.v rfl (V.mv (d := I (IntKind.i64.wrap (l + 1))) rfl rfl) ?_
    refine RW.v rfl (V.indexW rfl rfl rfl rfl rfl rfl rfl (by first | omega | (simp; omega))) ?_
    refine RW.v rfl (V.fieldE rfl rfl rfl rfl (by decide) rfl) ?_
    refine RW.storeF (m := i) (off := 1) (v := (⟨l, ei.kind, ei.data⟩ : Entry)) (v' := (⟨l, (IntKind.i64.wrap (l + 1)), ei.data⟩ : Entry)) (u := .v (.int .i64 (IntKind.i64.wrap (l + 1)))) (c := Entry.c) rfl rfl rfl rfl rfl rfl rfl (.inl rfl) Entry.len (List.getElem?_set_self (by first | omega | (simp; omega))) (by decide) rfl rfl ?_
    refine RW.nil ?_
    refine CW.le [(0, .w (sl 3 Entry.c ((b.set i (⟨l, ei.kind, ei.data⟩ : Entry)).set i (⟨l, (IntKind.i64.wrap (l + 1)), ei.data⟩ : Entry))) (g 0 0)), (1, I (IntKind.i64.wrap (l + 1))), (5, I (i : Int))] rfl (Le.c rfl <| Le.c rfl <| Le.c rfl <| Le.e) ?_
    refine CW.seq ?_
    refine CW.region ?_
    refine RW.v rfl (V.mv (d := I (IntKind.i64.wrap (l + 1))) rfl rfl) ?_
    refine RW.v rfl (V.arInt rfl rfl rfl rfl) ?_
    refine RW.v rfl (V.as (d := I (IntKind.i64.wrap ((IntKind.i64.wrap (l + 1)) + 1))) rfl rfl) ?_
    refine RW.nil ?_
    refine CW.le [(0, .w (sl 3 Entry.c ((b.set i (⟨l, ei.kind, ei.data⟩ : Entry)).set i (⟨l, (IntKind.i64.wrap (l + 1)), ei.data⟩ : Entry))) (g 0 0)), (1, I (IntKind.i64.wrap ((IntKind.i64.wrap (l + 1)) + 1))), (5, I (i : Int))] rfl (Le.c rfl <| Le.c rfl <| Le.c rfl <| Le.e) ?_
    refine CW.seq ?_
    refine CW.region ?_
    refine RW.v rfl (V.mv (d := .al 0 none 3 (((b.set i (⟨l, ei.kind, ei.data⟩ : Entry)).set i (⟨l, (IntKind.i64.wrap (l + 1)), ei.data⟩ : Entry)).length) (g 0 0) 0) rfl rfl) ?_
    refine RW.v rfl (V.mv (d := I (i : Int)) rfl rfl) ?_
    refine RW.v rfl (V.mv (d := I (IntKind.i64.wrap ((IntKind.i64.wrap (l + 1)) + 1))) rfl rfl) ?_
    refine RW.call rfl (laws_markText_fn (IntKind.i64.wrap ((IntKind.i64.wrap (l + 1)) + 1)) (by first | exact hlk | exact wrap_le _ | simp only [mkL_le, mkI_le, mkS_le, mkB_le, mkEEntry_le, mkEPeer_le, mkEApplied_le])) rfl (.cons (.one (.r .r)) (.nil)) fun g2 => ?_
    refine RW.v rfl (V.indexW rfl rfl rfl rfl rfl rfl rfl (by first | omega | (simp; omega))) ?_
    refine RW.v rfl (V.fieldE rfl rfl rfl rfl (by decide) rfl) ?_
    refine RW.storeF (m := i) (off := 2) (v := (⟨l, (IntKind.i64.wrap (l + 1)), ei.data⟩ : Entry)) (v' := (⟨l, (IntKind.i64.wrap (l + 1)), (mtext (IntKind.i64.wrap ((IntKind.i64.wrap (l + 1)) + 1)))⟩ : Entry)) (u := .v (.string (mtext (IntKind.i64.wrap ((IntKind.i64.wrap (l + 1)) + 1))))) (c := Entry.c) rfl rfl rfl rfl rfl rfl rfl (.inl rfl) Entry.len (List.getElem?_set_self (by first | omega | (simp; omega))) (by decide) rfl rfl ?_
    refine RW.nil ?_
    refine CW.le [(0, .w (sl 3 Entry.c (((b.set i (⟨l, ei.kind, ei.data⟩ : Entry)).set i (⟨l, (IntKind.i64.wrap (l + 1)), ei.data⟩ : Entry)).set i (⟨l, (IntKind.i64.wrap (l + 1)), (mtext (IntKind.i64.wrap ((IntKind.i64.wrap (l + 1)) + 1)))⟩ : Entry))) (g 0 0)), (1, I (IntKind.i64.wrap ((IntKind.i64.wrap (l + 1)) + 1))), (5, I (i : Int))] rfl (Le.c rfl <| Le.c rfl <| Le.c rfl <| Le.e) ?_
    refine CW.region ?_
    refine RW.v rfl (V.mv (d := I (IntKind.i64.wrap ((IntKind.i64.wrap (l + 1)) + 1))) rfl rfl) ?_
    refine RW.v rfl (V.arInt rfl rfl rfl rfl) ?_
    refine RW.v rfl (V.as (d := I (IntKind.i64.wrap ((IntKind.i64.wrap ((IntKind.i64.wrap (l + 1)) + 1)) + 1))) rfl rfl) ?_
    refine RW.nil ?_
    refine CW.le [(0, .w (sl 3 Entry.c (((b.set i (⟨l, ei.kind, ei.data⟩ : Entry)).set i (⟨l, (IntKind.i64.wrap (l + 1)), ei.data⟩ : Entry)).set i (⟨l, (IntKind.i64.wrap (l + 1)), (mtext (IntKind.i64.wrap ((IntKind.i64.wrap (l + 1)) + 1)))⟩ : Entry))) (g 0 0)), (1, I (IntKind.i64.wrap ((IntKind.i64.wrap ((IntKind.i64.wrap (l + 1)) + 1)) + 1))), (5, I (i : Int))] rfl (Le.c rfl <| Le.c rfl <| Le.c rfl <| Le.e) ?_
    refine CW.region ?_
    refine RW.v rfl (V.mv (d := I (i : Int)) rfl rfl) ?_
    refine RW.v rfl (V.inc rfl rfl rfl hii (by omega)) ?_
    refine RW.v rfl (V.as (d := I ((i + 1 : Nat) : Int)) rfl rfl) ?_
    refine RW.nil ?_
    exact ⟨(i + 1, (IntKind.i64.wrap ((IntKind.i64.wrap ((IntKind.i64.wrap (l + 1)) + 1)) + 1)), (((b.set i (⟨l, ei.kind, ei.data⟩ : Entry)).set i (⟨l, (IntKind.i64.wrap (l + 1)), ei.data⟩ : Entry)).set i (⟨l, (IntKind.i64.wrap (l + 1)), (mtext (IntKind.i64.wrap ((IntKind.i64.wrap (l + 1)) + 1)))⟩ : Entry))), by simp only []; omega, mk_step mkEEntry ((⟨l, (IntKind.i64.wrap (l + 1)), (mtext (IntKind.i64.wrap ((IntKind.i64.wrap (l + 1)) + 1)))⟩ : Entry)) ((IntKind.i64.wrap ((IntKind.i64.wrap ((IntKind.i64.wrap (l + 1)) + 1)) + 1))) hei hlen hdr hr (by first | rfl | simp only [List.set_set]) rfl (by first | exact wrap_le _ | (apply mkL_le; assumption)), rfl, Le.c rfl <| Le.c rfl <| Le.c rfl <| Le.e⟩
  · skip
    have hii : b.length ≤ i := by have := h1; simp at this; first | exact this | (simp; omega)
    have hdi : b.drop i = [] := List.drop_eq_nil_of_le hii
    refine CW.exit ?_
    refine CW.le [(0, .w (sl 3 Entry.c b) (g 0 0)), (1, I l)] rfl (Le.c rfl <| Le.c rfl <| Le.e) ?_
    refine CW.seq ?_
    refine CW.region ?_
    refine RW.v rfl (V.mv (d := I l) rfl rfl) ?_
    refine RW.v rfl (V.as (d := I l) rfl rfl) ?_
    refine RW.nil ?_
    refine CW.le [(0, .w (sl 3 Entry.c b) (g 0 0)), (4, I l)] rfl (Le.c rfl <| Le.c rfl <| Le.e) ?_
    refine CW.ret ?_
    exact Post.one (RV.i rfl (by rw [← hr, ← hdr, hdi]; rfl)) (AOs.w (by show _ = D.w _ _; exact congrArg (fun l => D.w (sl _ Entry.c l) _) (by rw [← hr, ← hdr, hdi]; show b = b.take i ++ []; rw [List.append_nil, List.take_of_length_le hii])) (AOs.r AOs.e))
end Go.Proofs.Ytbiocicogminlaa.Y
