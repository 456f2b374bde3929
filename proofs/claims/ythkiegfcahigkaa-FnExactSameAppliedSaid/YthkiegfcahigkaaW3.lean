import Derived.Test.YthkiegfcahigkaaPu
import Derived.Test.YthkiegfcahigkaaProg
namespace Go.Proofs.Ythkiegfcahigkaa.Y
open Go Go.RowKit Go.Eng Go.Proofs
def tl : List (Nat × TyI) := [
(3, ⟨1, 8, [.int .i64 0], .prim⟩),
(4, ⟨1, 1, [.bool false], .prim⟩),
(9, ⟨1, 16, [.string ⟨#[]⟩], .prim⟩),
(22, ⟨1, 24, [.slice none 0 0], .slice 66⟩),
(25, ⟨1, 24, [.slice none 0 0], .slice 69⟩),
(64, ⟨3, 32, [.int .i64 0, .int .i64 0, .string ⟨#[]⟩], .agg [(0, 3, 1), (1, 3, 1), (2, 9, 1)]⟩),
(66, ⟨6, 56, [.int .i64 0, .int .i64 0, .int .i64 0, .int .i64 0, .int .i64 0, .string ⟨#[]⟩], .agg [(0, 3, 1), (1, 3, 1), (2, 3, 1), (3, 64, 3)]⟩),
(67, ⟨3, 32, [.int .i64 0, .int .i64 0, .string ⟨#[]⟩], .agg [(0, 3, 1), (1, 3, 1), (2, 9, 1)]⟩),
(69, ⟨6, 56, [.int .i64 0, .int .i64 0, .int .i64 0, .int .i64 0, .int .i64 0, .string ⟨#[]⟩], .agg [(0, 3, 1), (1, 3, 1), (2, 3, 1), (3, 67, 3)]⟩)]
theorem tl_ok : ∀ p ∈ tl, tyI Try.prog p.1 = some p.2 := by
  refine List.forall_mem_cons.2 ⟨by kernel_rfl, ?_⟩
  refine List.forall_mem_cons.2 ⟨by kernel_rfl, ?_⟩
  refine List.forall_mem_cons.2 ⟨by kernel_rfl, ?_⟩
  refine List.forall_mem_cons.2 ⟨by kernel_rfl, ?_⟩
  refine List.forall_mem_cons.2 ⟨by kernel_rfl, ?_⟩
  refine List.forall_mem_cons.2 ⟨by kernel_rfl, ?_⟩
  refine List.forall_mem_cons.2 ⟨by kernel_rfl, ?_⟩
  refine List.forall_mem_cons.2 ⟨by kernel_rfl, ?_⟩
  refine List.forall_mem_cons.2 ⟨by kernel_rfl, ?_⟩
  exact fun _ h => by cases h
noncomputable def E : Env := ⟨Try.prog, lk tl, fun t i h => tl_ok (t, i) (lk_mem _ _ _ h), by kernel_rfl⟩
theorem eq67_in (x y : Entry) (n : Nat) (w : World) : (Op.equalIn (n + 2) 67 (.agg x.vs.toArray) (.agg y.vs.toArray)).run Try.prog w = .ok (Entry.eq x y) w := by
  refine eqA_of Try.underlying67 (by kernel_rfl) ?_
  refine eqF_cons (by rfl) (by go_simp; rfl) (by go_simp; rfl) (by go_simp) ?_
  refine eqF_cons (by rfl) (by go_simp; rfl) (by go_simp; rfl) (by go_simp) ?_
  exact eqF_last (by rfl) (by go_simp; rfl) (by go_simp; rfl) (by go_simp)
theorem eq67 (x y : Entry) (w : World) : (Op.equal 67 (.agg x.vs.toArray) (.agg y.vs.toArray)).run E.P w = .ok (Entry.eq x y) w := eq67_in x y 9998 w
theorem laws_szEntry_fn (a : Entry) (left : Int) : Eng.Fn E.P 63 [.agg ((Entry.c a).map .r), .one (.r (.v (.int .i64 left)))] (.one (.one (.w (.v (.int .i64 (szEntry a left)))))) [.agg ((Entry.c a).map .r), .one (.r (.v (.int .i64 left)))] := by
  refine Eng.Fn.intro (E := E) (rvs := [.tmp 4]) Try.func63 rfl rfl rfl (by simp [outSlots, moved, rvSlot]) ?_
  intro B g bo
  refine CW.le [(0, .agg ((Entry.c a).map .r)), (1, I left)] rfl (Le.c rfl <| Le.c rfl <| Le.e) ?_
  refine CW.seq ?_
  refine CW.region ?_
  refine RW.box (ds := ((Entry.c a).map .r)) rfl rfl rfl fun b1 => ?_
  refine RW.v rfl (V.as (d := I 0) rfl rfl) ?_
  refine RW.nil ?_
  refine CW.le [(1, I left), (2, .obj b1 ((Entry.c a).map .r))] rfl (Le.c rfl <| Le.c rfl <| Le.e) ?_
  refine CW.seq ?_
  refine CW.region ?_
  refine RW.v rfl (V.mv (d := I left) rfl rfl) ?_
  refine RW.v rfl (V.field rfl rfl rfl rfl (by decide) rfl) ?_
  refine RW.v rfl (V.loadPrim (d := S a.data) rfl rfl (.inl rfl) rfl rfl rfl) ?_
  refine RW.v rfl (V.lenStr rfl (by kernel_rfl) rfl) ?_
  refine RW.v rfl (V.arInt rfl rfl rfl rfl) ?_
  refine RW.v rfl (V.as (d := I (IntKind.i64.wrap (left - (a.data.size : Int)))) rfl rfl) ?_
  refine RW.nil ?_
  refine CW.le [(1, I (IntKind.i64.wrap (left - (a.data.size : Int))))] rfl (Le.c rfl <| Le.e) ?_
  refine CW.seq ?_
  refine CW.seq ?_
  refine CW.region ?_
  refine RW.v rfl (V.mv (d := I (IntKind.i64.wrap (left - (a.data.size : Int)))) rfl rfl) ?_
  refine RW.v rfl (V.cmpInt rfl rfl rfl rfl) ?_
  refine RW.nil ?_
  refine CW.le [(1, I (IntKind.i64.wrap (left - (a.data.size : Int)))), (11, Bo (decide ((IntKind.i64.wrap (left - (a.data.size : Int))) < 0)))] rfl (Le.c rfl <| Le.c rfl <| Le.e) ?_
  refine CW.cond rfl (fun h2 => ?_) (fun h2 => ?_)
  · skip
    refine CW.seq ?_
    refine CW.region ?_
    refine RW.v rfl (V.as (d := I (-1)) rfl rfl) ?_
    refine RW.nil ?_
    refine CW.le [(4, I (-1))] rfl (Le.c rfl <| Le.e) ?_
    refine CW.ret ?_
    exact Post.int rfl (by first | (simp_all [szEntry]; done) | (simp_all [szEntry]; omega)) (AOs.a rfl (AOs.r AOs.e))
  · skip
    refine CW.skip ?_
    refine CW.le [(1, I (IntKind.i64.wrap (left - (a.data.size : Int))))] rfl (Le.c rfl <| Le.e) ?_
    refine CW.seq ?_
    refine CW.region ?_
    refine RW.v rfl (V.mv (d := I (IntKind.i64.wrap (left - (a.data.size : Int)))) rfl rfl) ?_
    refine RW.v rfl (V.as (d := I (IntKind.i64.wrap (left - (a.data.size : Int)))) rfl rfl) ?_
    refine RW.nil ?_
    refine CW.le [(4, I (IntKind.i64.wrap (left - (a.data.size : Int))))] rfl (Le.c rfl <| Le.e) ?_
    refine CW.ret ?_
    exact Post.int rfl (by first | (simp_all [szEntry]; done) | (simp_all [szEntry]; omega)) (AOs.a rfl (AOs.r AOs.e))
theorem laws_szApplied_fn (a : Applied) (left : Int) : Eng.Fn E.P 37 [.agg ((Applied.c a).map .r), .one (.r (.v (.int .i64 left)))] (.one (.one (.w (.v (.int .i64 (szApplied a left)))))) [.agg ((Applied.c a).map .r), .one (.r (.v (.int .i64 left)))] := by
  refine Eng.Fn.intro (E := E) (rvs := [.tmp 4]) Try.func37 rfl rfl rfl (by simp [outSlots, moved, rvSlot]) ?_
  intro B g bo
  refine CW.le [(0, .agg ((Applied.c a).map .r)), (1, I left)] rfl (Le.c rfl <| Le.c rfl <| Le.e) ?_
  refine CW.seq ?_
  refine CW.region ?_
  refine RW.box (ds := ((Applied.c a).map .r)) rfl rfl rfl fun b1 => ?_
  refine RW.v rfl (V.as (d := I 0) rfl rfl) ?_
  refine RW.nil ?_
  refine CW.le [(1, I left), (2, .obj b1 ((Applied.c a).map .r))] rfl (Le.c rfl <| Le.c rfl <| Le.e) ?_
  refine CW.seq ?_
  refine CW.region ?_
  refine RW.v rfl (V.field rfl rfl rfl rfl (by decide) rfl) ?_
  refine RW.v rfl (V.loadAgg rfl rfl rfl rfl rfl (Nat.le_of_ble_eq_true rfl)) ?_
  refine RW.v rfl (V.mv (d := I left) rfl rfl) ?_
  refine RW.call rfl (laws_szEntry_fn a.entry left) rfl (.cons (.agg (.cons (.r .r) (.cons (.r .r) (.cons (.r .r) (.nil))))) (.cons (.one (.r .r)) (.nil))) fun g2 => ?_
  refine RW.v rfl (V.as (d := I (szEntry a.entry left)) rfl rfl) ?_
  refine RW.nil ?_
  refine CW.le [(1, I (szEntry a.entry left))] rfl (Le.c rfl <| Le.e) ?_
  refine CW.seq ?_
  refine CW.seq ?_
  refine CW.region ?_
  refine RW.v rfl (V.mv (d := I (szEntry a.entry left)) rfl rfl) ?_
  refine RW.v rfl (V.cmpInt rfl rfl rfl rfl) ?_
  refine RW.nil ?_
  refine CW.le [(1, I (szEntry a.entry left)), (10, Bo (decide ((szEntry a.entry left) < 0)))] rfl (Le.c rfl <| Le.c rfl <| Le.e) ?_
  refine CW.cond rfl (fun h3 => ?_) (fun h3 => ?_)
  · skip
    refine CW.seq ?_
    refine CW.region ?_
    refine RW.v rfl (V.as (d := I (-1)) rfl rfl) ?_
    refine RW.nil ?_
    refine CW.le [(4, I (-1))] rfl (Le.c rfl <| Le.e) ?_
    refine CW.ret ?_
    exact Post.int rfl (by first | (simp_all [szApplied]; done) | (simp_all [szApplied]; omega)) (AOs.a rfl (AOs.r AOs.e))
  · skip
    refine CW.skip ?_
    refine CW.le [(1, I (szEntry a.entry left))] rfl (Le.c rfl <| Le.e) ?_
    refine CW.seq ?_
    refine CW.region ?_
    refine RW.v rfl (V.mv (d := I (szEntry a.entry left)) rfl rfl) ?_
    refine RW.v rfl (V.as (d := I (szEntry a.entry left)) rfl rfl) ?_
    refine RW.nil ?_
    refine CW.le [(4, I (szEntry a.entry left))] rfl (Le.c rfl <| Le.e) ?_
    refine CW.ret ?_
    exact Post.int rfl (by first | (simp_all [szApplied]; done) | (simp_all [szApplied]; omega)) (AOs.a rfl (AOs.r AOs.e))
theorem laws_szAppliedS_fn (a : List Applied) (left : Int) : Eng.Fn E.P 9 [.one (.r (sl 6 Applied.c a)), .one (.r (.v (.int .i64 left)))] (.one (.one (.w (.v (.int .i64 (szS szApplied a left)))))) [.one (.r (sl 6 Applied.c a)), .one (.r (.v (.int .i64 left)))] := by
  refine Eng.Fn.intro (E := E) (rvs := [.tmp 4]) Try.func9 rfl rfl rfl (by simp [outSlots, moved, rvSlot]) ?_
  intro B g bo
  refine CW.bound (x := .tmp 0) (n := a.length) (AsT.r) (fun hl0 => ?_)
  refine CW.le [(0, .r (sl 6 Applied.c a)), (1, I left)] rfl (Le.c rfl <| Le.c rfl <| Le.e) ?_
  refine CW.seq ?_
  refine CW.region ?_
  refine RW.v rfl (V.as (d := I 0) rfl rfl) ?_
  refine RW.nil ?_
  refine CW.le [(0, .r (sl 6 Applied.c a)), (1, I left)] rfl (Le.c rfl <| Le.c rfl <| Le.e) ?_
  refine CW.seq ?_
  refine CW.region ?_
  refine RW.v rfl (V.mv (d := I left) rfl rfl) ?_
  refine RW.v rfl (V.mv (d := .r (sl 6 Applied.c a)) rfl rfl) ?_
  refine RW.v rfl (V.lenT (n := a.length) rfl rfl rfl .r) ?_
  refine RW.v rfl (V.arInt rfl rfl rfl rfl) ?_
  refine RW.v rfl (V.as (d := I (IntKind.i64.wrap (left - (a.length : Int)))) rfl rfl) ?_
  refine RW.nil ?_
  refine CW.le [(0, .r (sl 6 Applied.c a)), (1, I (IntKind.i64.wrap (left - (a.length : Int))))] rfl (Le.c rfl <| Le.c rfl <| Le.e) ?_
  refine CW.seq ?_
  refine CW.seq ?_
  refine CW.region ?_
  refine RW.v rfl (V.mv (d := I (IntKind.i64.wrap (left - (a.length : Int)))) rfl rfl) ?_
  refine RW.v rfl (V.cmpInt rfl rfl rfl rfl) ?_
  refine RW.nil ?_
  refine CW.le [(0, .r (sl 6 Applied.c a)), (1, I (IntKind.i64.wrap (left - (a.length : Int)))), (11, Bo (decide ((IntKind.i64.wrap (left - (a.length : Int))) < 0)))] rfl (Le.c rfl <| Le.c rfl <| Le.c rfl <| Le.e) ?_
  refine CW.cond rfl (fun h1 => ?_) (fun h1 => ?_)
  · skip
    refine CW.seq ?_
    refine CW.region ?_
    refine RW.v rfl (V.as (d := I (-1)) rfl rfl) ?_
    refine RW.nil ?_
    refine CW.le [(4, I (-1))] rfl (Le.c rfl <| Le.e) ?_
    refine CW.ret ?_
    exact Post.int rfl (by first | (simp_all [szS, szL]; done) | grind [szS, szL]) (AOs.r (AOs.r AOs.e))
  · skip
    refine CW.skip ?_
    refine CW.le [(0, .r (sl 6 Applied.c a)), (1, I (IntKind.i64.wrap (left - (a.length : Int))))] rfl (Le.c rfl <| Le.c rfl <| Le.e) ?_
    refine CW.seq ?_
    refine CW.seq ?_
    refine CW.region ?_
    refine RW.v rfl (V.as (d := I 0) rfl rfl) ?_
    refine RW.nil ?_
    refine CW.le [(0, .r (sl 6 Applied.c a)), (1, I (IntKind.i64.wrap (left - (a.length : Int)))), (5, I 0)] rfl (Le.c rfl <| Le.c rfl <| Le.c rfl <| Le.e) ?_
    refine CW.block ?_
    refine CW.loopI 27 (fun (x : Nat × Int) => match x with | (i, l) => [(0, .r (sl 6 Applied.c a)), (1, I l), (5, I (i : Int))]) (fun (x : Nat × Int) => match x with | (i, l) => i ≤ a.length ∧ szL szApplied (a.drop i) l = szS szApplied a left) (fun (x : Nat × Int) => match x with | (i, l) => a.length - i) (0, _) rfl (Le.c rfl <| Le.c rfl <| Le.c rfl <| Le.e) ⟨by omega, by first | (simp_all [szS]; done) | grind [szS]⟩ ?_
    rintro ⟨i, l⟩ ⟨hb, hr⟩
    refine CW.seq ?_
    refine CW.seq ?_
    refine CW.region ?_
    refine RW.v rfl (V.mv (d := I (i : Int)) rfl rfl) ?_
    refine RW.v rfl (V.mv (d := .r (sl 6 Applied.c a)) rfl rfl) ?_
    refine RW.v rfl (V.lenT (n := a.length) rfl rfl rfl .r) ?_
    refine RW.v rfl (V.cmpInt rfl rfl rfl rfl) ?_
    refine RW.nil ?_
    refine CW.le [(0, .r (sl 6 Applied.c a)), (1, I l), (5, I (i : Int)), (15, Bo (decide ((i : Int) < (a.length : Int))))] rfl (Le.c rfl <| Le.c rfl <| Le.c rfl <| Le.c rfl <| Le.e) ?_
    refine CW.cond rfl (fun h2 => ?_) (fun h2 => ?_)
    · skip
      have hii : i < a.length := by have := h2; simp at this; first | exact this | (simp; omega)
      obtain ⟨ei, hei⟩ : ∃ e, a[i]? = some e := ⟨_, List.getElem?_eq_getElem hii⟩
      have hdi := drop_get hei
      refine CW.skip ?_
      refine CW.le [(0, .r (sl 6 Applied.c a)), (1, I l), (5, I (i : Int))] rfl (Le.c rfl <| Le.c rfl <| Le.c rfl <| Le.e) ?_
      refine CW.seq ?_
      refine CW.block ?_
      refine CW.seq ?_
      refine CW.region ?_
      refine RW.v rfl (V.mv (d := .r (sl 6 Applied.c a)) rfl rfl) ?_
      refine RW.v rfl (V.mv (d := I (i : Int)) rfl rfl) ?_
      refine RW.v rfl (V.indexS rfl rfl rfl rfl rfl rfl Applied.len hei) ?_
      refine RW.v rfl (V.loadAggR rfl rfl rfl rfl (Nat.le_of_ble_eq_true rfl)) ?_
      refine RW.v rfl (V.mv (d := I l) rfl rfl) ?_
      refine RW.call rfl (laws_szApplied_fn ei l) rfl (.cons (.agg (.cons (.r .r) (.cons (.r .r) (.cons (.r .r) (.cons (.r .r) (.cons (.r .r) (.cons (.r .r) (.nil)))))))) (.cons (.one (.r .r)) (.nil))) fun g3 => ?_
      refine RW.v rfl (V.as (d := I (szApplied ei l)) rfl rfl) ?_
      refine RW.nil ?_
      refine CW.le [(0, .r (sl 6 Applied.c a)), (1, I (szApplied ei l)), (5, I (i : Int))] rfl (Le.c rfl <| Le.c rfl <| Le.c rfl <| Le.e) ?_
      refine CW.seq ?_
      refine CW.region ?_
      refine RW.v rfl (V.mv (d := I (szApplied ei l)) rfl rfl) ?_
      refine RW.v rfl (V.cmpInt rfl rfl rfl rfl) ?_
      refine RW.nil ?_
      refine CW.le [(0, .r (sl 6 Applied.c a)), (1, I (szApplied ei l)), (5, I (i : Int)), (25, Bo (decide ((szApplied ei l) < 0)))] rfl (Le.c rfl <| Le.c rfl <| Le.c rfl <| Le.c rfl <| Le.e) ?_
      refine CW.cond rfl (fun h4 => ?_) (fun h4 => ?_)
      · skip
        refine CW.seq ?_
        refine CW.region ?_
        refine RW.v rfl (V.as (d := I (-1)) rfl rfl) ?_
        refine RW.nil ?_
        refine CW.le [(4, I (-1))] rfl (Le.c rfl <| Le.e) ?_
        refine CW.ret ?_
        exact Post.int rfl (by first | (simp_all [szS, szL]; done) | grind [szS, szL]) (AOs.r (AOs.r AOs.e))
      · skip
        refine CW.skip ?_
        refine CW.le [(0, .r (sl 6 Applied.c a)), (1, I (szApplied ei l)), (5, I (i : Int))] rfl (Le.c rfl <| Le.c rfl <| Le.c rfl <| Le.e) ?_
        refine CW.region ?_
        refine RW.v rfl (V.mv (d := I (i : Int)) rfl rfl) ?_
        refine RW.v rfl (V.inc rfl rfl rfl hii hl0) ?_
        refine RW.v rfl (V.as (d := I ((i + 1 : Nat) : Int)) rfl rfl) ?_
        refine RW.nil ?_
        exact ⟨(i + 1, _), by simp only []; omega, ⟨by omega, by first | (simp_all [szL]; done) | grind [szL]⟩, rfl, Le.c rfl <| Le.c rfl <| Le.c rfl <| Le.e⟩
    · skip
      have hii : a.length ≤ i := by have := h2; simp at this; first | exact this | (simp; omega)
      have hdi : a.drop i = [] := List.drop_eq_nil_of_le hii
      refine CW.exit ?_
      refine CW.le [(1, I l)] rfl (Le.c rfl <| Le.e) ?_
      refine CW.seq ?_
      refine CW.region ?_
      refine RW.v rfl (V.mv (d := I l) rfl rfl) ?_
      refine RW.v rfl (V.as (d := I l) rfl rfl) ?_
      refine RW.nil ?_
      refine CW.le [(4, I l)] rfl (Le.c rfl <| Le.e) ?_
      refine CW.ret ?_
      exact Post.int rfl (by first | (simp_all [szS, szL]; done) | grind [szS, szL]) (AOs.r (AOs.r AOs.e))
theorem laws_toEntry_fn (a : Entry) : Eng.Fn E.P 64 [.agg ((Entry.c a).map .r)] (.one (.agg ((Entry.c a).map .w))) [.agg ((Entry.c a).map .r)] := by
  refine Eng.Fn.intro (E := E) (rvs := [.cell 2 67]) Try.func64 rfl rfl rfl (by simp [outSlots, moved, rvSlot]) ?_
  intro B g bo
  refine CW.le [(0, .agg ((Entry.c a).map .r))] rfl (Le.c rfl <| Le.e) ?_
  refine CW.seq ?_
  refine CW.region ?_
  refine RW.box (ds := ((Entry.c a).map .r)) rfl rfl rfl fun b1 => ?_
  refine RW.alloc (ds := [I 0, I 0, S (⟨#[]⟩)]) rfl rfl rfl rfl fun b2 => ?_
  refine RW.nil ?_
  refine CW.le [(1, .obj b1 ((Entry.c a).map .r)), (2, .obj b2 [I 0, I 0, S (⟨#[]⟩)])] rfl (Le.c rfl <| Le.c rfl <| Le.e) ?_
  refine CW.seq ?_
  refine CW.region ?_
  refine RW.alloc (ds := [I 0, I 0, S (⟨#[]⟩)]) rfl rfl rfl rfl fun b3 => ?_
  refine RW.nil ?_
  refine CW.le [(1, .obj b1 ((Entry.c a).map .r)), (2, .obj b2 [I 0, I 0, S (⟨#[]⟩)]), (3, .obj b3 [I 0, I 0, S (⟨#[]⟩)])] rfl (Le.c rfl <| Le.c rfl <| Le.c rfl <| Le.e) ?_
  refine CW.seq ?_
  refine CW.region ?_
  refine RW.v rfl (V.field rfl rfl rfl rfl (by decide) rfl) ?_
  refine RW.v rfl (V.loadPrim (d := I a.term) rfl rfl (.inl rfl) rfl rfl rfl) ?_
  refine RW.v rfl (V.field rfl rfl rfl rfl (by decide) rfl) ?_
  refine RW.store (d := I a.term) rfl rfl rfl rfl rfl rfl rfl (Nat.le_of_ble_eq_true rfl) rfl rfl ?_
  refine RW.nil ?_
  refine CW.le [(1, .obj b1 ((Entry.c a).map .r)), (2, .obj b2 [I 0, I 0, S (⟨#[]⟩)]), (3, .obj b3 [I a.term, I 0, S (⟨#[]⟩)])] rfl (Le.c rfl <| Le.c rfl <| Le.c rfl <| Le.e) ?_
  refine CW.seq ?_
  refine CW.region ?_
  refine RW.v rfl (V.field rfl rfl rfl rfl (by decide) rfl) ?_
  refine RW.v rfl (V.loadPrim (d := I a.kind) rfl rfl (.inl rfl) rfl rfl rfl) ?_
  refine RW.v rfl (V.field rfl rfl rfl rfl (by decide) rfl) ?_
  refine RW.store (d := I a.kind) rfl rfl rfl rfl rfl rfl rfl (Nat.le_of_ble_eq_true rfl) rfl rfl ?_
  refine RW.nil ?_
  refine CW.le [(1, .obj b1 ((Entry.c a).map .r)), (2, .obj b2 [I 0, I 0, S (⟨#[]⟩)]), (3, .obj b3 [I a.term, I a.kind, S (⟨#[]⟩)])] rfl (Le.c rfl <| Le.c rfl <| Le.c rfl <| Le.e) ?_
  refine CW.seq ?_
  refine CW.region ?_
  refine RW.v rfl (V.field rfl rfl rfl rfl (by decide) rfl) ?_
  refine RW.v rfl (V.loadPrim (d := S a.data) rfl rfl (.inl rfl) rfl rfl rfl) ?_
  refine RW.v rfl (V.field rfl rfl rfl rfl (by decide) rfl) ?_
  refine RW.store (d := S a.data) rfl rfl rfl rfl rfl rfl rfl (Nat.le_of_ble_eq_true rfl) rfl rfl ?_
  refine RW.nil ?_
  refine CW.le [(2, .obj b2 [I 0, I 0, S (⟨#[]⟩)]), (3, .obj b3 ((Entry.c a).map .r))] rfl (Le.c rfl <| Le.c rfl <| Le.e) ?_
  refine CW.seq ?_
  refine CW.region ?_
  refine RW.v rfl (V.loadAgg rfl rfl rfl rfl rfl (Nat.le_of_ble_eq_true rfl)) ?_
  refine RW.storeAgg (es := ((Entry.c a).map .r)) rfl rfl rfl rfl rfl rfl rfl rfl (Nat.le_of_ble_eq_true rfl) rfl ?_
  refine RW.nil ?_
  refine CW.le [(2, .obj b2 ((Entry.c a).map .r))] rfl (Le.c rfl <| Le.e) ?_
  refine CW.ret ?_
  exact Post.cell rfl rfl rfl rfl (DT.v (DT.v (DT.v DT.e))) (AOs.a rfl AOs.e)
theorem laws_toApplied_fn (a : Applied) : Eng.Fn E.P 38 [.agg ((Applied.c a).map .r)] (.one (.agg ((Applied.c a).map .w))) [.agg ((Applied.c a).map .r)] := by
  refine Eng.Fn.intro (E := E) (rvs := [.cell 2 69]) Try.func38 rfl rfl rfl (by simp [outSlots, moved, rvSlot]) ?_
  intro B g bo
  refine CW.le [(0, .agg ((Applied.c a).map .r))] rfl (Le.c rfl <| Le.e) ?_
  refine CW.seq ?_
  refine CW.region ?_
  refine RW.box (ds := ((Applied.c a).map .r)) rfl rfl rfl fun b1 => ?_
  refine RW.alloc (ds := [I 0, I 0, I 0, I 0, I 0, S (⟨#[]⟩)]) rfl rfl rfl rfl fun b2 => ?_
  refine RW.nil ?_
  refine CW.le [(1, .obj b1 ((Applied.c a).map .r)), (2, .obj b2 [I 0, I 0, I 0, I 0, I 0, S (⟨#[]⟩)])] rfl (Le.c rfl <| Le.c rfl <| Le.e) ?_
  refine CW.seq ?_
  refine CW.region ?_
  refine RW.alloc (ds := [I 0, I 0, I 0, I 0, I 0, S (⟨#[]⟩)]) rfl rfl rfl rfl fun b3 => ?_
  refine RW.nil ?_
  refine CW.le [(1, .obj b1 ((Applied.c a).map .r)), (2, .obj b2 [I 0, I 0, I 0, I 0, I 0, S (⟨#[]⟩)]), (3, .obj b3 [I 0, I 0, I 0, I 0, I 0, S (⟨#[]⟩)])] rfl (Le.c rfl <| Le.c rfl <| Le.c rfl <| Le.e) ?_
  refine CW.seq ?_
  refine CW.region ?_
  refine RW.v rfl (V.field rfl rfl rfl rfl (by decide) rfl) ?_
  refine RW.v rfl (V.loadPrim (d := I a.node) rfl rfl (.inl rfl) rfl rfl rfl) ?_
  refine RW.v rfl (V.field rfl rfl rfl rfl (by decide) rfl) ?_
  refine RW.store (d := I a.node) rfl rfl rfl rfl rfl rfl rfl (Nat.le_of_ble_eq_true rfl) rfl rfl ?_
  refine RW.nil ?_
  refine CW.le [(1, .obj b1 ((Applied.c a).map .r)), (2, .obj b2 [I 0, I 0, I 0, I 0, I 0, S (⟨#[]⟩)]), (3, .obj b3 [I a.node, I 0, I 0, I 0, I 0, S (⟨#[]⟩)])] rfl (Le.c rfl <| Le.c rfl <| Le.c rfl <| Le.e) ?_
  refine CW.seq ?_
  refine CW.region ?_
  refine RW.v rfl (V.field rfl rfl rfl rfl (by decide) rfl) ?_
  refine RW.v rfl (V.loadPrim (d := I a.term) rfl rfl (.inl rfl) rfl rfl rfl) ?_
  refine RW.v rfl (V.field rfl rfl rfl rfl (by decide) rfl) ?_
  refine RW.store (d := I a.term) rfl rfl rfl rfl rfl rfl rfl (Nat.le_of_ble_eq_true rfl) rfl rfl ?_
  refine RW.nil ?_
  refine CW.le [(1, .obj b1 ((Applied.c a).map .r)), (2, .obj b2 [I 0, I 0, I 0, I 0, I 0, S (⟨#[]⟩)]), (3, .obj b3 [I a.node, I a.term, I 0, I 0, I 0, S (⟨#[]⟩)])] rfl (Le.c rfl <| Le.c rfl <| Le.c rfl <| Le.e) ?_
  refine CW.seq ?_
  refine CW.region ?_
  refine RW.v rfl (V.field rfl rfl rfl rfl (by decide) rfl) ?_
  refine RW.v rfl (V.loadPrim (d := I a.index) rfl rfl (.inl rfl) rfl rfl rfl) ?_
  refine RW.v rfl (V.field rfl rfl rfl rfl (by decide) rfl) ?_
  refine RW.store (d := I a.index) rfl rfl rfl rfl rfl rfl rfl (Nat.le_of_ble_eq_true rfl) rfl rfl ?_
  refine RW.nil ?_
  refine CW.le [(1, .obj b1 ((Applied.c a).map .r)), (2, .obj b2 [I 0, I 0, I 0, I 0, I 0, S (⟨#[]⟩)]), (3, .obj b3 [I a.node, I a.term, I a.index, I 0, I 0, S (⟨#[]⟩)])] rfl (Le.c rfl <| Le.c rfl <| Le.c rfl <| Le.e) ?_
  refine CW.seq ?_
  refine CW.region ?_
  refine RW.v rfl (V.field rfl rfl rfl rfl (by decide) rfl) ?_
  refine RW.v rfl (V.loadAgg rfl rfl rfl rfl rfl (Nat.le_of_ble_eq_true rfl)) ?_
  refine RW.call rfl (laws_toEntry_fn a.entry) rfl (.cons (.agg (.cons (.r .r) (.cons (.r .r) (.cons (.r .r) (.nil))))) (.nil)) fun g4 => ?_
  refine RW.v rfl (V.field rfl rfl rfl rfl (by decide) rfl) ?_
  refine RW.storeAgg (es := ((Entry.c a.entry).map .r)) rfl rfl rfl rfl rfl rfl rfl rfl (Nat.le_of_ble_eq_true rfl) rfl ?_
  refine RW.nil ?_
  refine CW.le [(2, .obj b2 [I 0, I 0, I 0, I 0, I 0, S (⟨#[]⟩)]), (3, .obj b3 ((Applied.c a).map .r))] rfl (Le.c rfl <| Le.c rfl <| Le.e) ?_
  refine CW.seq ?_
  refine CW.region ?_
  refine RW.v rfl (V.loadAgg rfl rfl rfl rfl rfl (Nat.le_of_ble_eq_true rfl)) ?_
  refine RW.storeAgg (es := ((Applied.c a).map .r)) rfl rfl rfl rfl rfl rfl rfl rfl (Nat.le_of_ble_eq_true rfl) rfl ?_
  refine RW.nil ?_
  refine CW.le [(2, .obj b2 ((Applied.c a).map .r))] rfl (Le.c rfl <| Le.e) ?_
  refine CW.ret ?_
  exact Post.cell rfl rfl rfl rfl (DT.v (DT.v (DT.v (DT.v (DT.v (DT.v DT.e)))))) (AOs.a rfl AOs.e)
theorem laws_toAppliedS_fn (a : List Applied) (hm : a.length ≤ 1048576) : Eng.Fn E.P 11 [.one (.r (sl 6 Applied.c a))] (.one (.one (.w (sl 6 Applied.c a)))) [.one (.r (sl 6 Applied.c a))] := by
  refine Eng.Fn.intro (E := E) (rvs := [.tmp 2]) Try.func11 rfl rfl rfl (by simp [outSlots, moved, rvSlot]) ?_
  intro B g bo
  refine CW.bound (x := .tmp 0) (n := a.length) (AsT.r) (fun hl0 => ?_)
  refine CW.le [(0, .r (sl 6 Applied.c a))] rfl (Le.c rfl <| Le.e) ?_
  refine CW.seq ?_
  refine CW.region ?_
  refine RW.v rfl (V.as (d := .r (.v (.slice none 0 0))) rfl rfl) ?_
  refine RW.nil ?_
  refine CW.le [(0, .r (sl 6 Applied.c a))] rfl (Le.c rfl <| Le.e) ?_
  refine CW.seq ?_
  refine CW.region ?_
  refine RW.v rfl (V.mv (d := .r (sl 6 Applied.c a)) rfl rfl) ?_
  refine RW.v rfl (V.lenT (n := a.length) rfl rfl rfl .r) ?_
  refine RW.makeS (n := a.length) (c := Applied.c) Applied.z rfl rfl rfl rfl rfl rfl rfl rfl rfl (by show 56 * a.length ≤ 281474976710656; omega) (by simp only [maxLen]; omega) fun X1 => ?_
  refine RW.assignMove rfl rfl rfl (by decide) (Nat.le_of_ble_eq_true rfl) (Nat.le_of_ble_eq_true rfl) ?_
  refine RW.nil ?_
  refine CW.le [(0, .r (sl 6 Applied.c a)), (3, .w (sl 6 Applied.c (List.replicate a.length Applied.z)) X1)] rfl (Le.c rfl <| Le.c rfl <| Le.e) ?_
  refine CW.seq ?_
  refine CW.seq ?_
  refine CW.region ?_
  refine RW.v rfl (V.as (d := I 0) rfl rfl) ?_
  refine RW.nil ?_
  refine CW.le [(0, .r (sl 6 Applied.c a)), (3, .w (sl 6 Applied.c (List.replicate a.length Applied.z)) X1), (4, I 0)] rfl (Le.c rfl <| Le.c rfl <| Le.c rfl <| Le.e) ?_
  refine CW.block ?_
  refine CW.loopI 23 (fun (i : Nat) => [(0, .r (sl 6 Applied.c a)), (3, .w (sl 6 Applied.c (a.take i ++ List.replicate (a.length - i) Applied.z)) X1), (4, I (i : Int))]) (fun (i : Nat) => i ≤ a.length) (fun (i : Nat) => a.length - i) 0 rfl (Le.c rfl <| Le.c rfl <| Le.c rfl <| Le.e) (by omega) ?_
  rintro i hb
  refine CW.seq ?_
  refine CW.seq ?_
  refine CW.region ?_
  refine RW.v rfl (V.mv (d := I (i : Int)) rfl rfl) ?_
  refine RW.v rfl (V.mv (d := .r (sl 6 Applied.c a)) rfl rfl) ?_
  refine RW.v rfl (V.lenT (n := a.length) rfl rfl rfl .r) ?_
  refine RW.v rfl (V.cmpInt rfl rfl rfl rfl) ?_
  refine RW.nil ?_
  refine CW.le [(0, .r (sl 6 Applied.c a)), (3, .w (sl 6 Applied.c (a.take i ++ List.replicate (a.length - i) Applied.z)) X1), (4, I (i : Int)), (11, Bo (decide ((i : Int) < (a.length : Int))))] rfl (Le.c rfl <| Le.c rfl <| Le.c rfl <| Le.c rfl <| Le.e) ?_
  refine CW.cond rfl (fun h2 => ?_) (fun h2 => ?_)
  · skip
    have hii : i < a.length := by have := h2; simp at this; first | exact this | (simp; omega)
    obtain ⟨ei, hei⟩ : ∃ e, a[i]? = some e := ⟨_, List.getElem?_eq_getElem hii⟩
    have hdi := drop_get hei
    refine CW.skip ?_
    refine CW.le [(0, .r (sl 6 Applied.c a)), (3, .w (sl 6 Applied.c (a.take i ++ List.replicate (a.length - i) Applied.z)) X1), (4, I (i : Int))] rfl (Le.c rfl <| Le.c rfl <| Le.c rfl <| Le.e) ?_
    refine CW.seq ?_
    refine CW.block ?_
    refine CW.region ?_
    refine RW.v rfl (V.mv (d := .al 3 none 6 ((a.take i ++ List.replicate (a.length - i) Applied.z).length) X1 0) rfl rfl) ?_
    refine RW.v rfl (V.mv (d := I (i : Int)) rfl rfl) ?_
    refine RW.v rfl (V.mv (d := .r (sl 6 Applied.c a)) rfl rfl) ?_
    refine RW.v rfl (V.mv (d := I (i : Int)) rfl rfl) ?_
    refine RW.v rfl (V.indexS rfl rfl rfl rfl rfl rfl Applied.len hei) ?_
    refine RW.v rfl (V.loadAggR rfl rfl rfl rfl (Nat.le_of_ble_eq_true rfl)) ?_
    refine RW.call rfl (laws_toApplied_fn ei) rfl (.cons (.agg (.cons (.r .r) (.cons (.r .r) (.cons (.r .r) (.cons (.r .r) (.cons (.r .r) (.cons (.r .r) (.nil)))))))) (.nil)) fun g3 => ?_
    refine RW.v rfl (V.indexW rfl rfl rfl rfl rfl rfl rfl (by simp; omega)) ?_
    refine RW.storeS (v := ei) rfl rfl rfl rfl rfl rfl rfl (DW.v (DW.v (DW.v (DW.v (DW.v (DW.v DW.e)))))) Applied.len (by decide) (by simp; omega) rfl ?_
    refine RW.nil ?_
    refine CW.le [(0, .r (sl 6 Applied.c a)), (3, .w (sl 6 Applied.c ((a.take i ++ List.replicate (a.length - i) Applied.z).set i ei)) X1), (4, I (i : Int))] rfl (Le.c rfl <| Le.c rfl <| Le.c rfl <| Le.e) ?_
    refine CW.region ?_
    refine RW.v rfl (V.mv (d := I (i : Int)) rfl rfl) ?_
    refine RW.v rfl (V.inc rfl rfl rfl hii hl0) ?_
    refine RW.v rfl (V.as (d := I ((i + 1 : Nat) : Int)) rfl rfl) ?_
    refine RW.nil ?_
    exact ⟨i + 1, by omega, by omega, rfl, Le.c rfl <| Le.c (congrArg (fun l => D.w (sl _ Applied.c l) X1) (take_set hei)) <| Le.c rfl <| Le.e⟩
  · skip
    have hii : a.length ≤ i := by have := h2; simp at this; first | exact this | (simp; omega)
    have hdi : a.drop i = [] := List.drop_eq_nil_of_le hii
    refine CW.exit ?_
    refine CW.le [(3, .w (sl 6 Applied.c (a.take i ++ List.replicate (a.length - i) Applied.z)) X1)] rfl (Le.c rfl <| Le.e) ?_
    refine CW.seq ?_
    refine CW.region ?_
    refine RW.v rfl (V.mv (d := .al 3 none 6 ((a.take i ++ List.replicate (a.length - i) Applied.z).length) X1 0) rfl rfl) ?_
    refine RW.v rfl (V.as (d := .al 3 none 6 ((a.take i ++ List.replicate (a.length - i) Applied.z).length) X1 0) rfl rfl) ?_
    refine RW.nil ?_
    refine CW.le [(2, .al 3 none 6 ((a.take i ++ List.replicate (a.length - i) Applied.z).length) X1 0), (3, .w (sl 6 Applied.c (a.take i ++ List.replicate (a.length - i) Applied.z)) X1)] rfl (Le.c rfl <| Le.c rfl <| Le.e) ?_
    refine CW.pull 2 3 (by decide) rfl rfl ?_
    refine CW.ret ?_
    exact Post.own rfl (by rw [List.take_of_length_le hii, show a.length - i = 0 from by omega]; simp) (AOs.r AOs.e)
theorem laws_eqEntry_fn (a : Entry) (b : Entry) : Eng.Fn E.P 48 [.agg ((Entry.c a).map .r), .agg ((Entry.c b).map .r)] (.one (.one (.w (.v (.bool (eqEntry a b)))))) [.agg ((Entry.c a).map .r), .agg ((Entry.c b).map .r)] := by
  refine Eng.Fn.intro (E := E) (rvs := [.tmp 4]) Try.func48 rfl rfl rfl (by simp [outSlots, moved, rvSlot]) ?_
  intro B g bo
  refine CW.le [(0, .agg ((Entry.c a).map .r)), (1, .agg ((Entry.c b).map .r))] rfl (Le.c rfl <| Le.c rfl <| Le.e) ?_
  refine CW.seq ?_
  refine CW.region ?_
  refine RW.box (ds := ((Entry.c a).map .r)) rfl rfl rfl fun b1 => ?_
  refine RW.box (ds := ((Entry.c b).map .r)) rfl rfl rfl fun b2 => ?_
  refine RW.v rfl (V.as (d := Bo false) rfl rfl) ?_
  refine RW.nil ?_
  refine CW.le [(2, .obj b1 ((Entry.c a).map .r)), (3, .obj b2 ((Entry.c b).map .r))] rfl (Le.c rfl <| Le.c rfl <| Le.e) ?_
  refine CW.seq ?_
  refine CW.seq ?_
  refine CW.region ?_
  refine RW.v rfl (V.field rfl rfl rfl rfl (by decide) rfl) ?_
  refine RW.v rfl (V.loadPrim (d := I a.term) rfl rfl (.inl rfl) rfl rfl rfl) ?_
  refine RW.v rfl (V.field rfl rfl rfl rfl (by decide) rfl) ?_
  refine RW.v rfl (V.loadPrim (d := I b.term) rfl rfl (.inl rfl) rfl rfl rfl) ?_
  refine RW.v rfl (V.cmpInt rfl rfl rfl rfl) ?_
  refine RW.nil ?_
  refine CW.le [(2, .obj b1 ((Entry.c a).map .r)), (3, .obj b2 ((Entry.c b).map .r)), (9, Bo (a.term != b.term))] rfl (Le.c rfl <| Le.c rfl <| Le.c rfl <| Le.e) ?_
  refine CW.cond rfl (fun h3 => ?_) (fun h3 => ?_)
  · skip
    refine CW.seq ?_
    refine CW.region ?_
    refine RW.v rfl (V.as (d := Bo false) rfl rfl) ?_
    refine RW.nil ?_
    refine CW.le [(4, Bo false)] rfl (Le.c rfl <| Le.e) ?_
    refine CW.ret ?_
    exact Post.bool rfl (by simp_all [eqEntry]) (AOs.a rfl (AOs.a rfl AOs.e))
  · skip
    refine CW.skip ?_
    refine CW.le [(2, .obj b1 ((Entry.c a).map .r)), (3, .obj b2 ((Entry.c b).map .r))] rfl (Le.c rfl <| Le.c rfl <| Le.e) ?_
    refine CW.seq ?_
    refine CW.seq ?_
    refine CW.region ?_
    refine RW.v rfl (V.field rfl rfl rfl rfl (by decide) rfl) ?_
    refine RW.v rfl (V.loadPrim (d := I a.kind) rfl rfl (.inl rfl) rfl rfl rfl) ?_
    refine RW.v rfl (V.field rfl rfl rfl rfl (by decide) rfl) ?_
    refine RW.v rfl (V.loadPrim (d := I b.kind) rfl rfl (.inl rfl) rfl rfl rfl) ?_
    refine RW.v rfl (V.cmpInt rfl rfl rfl rfl) ?_
    refine RW.nil ?_
    refine CW.le [(2, .obj b1 ((Entry.c a).map .r)), (3, .obj b2 ((Entry.c b).map .r)), (14, Bo (a.kind != b.kind))] rfl (Le.c rfl <| Le.c rfl <| Le.c rfl <| Le.e) ?_
    refine CW.cond rfl (fun h4 => ?_) (fun h4 => ?_)
    · skip
      refine CW.seq ?_
      refine CW.region ?_
      refine RW.v rfl (V.as (d := Bo false) rfl rfl) ?_
      refine RW.nil ?_
      refine CW.le [(4, Bo false)] rfl (Le.c rfl <| Le.e) ?_
      refine CW.ret ?_
      exact Post.bool rfl (by simp_all [eqEntry]) (AOs.a rfl (AOs.a rfl AOs.e))
    · skip
      refine CW.skip ?_
      refine CW.le [(2, .obj b1 ((Entry.c a).map .r)), (3, .obj b2 ((Entry.c b).map .r))] rfl (Le.c rfl <| Le.c rfl <| Le.e) ?_
      refine CW.seq ?_
      refine CW.seq ?_
      refine CW.region ?_
      refine RW.v rfl (V.field rfl rfl rfl rfl (by decide) rfl) ?_
      refine RW.v rfl (V.loadPrim (d := S a.data) rfl rfl (.inl rfl) rfl rfl rfl) ?_
      refine RW.v rfl (V.field rfl rfl rfl rfl (by decide) rfl) ?_
      refine RW.v rfl (V.loadPrim (d := S b.data) rfl rfl (.inl rfl) rfl rfl rfl) ?_
      refine RW.v rfl (V.strCmp rfl rfl rfl rfl) ?_
      refine RW.nil ?_
      refine CW.le [(19, Bo (!(a.data.toList == b.data.toList)))] rfl (Le.c rfl <| Le.e) ?_
      refine CW.cond rfl (fun h5 => ?_) (fun h5 => ?_)
      · skip
        refine CW.seq ?_
        refine CW.region ?_
        refine RW.v rfl (V.as (d := Bo false) rfl rfl) ?_
        refine RW.nil ?_
        refine CW.le [(4, Bo false)] rfl (Le.c rfl <| Le.e) ?_
        refine CW.ret ?_
        exact Post.bool rfl (by simp_all [eqEntry]) (AOs.a rfl (AOs.a rfl AOs.e))
      · skip
        refine CW.skip ?_
        refine CW.le [] rfl (Le.e) ?_
        refine CW.seq ?_
        refine CW.region ?_
        refine RW.v rfl (V.as (d := Bo true) rfl rfl) ?_
        refine RW.nil ?_
        refine CW.le [(4, Bo true)] rfl (Le.c rfl <| Le.e) ?_
        refine CW.ret ?_
        exact Post.bool rfl (by simp_all [eqEntry]) (AOs.a rfl (AOs.a rfl AOs.e))
theorem laws_eqApplied_fn (a : Applied) (b : Applied) : Eng.Fn E.P 39 [.agg ((Applied.c a).map .r), .agg ((Applied.c b).map .r)] (.one (.one (.w (.v (.bool (eqApplied a b)))))) [.agg ((Applied.c a).map .r), .agg ((Applied.c b).map .r)] := by
  refine Eng.Fn.intro (E := E) (rvs := [.tmp 4]) Try.func39 rfl rfl rfl (by simp [outSlots, moved, rvSlot]) ?_
  intro B g bo
  refine CW.le [(0, .agg ((Applied.c a).map .r)), (1, .agg ((Applied.c b).map .r))] rfl (Le.c rfl <| Le.c rfl <| Le.e) ?_
  refine CW.seq ?_
  refine CW.region ?_
  refine RW.box (ds := ((Applied.c a).map .r)) rfl rfl rfl fun b1 => ?_
  refine RW.box (ds := ((Applied.c b).map .r)) rfl rfl rfl fun b2 => ?_
  refine RW.v rfl (V.as (d := Bo false) rfl rfl) ?_
  refine RW.nil ?_
  refine CW.le [(2, .obj b1 ((Applied.c a).map .r)), (3, .obj b2 ((Applied.c b).map .r))] rfl (Le.c rfl <| Le.c rfl <| Le.e) ?_
  refine CW.seq ?_
  refine CW.seq ?_
  refine CW.region ?_
  refine RW.v rfl (V.field rfl rfl rfl rfl (by decide) rfl) ?_
  refine RW.v rfl (V.loadPrim (d := I a.node) rfl rfl (.inl rfl) rfl rfl rfl) ?_
  refine RW.v rfl (V.field rfl rfl rfl rfl (by decide) rfl) ?_
  refine RW.v rfl (V.loadPrim (d := I b.node) rfl rfl (.inl rfl) rfl rfl rfl) ?_
  refine RW.v rfl (V.cmpInt rfl rfl rfl rfl) ?_
  refine RW.nil ?_
  refine CW.le [(2, .obj b1 ((Applied.c a).map .r)), (3, .obj b2 ((Applied.c b).map .r)), (9, Bo (a.node != b.node))] rfl (Le.c rfl <| Le.c rfl <| Le.c rfl <| Le.e) ?_
  refine CW.cond rfl (fun h3 => ?_) (fun h3 => ?_)
  · skip
    refine CW.seq ?_
    refine CW.region ?_
    refine RW.v rfl (V.as (d := Bo false) rfl rfl) ?_
    refine RW.nil ?_
    refine CW.le [(4, Bo false)] rfl (Le.c rfl <| Le.e) ?_
    refine CW.ret ?_
    exact Post.bool rfl (by simp_all [eqApplied]) (AOs.a rfl (AOs.a rfl AOs.e))
  · skip
    refine CW.skip ?_
    refine CW.le [(2, .obj b1 ((Applied.c a).map .r)), (3, .obj b2 ((Applied.c b).map .r))] rfl (Le.c rfl <| Le.c rfl <| Le.e) ?_
    refine CW.seq ?_
    refine CW.seq ?_
    refine CW.region ?_
    refine RW.v rfl (V.field rfl rfl rfl rfl (by decide) rfl) ?_
    refine RW.v rfl (V.loadPrim (d := I a.term) rfl rfl (.inl rfl) rfl rfl rfl) ?_
    refine RW.v rfl (V.field rfl rfl rfl rfl (by decide) rfl) ?_
    refine RW.v rfl (V.loadPrim (d := I b.term) rfl rfl (.inl rfl) rfl rfl rfl) ?_
    refine RW.v rfl (V.cmpInt rfl rfl rfl rfl) ?_
    refine RW.nil ?_
    refine CW.le [(2, .obj b1 ((Applied.c a).map .r)), (3, .obj b2 ((Applied.c b).map .r)), (14, Bo (a.term != b.term))] rfl (Le.c rfl <| Le.c rfl <| Le.c rfl <| Le.e) ?_
    refine CW.cond rfl (fun h4 => ?_) (fun h4 => ?_)
    · skip
      refine CW.seq ?_
      refine CW.region ?_
      refine RW.v rfl (V.as (d := Bo false) rfl rfl) ?_
      refine RW.nil ?_
      refine CW.le [(4, Bo false)] rfl (Le.c rfl <| Le.e) ?_
      refine CW.ret ?_
      exact Post.bool rfl (by simp_all [eqApplied]) (AOs.a rfl (AOs.a rfl AOs.e))
    · skip
      refine CW.skip ?_
      refine CW.le [(2, .obj b1 ((Applied.c a).map .r)), (3, .obj b2 ((Applied.c b).map .r))] rfl (Le.c rfl <| Le.c rfl <| Le.e) ?_
      refine CW.seq ?_
      refine CW.seq ?_
      refine CW.region ?_
      refine RW.v rfl (V.field rfl rfl rfl rfl (by decide) rfl) ?_
      refine RW.v rfl (V.loadPrim (d := I a.index) rfl rfl (.inl rfl) rfl rfl rfl) ?_
      refine RW.v rfl (V.field rfl rfl rfl rfl (by decide) rfl) ?_
      refine RW.v rfl (V.loadPrim (d := I b.index) rfl rfl (.inl rfl) rfl rfl rfl) ?_
      refine RW.v rfl (V.cmpInt rfl rfl rfl rfl) ?_
      refine RW.nil ?_
      refine CW.le [(2, .obj b1 ((Applied.c a).map .r)), (3, .obj b2 ((Applied.c b).map .r)), (19, Bo (a.index != b.index))] rfl (Le.c rfl <| Le.c rfl <| Le.c rfl <| Le.e) ?_
      refine CW.cond rfl (fun h5 => ?_) (fun h5 => ?_)
      · skip
        refine CW.seq ?_
        refine CW.region ?_
        refine RW.v rfl (V.as (d := Bo false) rfl rfl) ?_
        refine RW.nil ?_
        refine CW.le [(4, Bo false)] rfl (Le.c rfl <| Le.e) ?_
        refine CW.ret ?_
        exact Post.bool rfl (by simp_all [eqApplied]) (AOs.a rfl (AOs.a rfl AOs.e))
      · skip
        refine CW.skip ?_
        refine CW.le [(2, .obj b1 ((Applied.c a).map .r)), (3, .obj b2 ((Applied.c b).map .r))] rfl (Le.c rfl <| Le.c rfl <| Le.e) ?_
        refine CW.seq ?_
        refine CW.seq ?_
        refine CW.region ?_
        refine RW.v rfl (V.field rfl rfl rfl rfl (by decide) rfl) ?_
        refine RW.v rfl (V.loadAgg rfl rfl rfl rfl rfl (Nat.le_of_ble_eq_true rfl)) ?_
        refine RW.v rfl (V.field rfl rfl rfl rfl (by decide) rfl) ?_
        refine RW.v rfl (V.loadAgg rfl rfl rfl rfl rfl (Nat.le_of_ble_eq_true rfl)) ?_
        refine RW.call rfl (laws_eqEntry_fn a.entry b.entry) rfl (.cons (.agg (.cons (.r .r) (.cons (.r .r) (.cons (.r .r) (.nil))))) (.cons (.agg (.cons (.r .r) (.cons (.r .r) (.cons (.r .r) (.nil))))) (.nil))) fun g6 => ?_
        refine RW.v rfl (V.not rfl rfl) ?_
        refine RW.nil ?_
        refine CW.le [(25, Bo (!(eqEntry a.entry b.entry)))] rfl (Le.c rfl <| Le.e) ?_
        refine CW.cond rfl (fun h7 => ?_) (fun h7 => ?_)
        · skip
          refine CW.seq ?_
          refine CW.region ?_
          refine RW.v rfl (V.as (d := Bo false) rfl rfl) ?_
          refine RW.nil ?_
          refine CW.le [(4, Bo false)] rfl (Le.c rfl <| Le.e) ?_
          refine CW.ret ?_
          exact Post.bool rfl (by simp_all [eqApplied]) (AOs.a rfl (AOs.a rfl AOs.e))
        · skip
          refine CW.skip ?_
          refine CW.le [] rfl (Le.e) ?_
          refine CW.seq ?_
          refine CW.region ?_
          refine RW.v rfl (V.as (d := Bo true) rfl rfl) ?_
          refine RW.nil ?_
          refine CW.le [(4, Bo true)] rfl (Le.c rfl <| Le.e) ?_
          refine CW.ret ?_
          exact Post.bool rfl (by simp_all [eqApplied]) (AOs.a rfl (AOs.a rfl AOs.e))
theorem laws_eqAppliedS_fn (a : List Applied) (b : List Applied) : Eng.Fn E.P 13 [.one (.r (sl 6 Applied.c a)), .one (.r (sl 6 Applied.c b))] (.one (.one (.w (.v (.bool (eqS eqApplied a b)))))) [.one (.r (sl 6 Applied.c a)), .one (.r (sl 6 Applied.c b))] := by
  refine Eng.Fn.intro (E := E) (rvs := [.tmp 4]) Try.func13 rfl rfl rfl (by simp [outSlots, moved, rvSlot]) ?_
  intro B g bo
  refine CW.bound (x := .tmp 0) (n := a.length) (AsT.r) (fun hl0 => ?_)
  refine CW.bound (x := .tmp 1) (n := b.length) (AsT.r) (fun hl1 => ?_)
  refine CW.le [(0, .r (sl 6 Applied.c a)), (1, .r (sl 6 Applied.c b))] rfl (Le.c rfl <| Le.c rfl <| Le.e) ?_
  refine CW.seq ?_
  refine CW.region ?_
  refine RW.v rfl (V.as (d := Bo false) rfl rfl) ?_
  refine RW.nil ?_
  refine CW.le [(0, .r (sl 6 Applied.c a)), (1, .r (sl 6 Applied.c b))] rfl (Le.c rfl <| Le.c rfl <| Le.e) ?_
  refine CW.seq ?_
  refine CW.seq ?_
  refine CW.region ?_
  refine RW.v rfl (V.mv (d := .r (sl 6 Applied.c a)) rfl rfl) ?_
  refine RW.v rfl (V.lenT (n := a.length) rfl rfl rfl .r) ?_
  refine RW.v rfl (V.mv (d := .r (sl 6 Applied.c b)) rfl rfl) ?_
  refine RW.v rfl (V.lenT (n := b.length) rfl rfl rfl .r) ?_
  refine RW.v rfl (V.cmpInt rfl rfl rfl rfl) ?_
  refine RW.nil ?_
  refine CW.le [(0, .r (sl 6 Applied.c a)), (1, .r (sl 6 Applied.c b)), (10, Bo ((a.length : Int) != (b.length : Int)))] rfl (Le.c rfl <| Le.c rfl <| Le.c rfl <| Le.e) ?_
  refine CW.cond rfl (fun h1 => ?_) (fun h1 => ?_)
  · skip
    refine CW.seq ?_
    refine CW.region ?_
    refine RW.v rfl (V.as (d := Bo false) rfl rfl) ?_
    refine RW.nil ?_
    refine CW.le [(4, Bo false)] rfl (Le.c rfl <| Le.e) ?_
    refine CW.ret ?_
    exact Post.bool rfl (by first | (simp_all [eqS]; done) | exact (eqS_ne (by simp_all; omega)).symm) (AOs.r (AOs.r AOs.e))
  · skip
    refine CW.skip ?_
    refine CW.le [(0, .r (sl 6 Applied.c a)), (1, .r (sl 6 Applied.c b))] rfl (Le.c rfl <| Le.c rfl <| Le.e) ?_
    refine CW.seq ?_
    refine CW.seq ?_
    refine CW.region ?_
    refine RW.v rfl (V.as (d := I 0) rfl rfl) ?_
    refine RW.nil ?_
    refine CW.le [(0, .r (sl 6 Applied.c a)), (1, .r (sl 6 Applied.c b)), (5, I 0)] rfl (Le.c rfl <| Le.c rfl <| Le.c rfl <| Le.e) ?_
    refine CW.block ?_
    refine CW.loopI 27 (fun (i : Nat) => [(0, .r (sl 6 Applied.c a)), (1, .r (sl 6 Applied.c b)), (5, I (i : Int))]) (fun (i : Nat) => i ≤ a.length ∧ eqS eqApplied (a.drop i) (b.drop i) = eqS eqApplied a b) (fun (i : Nat) => a.length - i) 0 rfl (Le.c rfl <| Le.c rfl <| Le.c rfl <| Le.e) ⟨by omega, by simp⟩ ?_
    rintro i ⟨hb, hr⟩
    have hlen : a.length = b.length := by simp at h1; omega
    refine CW.seq ?_
    refine CW.seq ?_
    refine CW.region ?_
    refine RW.v rfl (V.mv (d := I (i : Int)) rfl rfl) ?_
    refine RW.v rfl (V.mv (d := .r (sl 6 Applied.c a)) rfl rfl) ?_
    refine RW.v rfl (V.lenT (n := a.length) rfl rfl rfl .r) ?_
    refine RW.v rfl (V.cmpInt rfl rfl rfl rfl) ?_
    refine RW.nil ?_
    refine CW.le [(0, .r (sl 6 Applied.c a)), (1, .r (sl 6 Applied.c b)), (5, I (i : Int)), (14, Bo (decide ((i : Int) < (a.length : Int))))] rfl (Le.c rfl <| Le.c rfl <| Le.c rfl <| Le.c rfl <| Le.e) ?_
    refine CW.cond rfl (fun h2 => ?_) (fun h2 => ?_)
    · skip
      have hii : i < a.length := by have := h2; simp at this; first | exact this | (simp; omega)
      obtain ⟨ei, hei⟩ : ∃ e, a[i]? = some e := ⟨_, List.getElem?_eq_getElem hii⟩
      have hdi := drop_get hei
      have hib : i < b.length := by omega
      obtain ⟨eb, heb⟩ : ∃ e, b[i]? = some e := ⟨_, List.getElem?_eq_getElem hib⟩
      have hdb := drop_get heb
      refine CW.skip ?_
      refine CW.le [(0, .r (sl 6 Applied.c a)), (1, .r (sl 6 Applied.c b)), (5, I (i : Int))] rfl (Le.c rfl <| Le.c rfl <| Le.c rfl <| Le.e) ?_
      refine CW.seq ?_
      refine CW.block ?_
      refine CW.seq ?_
      refine CW.drawn (by kernel_rfl) ?_
      refine RQ.v rfl (V.mv (d := .r (sl 6 Applied.c a)) rfl rfl) ?_
      refine RQ.v rfl (V.mv (d := I (i : Int)) rfl rfl) ?_
      refine RQ.v rfl (V.indexS rfl rfl rfl rfl rfl rfl Applied.len hei) ?_
      refine RQ.v rfl (V.loadAggR rfl rfl rfl rfl (Nat.le_of_ble_eq_true rfl)) ?_
      refine RQ.v rfl (V.mv (d := .r (sl 6 Applied.c b)) rfl rfl) ?_
      refine RQ.v rfl (V.mv (d := I (i : Int)) rfl rfl) ?_
      refine RQ.v rfl (V.indexS rfl rfl rfl rfl rfl rfl Applied.len heb) ?_
      refine RQ.v rfl (V.loadAggR rfl rfl rfl rfl (Nat.le_of_ble_eq_true rfl)) ?_
      refine RQ.cons rfl (QOK.call (laws_eqApplied_fn ei eb) rfl (.cons (.agg (.cons (.r .r) (.cons (.r .r) (.cons (.r .r) (.cons (.r .r) (.cons (.r .r) (.cons (.r .r) (.nil)))))))) (.cons (.agg (.cons (.r .r) (.cons (.r .r) (.cons (.r .r) (.cons (.r .r) (.cons (.r .r) (.cons (.r .r) (.nil)))))))) (.nil))) ?_)
      refine RQ.v rfl (V.not rfl rfl) ?_
      refine RQ.nil ?_
      refine CW.le [(0, .r (sl 6 Applied.c a)), (1, .r (sl 6 Applied.c b)), (5, I (i : Int)), (26, Bo (!(eqApplied ei eb)))] rfl (Le.c rfl <| Le.c rfl <| Le.c rfl <| Le.c rfl <| Le.e) ?_
      refine CW.cond rfl (fun h3 => ?_) (fun h3 => ?_)
      · skip
        refine CW.seq ?_
        refine CW.region ?_
        refine RW.v rfl (V.as (d := Bo false) rfl rfl) ?_
        refine RW.nil ?_
        refine CW.le [(4, Bo false)] rfl (Le.c rfl <| Le.e) ?_
        refine CW.ret ?_
        exact Post.bool rfl (by first | (simp_all [eqS]; done) | exact (eqS_ne (by simp_all; omega)).symm) (AOs.r (AOs.r AOs.e))
      · skip
        refine CW.skip ?_
        refine CW.le [(0, .r (sl 6 Applied.c a)), (1, .r (sl 6 Applied.c b)), (5, I (i : Int))] rfl (Le.c rfl <| Le.c rfl <| Le.c rfl <| Le.e) ?_
        refine CW.region ?_
        refine RW.v rfl (V.mv (d := I (i : Int)) rfl rfl) ?_
        refine RW.v rfl (V.inc rfl rfl rfl hii hl0) ?_
        refine RW.v rfl (V.as (d := I ((i + 1 : Nat) : Int)) rfl rfl) ?_
        refine RW.nil ?_
        exact ⟨i + 1, by omega, ⟨by omega, by simp_all [eqS]⟩, rfl, Le.c rfl <| Le.c rfl <| Le.c rfl <| Le.e⟩
    · skip
      have hii : a.length ≤ i := by have := h2; simp at this; first | exact this | (simp; omega)
      have hdi : a.drop i = [] := List.drop_eq_nil_of_le hii
      refine CW.exit ?_
      refine CW.le [] rfl (Le.e) ?_
      refine CW.seq ?_
      refine CW.region ?_
      refine RW.v rfl (V.as (d := Bo true) rfl rfl) ?_
      refine RW.nil ?_
      refine CW.le [(4, Bo true)] rfl (Le.c rfl <| Le.e) ?_
      refine CW.ret ?_
      exact Post.bool rfl (by rw [← hr, hdi, List.drop_eq_nil_of_le (show b.length ≤ i by omega)]; rfl) (AOs.r (AOs.r AOs.e))
theorem spec_SameApplied_fn (a : List Applied) : Eng.Fn E.P 10 [.one (.r (sl 6 Applied.c a))] (.one (.one (.w (.v (.bool (pairs badApplied [] a)))))) [.one (.r (sl 6 Applied.c a))] := by
  refine Eng.Fn.intro (E := E) (rvs := [.tmp 2]) Try.func10 rfl rfl rfl (by simp [outSlots, moved, rvSlot]) ?_
  intro B g bo
  refine CW.bound (x := .tmp 0) (n := a.length) (AsT.r) (fun hl0 => ?_)
  refine CW.le [(0, .r (sl 6 Applied.c a))] rfl (Le.c rfl <| Le.e) ?_
  refine CW.seq ?_
  refine CW.region ?_
  refine RW.v rfl (V.as (d := Bo false) rfl rfl) ?_
  refine RW.nil ?_
  refine CW.le [(0, .r (sl 6 Applied.c a))] rfl (Le.c rfl <| Le.e) ?_
  refine CW.seq ?_
  refine CW.seq ?_
  refine CW.region ?_
  refine RW.v rfl (V.as (d := I 0) rfl rfl) ?_
  refine RW.nil ?_
  refine CW.le [(0, .r (sl 6 Applied.c a)), (3, I 0)] rfl (Le.c rfl <| Le.c rfl <| Le.e) ?_
  refine CW.block ?_
  refine CW.loopI 40 (fun (i : Nat) => [(0, .r (sl 6 Applied.c a)), (3, I (i : Int))]) (fun (i : Nat) => i ≤ a.length ∧ pairs badApplied (a.take i) (a.drop i) = pairs badApplied [] a) (fun (i : Nat) => a.length - i) 0 rfl (Le.c rfl <| Le.c rfl <| Le.e) ⟨by omega, by simp⟩ ?_
  rintro i ⟨hb, hr⟩
  refine CW.seq ?_
  refine CW.seq ?_
  refine CW.region ?_
  refine RW.v rfl (V.mv (d := I (i : Int)) rfl rfl) ?_
  refine RW.v rfl (V.mv (d := .r (sl 6 Applied.c a)) rfl rfl) ?_
  refine RW.v rfl (V.lenT (n := a.length) rfl rfl rfl .r) ?_
  refine RW.v rfl (V.cmpInt rfl rfl rfl rfl) ?_
  refine RW.nil ?_
  refine CW.le [(0, .r (sl 6 Applied.c a)), (3, I (i : Int)), (8, Bo (decide ((i : Int) < (a.length : Int))))] rfl (Le.c rfl <| Le.c rfl <| Le.c rfl <| Le.e) ?_
  refine CW.cond rfl (fun h1 => ?_) (fun h1 => ?_)
  · skip
    have hii : i < a.length := by have := h1; simp at this; first | exact this | (simp; omega)
    obtain ⟨ei, hei⟩ : ∃ e, a[i]? = some e := ⟨_, List.getElem?_eq_getElem hii⟩
    have hdi := drop_get hei
    refine CW.skip ?_
    refine CW.le [(0, .r (sl 6 Applied.c a)), (3, I (i : Int))] rfl (Le.c rfl <| Le.c rfl <| Le.e) ?_
    refine CW.seq ?_
    refine CW.block ?_
    refine CW.seq ?_
    refine CW.region ?_
    refine RW.v rfl (V.as (d := I 0) rfl rfl) ?_
    refine RW.nil ?_
    refine CW.le [(0, .r (sl 6 Applied.c a)), (3, I (i : Int)), (4, I 0)] rfl (Le.c rfl <| Le.c rfl <| Le.c rfl <| Le.e) ?_
    refine CW.block ?_
    refine CW.loopI 40 (fun (k : Nat) => [(0, .r (sl 6 Applied.c a)), (3, I (i : Int)), (4, I (k : Int))]) (fun (k : Nat) => k ≤ i ∧ ((a.take i).drop k).any (badApplied ei) = (a.take i).any (badApplied ei)) (fun (k : Nat) => i - k) 0 rfl (Le.c rfl <| Le.c rfl <| Le.c rfl <| Le.e) ⟨by omega, by simp⟩ ?_
    rintro k ⟨hc, hs⟩
    refine CW.seq ?_
    refine CW.seq ?_
    refine CW.region ?_
    refine RW.v rfl (V.mv (d := I (k : Int)) rfl rfl) ?_
    refine RW.v rfl (V.mv (d := I (i : Int)) rfl rfl) ?_
    refine RW.v rfl (V.cmpInt rfl rfl rfl rfl) ?_
    refine RW.nil ?_
    refine CW.le [(0, .r (sl 6 Applied.c a)), (3, I (i : Int)), (4, I (k : Int)), (13, Bo (decide ((k : Int) < (i : Int))))] rfl (Le.c rfl <| Le.c rfl <| Le.c rfl <| Le.c rfl <| Le.e) ?_
    refine CW.cond rfl (fun h2 => ?_) (fun h2 => ?_)
    · skip
      have hik : k < (a.take i).length := by have := h2; simp at this; first | exact this | (simp; omega)
      obtain ⟨ek, hek⟩ : ∃ e, (a.take i)[k]? = some e := ⟨_, List.getElem?_eq_getElem hik⟩
      have hdk := drop_get hek
      have hkl : k < i := by simp at hik; omega
      have hek2 : a[k]? = some ek := by rw [← hek]; exact (List.getElem?_take_of_lt hkl).symm
      refine CW.skip ?_
      refine CW.le [(0, .r (sl 6 Applied.c a)), (3, I (i : Int)), (4, I (k : Int))] rfl (Le.c rfl <| Le.c rfl <| Le.c rfl <| Le.e) ?_
      refine CW.seq ?_
      refine CW.block ?_
      refine CW.seqJ 40 (fun (v3 : Bool) => [(0, .r (sl 6 Applied.c a)), (3, I (i : Int)), (4, I (k : Int)), (39, Bo v3)]) (fun v3 => v3 = ((ei.index == ek.index) && (!Entry.eq ei.entry ek.entry))) ?_ ?_
      · refine CW.drawn (by kernel_rfl) ?_
        refine RQ.v rfl (V.mv (d := .r (sl 6 Applied.c a)) rfl rfl) ?_
        refine RQ.v rfl (V.mv (d := I (i : Int)) rfl rfl) ?_
        refine RQ.v rfl (V.indexS rfl rfl rfl rfl rfl rfl Applied.len hei) ?_
        refine RQ.v rfl (V.fieldR rfl rfl rfl rfl (by decide) rfl (Nat.le_of_ble_eq_true rfl)) ?_
        refine RQ.v rfl (V.loadPrimR (t0 := .v (.int .i64 ei.index)) rfl rfl (.inl rfl) rfl rfl) ?_
        refine RQ.v rfl (V.mv (d := .r (sl 6 Applied.c a)) rfl rfl) ?_
        refine RQ.v rfl (V.mv (d := I (k : Int)) rfl rfl) ?_
        refine RQ.v rfl (V.indexS rfl rfl rfl rfl rfl rfl Applied.len hek2) ?_
        refine RQ.v rfl (V.fieldR rfl rfl rfl rfl (by decide) rfl (Nat.le_of_ble_eq_true rfl)) ?_
        refine RQ.v rfl (V.loadPrimR (t0 := .v (.int .i64 ek.index)) rfl rfl (.inl rfl) rfl rfl) ?_
        refine RQ.v rfl (V.cmpInt rfl rfl rfl rfl) ?_
        refine RQ.v rfl (V.mv (d := Bo (ei.index == ek.index)) rfl rfl) ?_
        refine RQ.gv rfl rfl rfl rfl (fun h4 => V.mv (d := .r (sl 6 Applied.c a)) rfl rfl) (fun h4 => ?_) (fun h4 => ?_)
        · skip
          refine RQ.gt rfl rfl rfl rfl (V.mv (d := I (i : Int)) rfl rfl) ?_
          refine RQ.gt rfl rfl rfl rfl (V.indexS rfl rfl rfl rfl rfl rfl Applied.len hei) ?_
          refine RQ.gt rfl rfl rfl rfl (V.fieldR rfl rfl rfl rfl (by decide) rfl (Nat.le_of_ble_eq_true rfl)) ?_
          refine RQ.gt rfl rfl rfl rfl (V.loadAggR rfl rfl rfl rfl (Nat.le_of_ble_eq_true rfl)) ?_
          refine RQ.gt rfl rfl rfl rfl (V.mv (d := .r (sl 6 Applied.c a)) rfl rfl) ?_
          refine RQ.gt rfl rfl rfl rfl (V.mv (d := I (k : Int)) rfl rfl) ?_
          refine RQ.gt rfl rfl rfl rfl (V.indexS rfl rfl rfl rfl rfl rfl Applied.len hek2) ?_
          refine RQ.gt rfl rfl rfl rfl (V.fieldR rfl rfl rfl rfl (by decide) rfl (Nat.le_of_ble_eq_true rfl)) ?_
          refine RQ.gt rfl rfl rfl rfl (V.loadAggR rfl rfl rfl rfl (Nat.le_of_ble_eq_true rfl)) ?_
          refine RQ.gt rfl rfl rfl rfl (V.eqAgg (xs := Entry.vs ei.entry) (ys := Entry.vs ek.entry) rfl rfl rfl (by kernel_rfl) (eq67 ei.entry ek.entry) (.inr ⟨rfl, rfl⟩)) ?_
          refine RQ.v rfl (V.pickT (d := Bo (!Entry.eq ei.entry ek.entry)) rfl rfl rfl) ?_
          refine RQ.nil ?_
          exact ⟨_, by first | rfl | simp_all, rfl, Le.c rfl <| Le.c rfl <| Le.c rfl <| Le.c rfl <| Le.e⟩
        · skip
          refine RQ.guardF rfl rfl rfl rfl ?_
          refine RQ.guardF rfl rfl rfl rfl ?_
          refine RQ.guardF rfl rfl rfl rfl ?_
          refine RQ.guardF rfl rfl rfl rfl ?_
          refine RQ.guardF rfl rfl rfl rfl ?_
          refine RQ.guardF rfl rfl rfl rfl ?_
          refine RQ.guardF rfl rfl rfl rfl ?_
          refine RQ.guardF rfl rfl rfl rfl ?_
          refine RQ.guardF rfl rfl rfl rfl ?_
          refine RQ.guardF rfl rfl rfl rfl ?_
          refine RQ.v rfl (V.pickF (d := Bo false) rfl rfl rfl) ?_
          refine RQ.nil ?_
          exact ⟨_, by first | rfl | simp_all, rfl, Le.c rfl <| Le.c rfl <| Le.c rfl <| Le.c rfl <| Le.e⟩
      · intro v3 hv5
        refine CW.cond rfl (fun h6 => ?_) (fun h6 => ?_)
        · skip
          refine CW.seq ?_
          refine CW.region ?_
          refine RW.v rfl (V.as (d := Bo false) rfl rfl) ?_
          refine RW.nil ?_
          refine CW.le [(2, Bo false)] rfl (Le.c rfl <| Le.e) ?_
          refine CW.ret ?_
          exact Post.bool rfl (by rw [← hr, hdi, pairs, ← hs, hdk, List.any_cons, show badApplied ei ek = true from by clear hr hs; simp_all [badApplied]]; simp) (AOs.r AOs.e)
        · skip
          refine CW.skip ?_
          refine CW.le [(0, .r (sl 6 Applied.c a)), (3, I (i : Int)), (4, I (k : Int))] rfl (Le.c rfl <| Le.c rfl <| Le.c rfl <| Le.e) ?_
          refine CW.region ?_
          refine RW.v rfl (V.mv (d := I (k : Int)) rfl rfl) ?_
          refine RW.v rfl (V.inc rfl rfl rfl hkl (Nat.le_trans (Nat.le_of_lt hii) hl0)) ?_
          refine RW.v rfl (V.as (d := I ((k + 1 : Nat) : Int)) rfl rfl) ?_
          refine RW.nil ?_
          exact ⟨k + 1, by omega, ⟨by omega, by rw [← hs, hdk, List.any_cons, show badApplied ei ek = false from by clear hr hs; simp_all [badApplied]]; simp⟩, rfl, Le.c rfl <| Le.c rfl <| Le.c rfl <| Le.e⟩
    · skip
      have hik : (a.take i).length ≤ k := by have := h2; simp at this; first | exact this | (simp; omega)
      have hdk : (a.take i).drop k = [] := List.drop_eq_nil_of_le hik
      refine CW.exit ?_
      refine CW.le [(0, .r (sl 6 Applied.c a)), (3, I (i : Int))] rfl (Le.c rfl <| Le.c rfl <| Le.e) ?_
      refine CW.region ?_
      refine RW.v rfl (V.mv (d := I (i : Int)) rfl rfl) ?_
      refine RW.v rfl (V.inc rfl rfl rfl hii hl0) ?_
      refine RW.v rfl (V.as (d := I ((i + 1 : Nat) : Int)) rfl rfl) ?_
      refine RW.nil ?_
      exact ⟨i + 1, by omega, ⟨by omega, by rw [← hr, hdi, pairs, ← hs, hdk, take_snoc hei]; simp⟩, rfl, Le.c rfl <| Le.c rfl <| Le.e⟩
  · skip
    have hii : a.length ≤ i := by have := h1; simp at this; first | exact this | (simp; omega)
    have hdi : a.drop i = [] := List.drop_eq_nil_of_le hii
    refine CW.exit ?_
    refine CW.le [] rfl (Le.e) ?_
    refine CW.seq ?_
    refine CW.region ?_
    refine RW.v rfl (V.as (d := Bo true) rfl rfl) ?_
    refine RW.nil ?_
    refine CW.le [(2, Bo true)] rfl (Le.c rfl <| Le.e) ?_
    refine CW.ret ?_
    exact Post.bool rfl (by first | (simp_all [pairs]; done) | grind [pairs]) (AOs.r AOs.e)
theorem impl_SameApplied_fn (a : List Applied) : Eng.Fn E.P 12 [.one (.r (sl 6 Applied.c a))] (.one (.one (.w (.v (.bool (pairs badApplied [] a)))))) [.one (.r (sl 6 Applied.c a))] := by
  refine Eng.Fn.intro (E := E) (rvs := [.tmp 2]) Try.func12 rfl rfl rfl (by simp [outSlots, moved, rvSlot]) ?_
  intro B g bo
  refine CW.bound (x := .tmp 0) (n := a.length) (AsT.r) (fun hl0 => ?_)
  refine CW.le [(0, .r (sl 6 Applied.c a))] rfl (Le.c rfl <| Le.e) ?_
  refine CW.seq ?_
  refine CW.region ?_
  refine RW.v rfl (V.as (d := Bo false) rfl rfl) ?_
  refine RW.nil ?_
  refine CW.le [(0, .r (sl 6 Applied.c a))] rfl (Le.c rfl <| Le.e) ?_
  refine CW.seq ?_
  refine CW.seq ?_
  refine CW.region ?_
  refine RW.v rfl (V.mv (d := .r (sl 6 Applied.c a)) rfl rfl) ?_
  refine RW.v rfl (V.lenT (n := a.length) rfl rfl rfl .r) ?_
  refine RW.v rfl (V.mv (d := I 0) rfl rfl) ?_
  refine RW.nil ?_
  refine CW.le [(0, .r (sl 6 Applied.c a)), (7, .r (sl 6 Applied.c a)), (8, I (a.length : Int)), (9, I 0)] rfl (Le.c rfl <| Le.c rfl <| Le.c rfl <| Le.c rfl <| Le.e) ?_
  refine CW.block ?_
  refine CW.loopI 36 (fun (i : Nat) => [(0, .r (sl 6 Applied.c a)), (7, .r (sl 6 Applied.c a)), (8, I (a.length : Int)), (9, I (i : Int))]) (fun (i : Nat) => i ≤ a.length ∧ pairs badApplied (a.take i) (a.drop i) = pairs badApplied [] a) (fun (i : Nat) => a.length - i) 0 rfl (Le.c rfl <| Le.c rfl <| Le.c rfl <| Le.c rfl <| Le.e) ⟨by omega, by simp⟩ ?_
  rintro i ⟨hb, hr⟩
  refine CW.seq ?_
  refine CW.region ?_
  refine RW.v rfl (V.cmpInt rfl rfl rfl rfl) ?_
  refine RW.nil ?_
  refine CW.le [(0, .r (sl 6 Applied.c a)), (7, .r (sl 6 Applied.c a)), (8, I (a.length : Int)), (9, I (i : Int)), (10, Bo (decide ((i : Int) < (a.length : Int))))] rfl (Le.c rfl <| Le.c rfl <| Le.c rfl <| Le.c rfl <| Le.c rfl <| Le.e) ?_
  refine CW.seq ?_
  refine CW.cond rfl (fun h1 => ?_) (fun h1 => ?_)
  · skip
    have hii : i < a.length := by have := h1; simp at this; first | exact this | (simp; omega)
    obtain ⟨ei, hei⟩ : ∃ e, a[i]? = some e := ⟨_, List.getElem?_eq_getElem hii⟩
    have hdi := drop_get hei
    refine CW.skip ?_
    refine CW.le [(0, .r (sl 6 Applied.c a)), (7, .r (sl 6 Applied.c a)), (8, I (a.length : Int)), (9, I (i : Int))] rfl (Le.c rfl <| Le.c rfl <| Le.c rfl <| Le.c rfl <| Le.e) ?_
    refine CW.seq ?_
    refine CW.block ?_
    refine CW.seq ?_
    refine CW.region ?_
    refine RW.v rfl (V.mv (d := I (i : Int)) rfl rfl) ?_
    refine RW.v rfl (V.indexS rfl rfl rfl rfl rfl rfl Applied.len hei) ?_
    refine RW.v rfl (V.loadAggR rfl rfl rfl rfl (Nat.le_of_ble_eq_true rfl)) ?_
    refine RW.alloc (ds := [I 0, I 0, I 0, I 0, I 0, S (⟨#[]⟩)]) rfl rfl rfl rfl fun b2 => ?_
    refine RW.v rfl (V.as (d := I (i : Int)) rfl rfl) ?_
    refine RW.storeAgg (es := ((Applied.c ei).map .r)) rfl rfl rfl rfl rfl rfl rfl rfl (Nat.le_of_ble_eq_true rfl) rfl ?_
    refine RW.nil ?_
    refine CW.le [(0, .r (sl 6 Applied.c a)), (3, I (i : Int)), (4, .obj b2 ((Applied.c ei).map .r)), (7, .r (sl 6 Applied.c a)), (8, I (a.length : Int)), (9, I (i : Int))] rfl (Le.c rfl <| Le.c rfl <| Le.c rfl <| Le.c rfl <| Le.c rfl <| Le.c rfl <| Le.e) ?_
    refine CW.seq ?_
    refine CW.region ?_
    refine RW.v rfl (V.mv (d := .r (sl 6 Applied.c a)) rfl rfl) ?_
    refine RW.v rfl (V.mv (d := I (i : Int)) rfl rfl) ?_
    refine RW.v rfl (V.takeS (m := i) rfl rfl rfl rfl rfl rfl Applied.len (Nat.le_of_lt hii)) ?_
    refine RW.v rfl (V.lenT (n := (a.take i).length) rfl rfl rfl .r) ?_
    refine RW.v rfl (V.mv (d := I 0) rfl rfl) ?_
    refine RW.nil ?_
    refine CW.le [(0, .r (sl 6 Applied.c a)), (4, .obj b2 ((Applied.c ei).map .r)), (7, .r (sl 6 Applied.c a)), (8, I (a.length : Int)), (9, I (i : Int)), (16, .r (sl 6 Applied.c (a.take i))), (17, I ((a.take i).length : Int)), (18, I 0)] rfl (Le.c rfl <| Le.c rfl <| Le.c rfl <| Le.c rfl <| Le.c rfl <| Le.c rfl <| Le.c rfl <| Le.c rfl <| Le.e) ?_
    refine CW.block ?_
    refine CW.loopI 36 (fun (k : Nat) => [(0, .r (sl 6 Applied.c a)), (4, .obj b2 ((Applied.c ei).map .r)), (7, .r (sl 6 Applied.c a)), (8, I (a.length : Int)), (9, I (i : Int)), (16, .r (sl 6 Applied.c (a.take i))), (17, I ((a.take i).length : Int)), (18, I (k : Int))]) (fun (k : Nat) => k ≤ i ∧ ((a.take i).drop k).any (badApplied ei) = (a.take i).any (badApplied ei)) (fun (k : Nat) => i - k) 0 rfl (Le.c rfl <| Le.c rfl <| Le.c rfl <| Le.c rfl <| Le.c rfl <| Le.c rfl <| Le.c rfl <| Le.c rfl <| Le.e) ⟨by omega, by simp⟩ ?_
    rintro k ⟨hc, hs⟩
    refine CW.seq ?_
    refine CW.region ?_
    refine RW.v rfl (V.cmpInt rfl rfl rfl rfl) ?_
    refine RW.nil ?_
    refine CW.le [(0, .r (sl 6 Applied.c a)), (4, .obj b2 ((Applied.c ei).map .r)), (7, .r (sl 6 Applied.c a)), (8, I (a.length : Int)), (9, I (i : Int)), (16, .r (sl 6 Applied.c (a.take i))), (17, I ((a.take i).length : Int)), (18, I (k : Int)), (19, Bo (decide ((k : Int) < ((a.take i).length : Int))))] rfl (Le.c rfl <| Le.c rfl <| Le.c rfl <| Le.c rfl <| Le.c rfl <| Le.c rfl <| Le.c rfl <| Le.c rfl <| Le.c rfl <| Le.e) ?_
    refine CW.seq ?_
    refine CW.cond rfl (fun h3 => ?_) (fun h3 => ?_)
    · skip
      have hik : k < (a.take i).length := by have := h3; simp at this; first | exact this | (simp; omega)
      obtain ⟨ek, hek⟩ : ∃ e, (a.take i)[k]? = some e := ⟨_, List.getElem?_eq_getElem hik⟩
      have hdk := drop_get hek
      have hkl : k < i := by simp at hik; omega
      refine CW.skip ?_
      refine CW.le [(0, .r (sl 6 Applied.c a)), (4, .obj b2 ((Applied.c ei).map .r)), (7, .r (sl 6 Applied.c a)), (8, I (a.length : Int)), (9, I (i : Int)), (16, .r (sl 6 Applied.c (a.take i))), (17, I ((a.take i).length : Int)), (18, I (k : Int))] rfl (Le.c rfl <| Le.c rfl <| Le.c rfl <| Le.c rfl <| Le.c rfl <| Le.c rfl <| Le.c rfl <| Le.c rfl <| Le.e) ?_
      refine CW.seq ?_
      refine CW.block ?_
      refine CW.seq ?_
      refine CW.region ?_
      refine RW.v rfl (V.indexS rfl rfl rfl rfl rfl rfl Applied.len hek) ?_
      refine RW.v rfl (V.loadAggR rfl rfl rfl rfl (Nat.le_of_ble_eq_true rfl)) ?_
      refine RW.alloc (ds := [I 0, I 0, I 0, I 0, I 0, S (⟨#[]⟩)]) rfl rfl rfl rfl fun b4 => ?_
      refine RW.storeAgg (es := ((Applied.c ek).map .r)) rfl rfl rfl rfl rfl rfl rfl rfl (Nat.le_of_ble_eq_true rfl) rfl ?_
      refine RW.nil ?_
      refine CW.le [(0, .r (sl 6 Applied.c a)), (4, .obj b2 ((Applied.c ei).map .r)), (6, .obj b4 ((Applied.c ek).map .r)), (7, .r (sl 6 Applied.c a)), (8, I (a.length : Int)), (9, I (i : Int)), (16, .r (sl 6 Applied.c (a.take i))), (17, I ((a.take i).length : Int)), (18, I (k : Int))] rfl (Le.c rfl <| Le.c rfl <| Le.c rfl <| Le.c rfl <| Le.c rfl <| Le.c rfl <| Le.c rfl <| Le.c rfl <| Le.c rfl <| Le.e) ?_
      refine CW.seqJ 36 (fun (v5 : Bool) => [(0, .r (sl 6 Applied.c a)), (4, .obj b2 ((Applied.c ei).map .r)), (7, .r (sl 6 Applied.c a)), (8, I (a.length : Int)), (9, I (i : Int)), (16, .r (sl 6 Applied.c (a.take i))), (17, I ((a.take i).length : Int)), (18, I (k : Int)), (33, Bo v5)]) (fun v5 => v5 = ((ei.index == ek.index) && (!Entry.eq ei.entry ek.entry))) ?_ ?_
      · refine CW.region ?_
        refine RW.v rfl (V.field rfl rfl rfl rfl (by decide) rfl) ?_
        refine RW.v rfl (V.loadPrim (d := I ei.index) rfl rfl (.inl rfl) rfl rfl rfl) ?_
        refine RW.v rfl (V.field rfl rfl rfl rfl (by decide) rfl) ?_
        refine RW.v rfl (V.loadPrim (d := I ek.index) rfl rfl (.inl rfl) rfl rfl rfl) ?_
        refine RW.v rfl (V.cmpInt rfl rfl rfl rfl) ?_
        refine RW.v rfl (V.mv (d := Bo (ei.index == ek.index)) rfl rfl) ?_
        refine RW.gv rfl rfl rfl rfl (fun h6 => V.field rfl rfl rfl rfl (by decide) rfl) (fun h6 => ?_) (fun h6 => ?_)
        · skip
          refine RW.gt rfl rfl rfl rfl (V.loadAgg rfl rfl rfl rfl rfl (Nat.le_of_ble_eq_true rfl)) ?_
          refine RW.gt rfl rfl rfl rfl (V.field rfl rfl rfl rfl (by decide) rfl) ?_
          refine RW.gt rfl rfl rfl rfl (V.loadAgg rfl rfl rfl rfl rfl (Nat.le_of_ble_eq_true rfl)) ?_
          refine RW.gt rfl rfl rfl rfl (V.eqAgg (xs := Entry.vs ei.entry) (ys := Entry.vs ek.entry) rfl rfl rfl (by kernel_rfl) (eq67 ei.entry ek.entry) (.inr ⟨rfl, rfl⟩)) ?_
          refine RW.v rfl (V.pickT (d := Bo (!Entry.eq ei.entry ek.entry)) rfl rfl rfl) ?_
          refine RW.nil ?_
          exact ⟨_, by first | rfl | simp_all, rfl, Le.c rfl <| Le.c rfl <| Le.c rfl <| Le.c rfl <| Le.c rfl <| Le.c rfl <| Le.c rfl <| Le.c rfl <| Le.c rfl <| Le.e⟩
        · skip
          refine RW.guardF rfl rfl rfl rfl ?_
          refine RW.guardF rfl rfl rfl rfl ?_
          refine RW.guardF rfl rfl rfl rfl ?_
          refine RW.guardF rfl rfl rfl rfl ?_
          refine RW.v rfl (V.pickF (d := Bo false) rfl rfl rfl) ?_
          refine RW.nil ?_
          exact ⟨_, by first | rfl | simp_all, rfl, Le.c rfl <| Le.c rfl <| Le.c rfl <| Le.c rfl <| Le.c rfl <| Le.c rfl <| Le.c rfl <| Le.c rfl <| Le.c rfl <| Le.e⟩
      · intro v5 hv7
        refine CW.cond rfl (fun h8 => ?_) (fun h8 => ?_)
        · skip
          refine CW.seq ?_
          refine CW.region ?_
          refine RW.v rfl (V.as (d := Bo false) rfl rfl) ?_
          refine RW.nil ?_
          refine CW.le [(2, Bo false)] rfl (Le.c rfl <| Le.e) ?_
          refine CW.ret ?_
          exact Post.bool rfl (by rw [← hr, hdi, pairs, ← hs, hdk, List.any_cons, show badApplied ei ek = true from by clear hr hs; simp_all [badApplied]]; simp) (AOs.r AOs.e)
        · skip
          refine CW.skip ?_
          refine CW.le [(0, .r (sl 6 Applied.c a)), (4, .obj b2 ((Applied.c ei).map .r)), (7, .r (sl 6 Applied.c a)), (8, I (a.length : Int)), (9, I (i : Int)), (16, .r (sl 6 Applied.c (a.take i))), (17, I ((a.take i).length : Int)), (18, I (k : Int))] rfl (Le.c rfl <| Le.c rfl <| Le.c rfl <| Le.c rfl <| Le.c rfl <| Le.c rfl <| Le.c rfl <| Le.c rfl <| Le.e) ?_
          refine CW.region ?_
          refine RW.v rfl (V.inc rfl rfl rfl hkl (Nat.le_trans (Nat.le_of_lt hii) hl0)) ?_
          refine RW.v rfl (V.mv (d := I ((k + 1 : Nat) : Int)) rfl rfl) ?_
          refine RW.nil ?_
          exact ⟨k + 1, by omega, ⟨by omega, by rw [← hs, hdk, List.any_cons, show badApplied ei ek = false from by clear hr hs; simp_all [badApplied]]; simp⟩, rfl, Le.c rfl <| Le.c rfl <| Le.c rfl <| Le.c rfl <| Le.c rfl <| Le.c rfl <| Le.c rfl <| Le.c rfl <| Le.e⟩
    · skip
      have hik : (a.take i).length ≤ k := by have := h3; simp at this; first | exact this | (simp; omega)
      have hdk : (a.take i).drop k = [] := List.drop_eq_nil_of_le hik
      refine CW.exit ?_
      refine CW.le [(0, .r (sl 6 Applied.c a)), (7, .r (sl 6 Applied.c a)), (8, I (a.length : Int)), (9, I (i : Int))] rfl (Le.c rfl <| Le.c rfl <| Le.c rfl <| Le.c rfl <| Le.e) ?_
      refine CW.region ?_
      refine RW.v rfl (V.inc rfl rfl rfl hii hl0) ?_
      refine RW.v rfl (V.mv (d := I ((i + 1 : Nat) : Int)) rfl rfl) ?_
      refine RW.nil ?_
      exact ⟨i + 1, by omega, ⟨by omega, by rw [← hr, hdi, pairs, ← hs, hdk, take_snoc hei]; simp⟩, rfl, Le.c rfl <| Le.c rfl <| Le.c rfl <| Le.c rfl <| Le.e⟩
  · skip
    have hii : a.length ≤ i := by have := h1; simp at this; first | exact this | (simp; omega)
    have hdi : a.drop i = [] := List.drop_eq_nil_of_le hii
    refine CW.exit ?_
    refine CW.le [] rfl (Le.e) ?_
    refine CW.seq ?_
    refine CW.region ?_
    refine RW.v rfl (V.as (d := Bo true) rfl rfl) ?_
    refine RW.nil ?_
    refine CW.le [(2, Bo true)] rfl (Le.c rfl <| Le.e) ?_
    refine CW.ret ?_
    exact Post.bool rfl (by first | (simp_all [pairs]; done) | grind [pairs]) (AOs.r AOs.e)
theorem laws_FnExactSameApplied_fn (a : List Applied) : Eng.Fn E.P 3 [.one (.r (sl 6 Applied.c a))] (.one (.one (.w (.v (.bool true))))) [.one (.r (sl 6 Applied.c a))] := by
  refine Eng.Fn.intro (E := E) (rvs := [.tmp 2]) Try.func3 rfl rfl rfl (by simp [outSlots, moved, rvSlot]) ?_
  intro B g bo
  refine CW.bound (x := .tmp 0) (n := a.length) (AsT.r) (fun hl0 => ?_)
  refine CW.le [(0, .r (sl 6 Applied.c a))] rfl (Le.c rfl <| Le.e) ?_
  refine CW.seq ?_
  refine CW.region ?_
  refine RW.v rfl (V.as (d := Bo false) rfl rfl) ?_
  refine RW.nil ?_
  refine CW.le [(0, .r (sl 6 Applied.c a))] rfl (Le.c rfl <| Le.e) ?_
  refine CW.seq ?_
  refine CW.region ?_
  refine RW.v rfl (V.as (d := I 1048576) rfl rfl) ?_
  refine RW.nil ?_
  refine CW.le [(0, .r (sl 6 Applied.c a)), (3, I 1048576)] rfl (Le.c rfl <| Le.c rfl <| Le.e) ?_
  refine CW.seq ?_
  refine CW.region ?_
  refine RW.v rfl (V.mv (d := .r (sl 6 Applied.c a)) rfl rfl) ?_
  refine RW.v rfl (V.mv (d := I 1048576) rfl rfl) ?_
  refine RW.call rfl (laws_szAppliedS_fn a 1048576) rfl (.cons (.one (.r .r)) (.cons (.one (.r .r)) (.nil))) fun g1 => ?_
  refine RW.v rfl (V.as (d := I (szS szApplied a 1048576)) rfl rfl) ?_
  refine RW.nil ?_
  refine CW.le [(0, .r (sl 6 Applied.c a)), (3, I (szS szApplied a 1048576))] rfl (Le.c rfl <| Le.c rfl <| Le.e) ?_
  refine CW.seq ?_
  refine CW.seq ?_
  refine CW.region ?_
  refine RW.v rfl (V.mv (d := I (szS szApplied a 1048576)) rfl rfl) ?_
  refine RW.v rfl (V.cmpInt rfl rfl rfl rfl) ?_
  refine RW.nil ?_
  refine CW.le [(0, .r (sl 6 Applied.c a)), (11, Bo (decide ((szS szApplied a 1048576) < 0)))] rfl (Le.c rfl <| Le.c rfl <| Le.e) ?_
  refine CW.cond rfl (fun h2 => ?_) (fun h2 => ?_)
  · skip
    refine CW.seq ?_
    refine CW.region ?_
    refine RW.v rfl (V.as (d := Bo true) rfl rfl) ?_
    refine RW.nil ?_
    refine CW.le [(2, Bo true)] rfl (Le.c rfl <| Le.e) ?_
    refine CW.ret ?_
    exact Post.bool rfl (by first | rfl | simp_all [eqS_refl eqApplied_refl]) (AOs.r AOs.e)
  · skip
    refine CW.skip ?_
    refine CW.le [(0, .r (sl 6 Applied.c a))] rfl (Le.c rfl <| Le.e) ?_
    refine CW.seq ?_
    refine CW.region ?_
    refine RW.v rfl (V.mv (d := .r (sl 6 Applied.c a)) rfl rfl) ?_
    refine RW.call rfl (laws_toAppliedS_fn a (szS_len hl0 (by simpa using h2))) rfl (.cons (.one (.r .r)) (.nil)) fun g3 => ?_
    refine RW.callOwn rfl (spec_SameApplied_fn a) rfl (.cons (.one (.r (.al rfl rfl nofun))) (.nil)) rfl fun g4 => ?_
    refine RW.v rfl (V.as (d := Bo (pairs badApplied [] a)) rfl rfl) ?_
    refine RW.nil ?_
    refine CW.le [(0, .r (sl 6 Applied.c a)), (4, Bo (pairs badApplied [] a))] rfl (Le.c rfl <| Le.c rfl <| Le.e) ?_
    refine CW.seq ?_
    refine CW.region ?_
    refine RW.v rfl (V.mv (d := .r (sl 6 Applied.c a)) rfl rfl) ?_
    refine RW.call rfl (laws_toAppliedS_fn a (szS_len hl0 (by simpa using h2))) rfl (.cons (.one (.r .r)) (.nil)) fun g5 => ?_
    refine RW.assignMove rfl rfl rfl (by decide) (Nat.le_of_ble_eq_true rfl) (Nat.le_of_ble_eq_true rfl) ?_
    refine RW.nil ?_
    refine CW.le [(0, .r (sl 6 Applied.c a)), (4, Bo (pairs badApplied [] a)), (5, .w (sl 6 Applied.c a) (g5 0 0))] rfl (Le.c rfl <| Le.c rfl <| Le.c rfl <| Le.e) ?_
    refine CW.seq ?_
    refine CW.region ?_
    refine RW.v rfl (V.mv (d := .al 5 none 6 a.length (g5 0 0) 0) rfl rfl) ?_
    refine RW.callOwn rfl (impl_SameApplied_fn a) rfl (.cons (.one (.r (.al rfl rfl nofun))) (.nil)) rfl fun g6 => ?_
    refine RW.v rfl (V.as (d := Bo (pairs badApplied [] a)) rfl rfl) ?_
    refine RW.nil ?_
    refine CW.le [(0, .r (sl 6 Applied.c a)), (4, Bo (pairs badApplied [] a)), (5, .w (sl 6 Applied.c a) (g5 0 0)), (6, Bo (pairs badApplied [] a))] rfl (Le.c rfl <| Le.c rfl <| Le.c rfl <| Le.c rfl <| Le.e) ?_
    refine CW.seq ?_
    refine CW.seq ?_
    refine CW.region ?_
    refine RW.v rfl (V.mv (d := Bo (pairs badApplied [] a)) rfl rfl) ?_
    refine RW.v rfl (V.mv (d := Bo (pairs badApplied [] a)) rfl rfl) ?_
    refine RW.v rfl (V.eqBool rfl rfl rfl (by kernel_rfl) (.inr ⟨rfl, rfl⟩)) ?_
    refine RW.nil ?_
    refine CW.le [(0, .r (sl 6 Applied.c a)), (5, .w (sl 6 Applied.c a) (g5 0 0)), (21, Bo (!((pairs badApplied [] a) == (pairs badApplied [] a))))] rfl (Le.c rfl <| Le.c rfl <| Le.c rfl <| Le.e) ?_
    refine CW.cond rfl (fun h7 => ?_) (fun h7 => ?_)
    · skip
      refine CW.seq ?_
      refine CW.region ?_
      refine RW.v rfl (V.as (d := Bo false) rfl rfl) ?_
      refine RW.nil ?_
      refine CW.le [(2, Bo false)] rfl (Le.c rfl <| Le.e) ?_
      refine CW.ret ?_
      exact Post.bool rfl (by first | rfl | simp_all [eqS_refl eqApplied_refl]) (AOs.r AOs.e)
    · skip
      refine CW.skip ?_
      refine CW.le [(0, .r (sl 6 Applied.c a)), (5, .w (sl 6 Applied.c a) (g5 0 0))] rfl (Le.c rfl <| Le.c rfl <| Le.e) ?_
      refine CW.seq ?_
      refine CW.seq ?_
      refine CW.region ?_
      refine RW.v rfl (V.mv (d := .al 5 none 6 a.length (g5 0 0) 0) rfl rfl) ?_
      refine RW.v rfl (V.mv (d := .r (sl 6 Applied.c a)) rfl rfl) ?_
      refine RW.call rfl (laws_toAppliedS_fn a (szS_len hl0 (by simpa using h2))) rfl (.cons (.one (.r .r)) (.nil)) fun g8 => ?_
      refine RW.callOwn rfl (laws_eqAppliedS_fn a a) rfl (.cons (.one (.r (.al rfl rfl nofun))) (.cons (.one (.r (.al rfl rfl nofun))) (.nil))) rfl fun g9 => ?_
      refine RW.v rfl (V.not rfl rfl) ?_
      refine RW.nil ?_
      refine CW.le [(26, Bo (!(eqS eqApplied a a)))] rfl (Le.c rfl <| Le.e) ?_
      refine CW.cond rfl (fun h10 => ?_) (fun h10 => ?_)
      · skip
        refine CW.seq ?_
        refine CW.region ?_
        refine RW.v rfl (V.as (d := Bo false) rfl rfl) ?_
        refine RW.nil ?_
        refine CW.le [(2, Bo false)] rfl (Le.c rfl <| Le.e) ?_
        refine CW.ret ?_
        exact Post.bool rfl (by first | rfl | simp_all [eqS_refl eqApplied_refl]) (AOs.r AOs.e)
      · skip
        refine CW.skip ?_
        refine CW.le [] rfl (Le.e) ?_
        refine CW.seq ?_
        refine CW.region ?_
        refine RW.v rfl (V.as (d := Bo true) rfl rfl) ?_
        refine RW.nil ?_
        refine CW.le [(2, Bo true)] rfl (Le.c rfl <| Le.e) ?_
        refine CW.ret ?_
        exact Post.bool rfl (by first | rfl | simp_all [eqS_refl eqApplied_refl]) (AOs.r AOs.e)
end Go.Proofs.Ythkiegfcahigkaa.Y
