import Derived.Test.YthkiegfcahigkaaPu
import Derived.Test.YthkiegfcahigkaaProg
namespace Go.Proofs.Ythkiegfcahigkaa.Y
open Go Go.RowKit Go.Eng Go.Proofs
def tl : List (Nat × TyI) := [
(3, ⟨1, 8, [.int .i64 0], .prim⟩),
(4, ⟨1, 1, [.bool false], .prim⟩),
(9, ⟨1, 16, [.string ⟨#[]⟩], .prim⟩),
(36, ⟨1, 24, [.slice none 0 0], .slice 85⟩),
(39, ⟨1, 24, [.slice none 0 0], .slice 89⟩),
(43, ⟨1, 24, [.slice none 0 0], .slice 67⟩),
(64, ⟨3, 32, [.int .i64 0, .int .i64 0, .string ⟨#[]⟩], .agg [(0, 3, 1), (1, 3, 1), (2, 9, 1)]⟩),
(67, ⟨3, 32, [.int .i64 0, .int .i64 0, .string ⟨#[]⟩], .agg [(0, 3, 1), (1, 3, 1), (2, 9, 1)]⟩),
(81, ⟨1, 24, [.slice none 0 0], .slice 64⟩),
(83, ⟨3, 40, [.int .i64 0, .int .i64 0, .slice none 0 0], .agg [(0, 3, 1), (1, 3, 1), (2, 81, 1)]⟩),
(85, ⟨5, 56, [.int .i64 0, .int .i64 0, .int .i64 0, .int .i64 0, .slice none 0 0], .agg [(0, 3, 1), (1, 3, 1), (2, 83, 3)]⟩),
(87, ⟨3, 40, [.int .i64 0, .int .i64 0, .slice none 0 0], .agg [(0, 3, 1), (1, 3, 1), (2, 43, 1)]⟩),
(89, ⟨5, 56, [.int .i64 0, .int .i64 0, .int .i64 0, .int .i64 0, .slice none 0 0], .agg [(0, 3, 1), (1, 3, 1), (2, 87, 3)]⟩)]
theorem tl_ok : ∀ p ∈ tl, tyI Try.prog p.1 = some p.2 := by
  refine List.forall_mem_cons.2 ⟨by kernel_rfl, ?_⟩
  refine List.forall_mem_cons.2 ⟨by kernel_rfl, ?_⟩
  refine List.forall_mem_cons.2 ⟨by kernel_rfl, ?_⟩
  refine List.forall_mem_cons.2 ⟨by kernel_rfl, ?_⟩
  refine List.forall_mem_cons.2 ⟨by kernel_rfl, ?_⟩
  refine List.forall_mem_cons.2 ⟨by kernel_rfl, ?_⟩
  refine List.forall_mem_cons.2 ⟨by kernel_rfl, ?_⟩
  refine List.forall_mem_cons.2 ⟨by kernel_rfl, ?_⟩
  refine List.forall_mem_cons.2 ⟨by kernel_rfl, ?_⟩
  refine List.forall_mem_cons.2 ⟨by kernel_rfl, ?_⟩
  refine List.forall_mem_cons.2 ⟨by kernel_rfl, ?_⟩
  refine List.forall_mem_cons.2 ⟨by kernel_rfl, ?_⟩
  refine List.forall_mem_cons.2 ⟨by kernel_rfl, ?_⟩
  exact fun _ h => by cases h
noncomputable def E : Env := ⟨Try.prog, lk tl, fun t i h => tl_ok (t, i) (lk_mem _ _ _ h), by kernel_rfl⟩
theorem laws_szEntry_fn (a : Entry) (left : Int) : Eng.Fn E.P 63 [.agg ((Entry.c a).map .r), .one (.r (.v (.int .i64 left)))] (.one (.one (.w (.v (.int .i64 (szEntry a left)))))) [.agg ((Entry.c a).map .r), .one (.r (.v (.int .i64 left)))] := by
  refine Eng.Fn.intro (E := E) (rvs := [.tmp 4]) Try.func63 rfl rfl rfl (by simp [outSlots, moved, rvSlot]) ?_
  intro B g bo
  refine CW.le [(0, .agg ((Entry.c a).map .r)), (1, I left)] rfl (Le.c rfl <| Le.c rfl <| Le.e) ?_
  refine CW.seq ?_
  refine CW.region ?_
  refine RW.box (ds := ((Entry.c a).map .r)) rfl rfl rfl fun b1 => ?_
  refine RW.v rfl (V.as (d := I 0) rfl rfl) ?_
  refine RW.nil ?_
  refine CW.le [(1, I left), (2, .obj b1 ((Entry.c a).map .r))] rfl (Le.c rfl <| Le.c rfl <| Le.e) ?_
  refine CW.seq ?_
  refine CW.region ?_
  refine RW.v rfl (V.mv (d := I left) rfl rfl) ?_
  refine RW.v rfl (V.field rfl rfl rfl rfl (by decide) rfl) ?_
  refine RW.v rfl (V.loadPrim (d := S a.data) rfl rfl (.inl rfl) rfl rfl rfl) ?_
  refine RW.v rfl (V.lenStr rfl (by kernel_rfl) rfl) ?_
  refine RW.v rfl (V.arInt rfl rfl rfl rfl) ?_
  refine RW.v rfl (V.as (d := I (IntKind.i64.wrap (left - (a.data.size : Int)))) rfl rfl) ?_
  refine RW.nil ?_
  refine CW.le [(1, I (IntKind.i64.wrap (left - (a.data.size : Int))))] rfl (Le.c rfl <| Le.e) ?_
  refine CW.seq ?_
  refine CW.seq ?_
  refine CW.region ?_
  refine RW.v rfl (V.mv (d := I (IntKind.i64.wrap (left - (a.data.size : Int)))) rfl rfl) ?_
  refine RW.v rfl (V.cmpInt rfl rfl rfl rfl) ?_
  refine RW.nil ?_
  refine CW.le [(1, I (IntKind.i64.wrap (left - (a.data.size : Int)))), (11, Bo (decide ((IntKind.i64.wrap (left - (a.data.size : Int))) < 0)))] rfl (Le.c rfl <| Le.c rfl <| Le.e) ?_
  refine CW.cond rfl (fun h2 => ?_) (fun h2 => ?_)
  · skip
    refine CW.seq ?_
    refine CW.region ?_
    refine RW.v rfl (V.as (d := I (-1)) rfl rfl) ?_
    refine RW.nil ?_
    refine CW.le [(4, I (-1))] rfl (Le.c rfl <| Le.e) ?_
    refine CW.ret ?_
    exact Post.int rfl (by first | (simp_all [szEntry]; done) | (simp_all [szEntry]; omega) | grind [szEntry]) (AOs.a rfl (AOs.r AOs.e))
  · skip
    refine CW.skip ?_
    refine CW.le [(1, I (IntKind.i64.wrap (left - (a.data.size : Int))))] rfl (Le.c rfl <| Le.e) ?_
    refine CW.seq ?_
    refine CW.region ?_
    refine RW.v rfl (V.mv (d := I (IntKind.i64.wrap (left - (a.data.size : Int)))) rfl rfl) ?_
    refine RW.v rfl (V.as (d := I (IntKind.i64.wrap (left - (a.data.size : Int)))) rfl rfl) ?_
    refine RW.nil ?_
    refine CW.le [(4, I (IntKind.i64.wrap (left - (a.data.size : Int))))] rfl (Le.c rfl <| Le.e) ?_
    refine CW.ret ?_
    exact Post.int rfl (by first | (simp_all [szEntry]; done) | (simp_all [szEntry]; omega) | grind [szEntry]) (AOs.a rfl (AOs.r AOs.e))
theorem laws_szEntryS_fn (a : List Entry) (left : Int) : Eng.Fn E.P 73 [.one (.r (sl 3 Entry.c a)), .one (.r (.v (.int .i64 left)))] (.one (.one (.w (.v (.int .i64 (szS szEntry a left)))))) [.one (.r (sl 3 Entry.c a)), .one (.r (.v (.int .i64 left)))] := by
  refine Eng.Fn.intro (E := E) (rvs := [.tmp 4]) Try.func73 rfl rfl rfl (by simp [outSlots, moved, rvSlot]) ?_
  intro B g bo
  refine CW.bound (x := .tmp 0) (n := a.length) (AsT.r) (fun hl0 => ?_)
  refine CW.le [(0, .r (sl 3 Entry.c a)), (1, I left)] rfl (Le.c rfl <| Le.c rfl <| Le.e) ?_
  refine CW.seq ?_
  refine CW.region ?_
  refine RW.v rfl (V.as (d := I 0) rfl rfl) ?_
  refine RW.nil ?_
  refine CW.le [(0, .r (sl 3 Entry.c a)), (1, I left)] rfl (Le.c rfl <| Le.c rfl <| Le.e) ?_
  refine CW.seq ?_
  refine CW.region ?_
  refine RW.v rfl (V.mv (d := I left) rfl rfl) ?_
  refine RW.v rfl (V.mv (d := .r (sl 3 Entry.c a)) rfl rfl) ?_
  refine RW.v rfl (V.lenT (n := a.length) rfl rfl rfl .r) ?_
  refine RW.v rfl (V.arInt rfl rfl rfl rfl) ?_
  refine RW.v rfl (V.as (d := I (IntKind.i64.wrap (left - (a.length : Int)))) rfl rfl) ?_
  refine RW.nil ?_
  refine CW.le [(0, .r (sl 3 Entry.c a)), (1, I (IntKind.i64.wrap (left - (a.length : Int))))] rfl (Le.c rfl <| Le.c rfl <| Le.e) ?_
  refine CW.seq ?_
  refine CW.seq ?_
  refine CW.region ?_
  refine RW.v rfl (V.mv (d := I (IntKind.i64.wrap (left - (a.length : Int)))) rfl rfl) ?_
  refine RW.v rfl (V.cmpInt rfl rfl rfl rfl) ?_
  refine RW.nil ?_
  refine CW.le [(0, .r (sl 3 Entry.c a)), (1, I (IntKind.i64.wrap (left - (a.length : Int)))), (11, Bo (decide ((IntKind.i64.wrap (left - (a.length : Int))) < 0)))] rfl (Le.c rfl <| Le.c rfl <| Le.c rfl <| Le.e) ?_
  refine CW.cond rfl (fun h1 => ?_) (fun h1 => ?_)
  · skip
    refine CW.seq ?_
    refine CW.region ?_
    refine RW.v rfl (V.as (d := I (-1)) rfl rfl) ?_
    refine RW.nil ?_
    refine CW.le [(4, I (-1))] rfl (Le.c rfl <| Le.e) ?_
    refine CW.ret ?_
    exact Post.int rfl (by first | (simp_all [szS, szL, szStr, szI]; done) | grind [szS, szL, szStr, szI]) (AOs.r (AOs.r AOs.e))
  · skip
    refine CW.skip ?_
    refine CW.le [(0, .r (sl 3 Entry.c a)), (1, I (IntKind.i64.wrap (left - (a.length : Int))))] rfl (Le.c rfl <| Le.c rfl <| Le.e) ?_
    refine CW.seq ?_
    refine CW.seq ?_
    refine CW.region ?_
    refine RW.v rfl (V.as (d := I 0) rfl rfl) ?_
    refine RW.nil ?_
    refine CW.le [(0, .r (sl 3 Entry.c a)), (1, I (IntKind.i64.wrap (left - (a.length : Int)))), (5, I 0)] rfl (Le.c rfl <| Le.c rfl <| Le.c rfl <| Le.e) ?_
    refine CW.block ?_
    refine CW.loopI 27 (fun (x : Nat × Int) => match x with | (i, l) => [(0, .r (sl 3 Entry.c a)), (1, I l), (5, I (i : Int))]) (fun (x : Nat × Int) => match x with | (i, l) => i ≤ a.length ∧ szL szEntry (a.drop i) l = szS szEntry a left) (fun (x : Nat × Int) => match x with | (i, l) => a.length - i) (0, _) rfl (Le.c rfl <| Le.c rfl <| Le.c rfl <| Le.e) ⟨by omega, by first | (simp_all [szS]; done) | grind [szS]⟩ ?_
    rintro ⟨i, l⟩ ⟨hb, hr⟩
    refine CW.seq ?_
    refine CW.seq ?_
    refine CW.region ?_
    refine RW.v rfl (V.mv (d := I (i : Int)) rfl rfl) ?_
    refine RW.v rfl (V.mv (d := .r (sl 3 Entry.c a)) rfl rfl) ?_
    refine RW.v rfl (V.lenT (n := a.length) rfl rfl rfl .r) ?_
    refine RW.v rfl (V.cmpInt rfl rfl rfl rfl) ?_
    refine RW.nil ?_
    refine CW.le [(0, .r (sl 3 Entry.c a)), (1, I l), (5, I (i : Int)), (15, Bo (decide ((i : Int) < (a.length : Int))))] rfl (Le.c rfl <| Le.c rfl <| Le.c rfl <| Le.c rfl <| Le.e) ?_
    refine CW.cond rfl (fun h2 => ?_) (fun h2 => ?_)
    · skip
      have hii : i < a.length := by have := h2; simp at this; first | exact this | (simp; omega)
      obtain ⟨ei, hei⟩ : ∃ e, a[i]? = some e := ⟨_, List.getElem?_eq_getElem hii⟩
      have hdi := drop_get hei
      refine CW.skip ?_
      refine CW.le [(0, .r (sl 3 Entry.c a)), (1, I l), (5, I (i : Int))] rfl (Le.c rfl <| Le.c rfl <| Le.c rfl <| Le.e) ?_
      refine CW.seq ?_
      refine CW.block ?_
      refine CW.seq ?_
      refine CW.region ?_
      refine RW.v rfl (V.mv (d := .r (sl 3 Entry.c a)) rfl rfl) ?_
      refine RW.v rfl (V.mv (d := I (i : Int)) rfl rfl) ?_
      refine RW.v rfl (V.indexS rfl rfl rfl rfl rfl rfl Entry.len hei) ?_
      refine RW.v rfl (V.loadAggR rfl rfl rfl rfl (Nat.le_of_ble_eq_true rfl)) ?_
      refine RW.v rfl (V.mv (d := I l) rfl rfl) ?_
      refine RW.call rfl (laws_szEntry_fn ei l) rfl (.cons (.agg (.cons (.r .r) (.cons (.r .r) (.cons (.r .r) (.nil))))) (.cons (.one (.r .r)) (.nil))) fun g3 => ?_
      refine RW.v rfl (V.as (d := I (szEntry ei l)) rfl rfl) ?_
      refine RW.nil ?_
      refine CW.le [(0, .r (sl 3 Entry.c a)), (1, I (szEntry ei l)), (5, I (i : Int))] rfl (Le.c rfl <| Le.c rfl <| Le.c rfl <| Le.e) ?_
      refine CW.seq ?_
      refine CW.region ?_
      refine RW.v rfl (V.mv (d := I (szEntry ei l)) rfl rfl) ?_
      refine RW.v rfl (V.cmpInt rfl rfl rfl rfl) ?_
      refine RW.nil ?_
      refine CW.le [(0, .r (sl 3 Entry.c a)), (1, I (szEntry ei l)), (5, I (i : Int)), (25, Bo (decide ((szEntry ei l) < 0)))] rfl (Le.c rfl <| Le.c rfl <| Le.c rfl <| Le.c rfl <| Le.e) ?_
      refine CW.cond rfl (fun h4 => ?_) (fun h4 => ?_)
      · skip
        refine CW.seq ?_
        refine CW.region ?_
        refine RW.v rfl (V.as (d := I (-1)) rfl rfl) ?_
        refine RW.nil ?_
        refine CW.le [(4, I (-1))] rfl (Le.c rfl <| Le.e) ?_
        refine CW.ret ?_
        exact Post.int rfl (by first | (simp_all [szS, szL, szStr, szI]; done) | grind [szS, szL, szStr, szI]) (AOs.r (AOs.r AOs.e))
      · skip
        refine CW.skip ?_
        refine CW.le [(0, .r (sl 3 Entry.c a)), (1, I (szEntry ei l)), (5, I (i : Int))] rfl (Le.c rfl <| Le.c rfl <| Le.c rfl <| Le.e) ?_
        refine CW.region ?_
        refine RW.v rfl (V.mv (d := I (i : Int)) rfl rfl) ?_
        refine RW.v rfl (V.inc rfl rfl rfl hii hl0) ?_
        refine RW.v rfl (V.as (d := I ((i + 1 : Nat) : Int)) rfl rfl) ?_
        refine RW.nil ?_
        exact ⟨(i + 1, _), by simp only []; omega, ⟨by omega, by first | (simp_all [szL, szStr, szI]; done) | grind [szL, szStr, szI]⟩, rfl, Le.c rfl <| Le.c rfl <| Le.c rfl <| Le.e⟩
    · skip
      have hii : a.length ≤ i := by have := h2; simp at this; first | exact this | (simp; omega)
      have hdi : a.drop i = [] := List.drop_eq_nil_of_le hii
      refine CW.exit ?_
      refine CW.le [(1, I l)] rfl (Le.c rfl <| Le.e) ?_
      refine CW.seq ?_
      refine CW.region ?_
      refine RW.v rfl (V.mv (d := I l) rfl rfl) ?_
      refine RW.v rfl (V.as (d := I l) rfl rfl) ?_
      refine RW.nil ?_
      refine CW.le [(4, I l)] rfl (Le.c rfl <| Le.e) ?_
      refine CW.ret ?_
      exact Post.int rfl (by first | (simp_all [szS, szL, szStr, szI]; done) | grind [szS, szL, szStr, szI]) (AOs.r (AOs.r AOs.e))
theorem laws_szLog_fn (a : Log) (left : Int) : Eng.Fn E.P 65 [.agg ((Log.c a).map .r), .one (.r (.v (.int .i64 left)))] (.one (.one (.w (.v (.int .i64 (szLog a left)))))) [.agg ((Log.c a).map .r), .one (.r (.v (.int .i64 left)))] := by
  refine Eng.Fn.intro (E := E) (rvs := [.tmp 4]) Try.func65 rfl rfl rfl (by simp [outSlots, moved, rvSlot]) ?_
  intro B g bo
  refine CW.le [(0, .agg ((Log.c a).map .r)), (1, I left)] rfl (Le.c rfl <| Le.c rfl <| Le.e) ?_
  refine CW.seq ?_
  refine CW.region ?_
  refine RW.box (ds := ((Log.c a).map .r)) rfl rfl rfl fun b1 => ?_
  refine RW.v rfl (V.as (d := I 0) rfl rfl) ?_
  refine RW.nil ?_
  refine CW.le [(1, I left), (2, .obj b1 ((Log.c a).map .r))] rfl (Le.c rfl <| Le.c rfl <| Le.e) ?_
  refine CW.seq ?_
  refine CW.region ?_
  refine RW.v rfl (V.field rfl rfl rfl rfl (by decide) rfl) ?_
  refine RW.v rfl (V.loadPrim (d := .r (sl 3 Entry.c a.entries)) rfl rfl (.inr ⟨_, rfl⟩) rfl rfl rfl) ?_
  refine RW.v rfl (V.mv (d := I left) rfl rfl) ?_
  refine RW.call rfl (laws_szEntryS_fn a.entries left) rfl (.cons (.one (.r .r)) (.cons (.one (.r .r)) (.nil))) fun g2 => ?_
  refine RW.v rfl (V.as (d := I (szS szEntry a.entries left)) rfl rfl) ?_
  refine RW.nil ?_
  refine CW.le [(1, I (szS szEntry a.entries left))] rfl (Le.c rfl <| Le.e) ?_
  refine CW.seq ?_
  refine CW.seq ?_
  refine CW.region ?_
  refine RW.v rfl (V.mv (d := I (szS szEntry a.entries left)) rfl rfl) ?_
  refine RW.v rfl (V.cmpInt rfl rfl rfl rfl) ?_
  refine RW.nil ?_
  refine CW.le [(1, I (szS szEntry a.entries left)), (10, Bo (decide ((szS szEntry a.entries left) < 0)))] rfl (Le.c rfl <| Le.c rfl <| Le.e) ?_
  refine CW.cond rfl (fun h3 => ?_) (fun h3 => ?_)
  · skip
    refine CW.seq ?_
    refine CW.region ?_
    refine RW.v rfl (V.as (d := I (-1)) rfl rfl) ?_
    refine RW.nil ?_
    refine CW.le [(4, I (-1))] rfl (Le.c rfl <| Le.e) ?_
    refine CW.ret ?_
    exact Post.int rfl (by first | (simp_all [szLog]; done) | (simp_all [szLog]; omega) | grind [szLog]) (AOs.a rfl (AOs.r AOs.e))
  · skip
    refine CW.skip ?_
    refine CW.le [(1, I (szS szEntry a.entries left))] rfl (Le.c rfl <| Le.e) ?_
    refine CW.seq ?_
    refine CW.region ?_
    refine RW.v rfl (V.mv (d := I (szS szEntry a.entries left)) rfl rfl) ?_
    refine RW.v rfl (V.as (d := I (szS szEntry a.entries left)) rfl rfl) ?_
    refine RW.nil ?_
    refine CW.le [(4, I (szS szEntry a.entries left))] rfl (Le.c rfl <| Le.e) ?_
    refine CW.ret ?_
    exact Post.int rfl (by first | (simp_all [szLog]; done) | (simp_all [szLog]; omega) | grind [szLog]) (AOs.a rfl (AOs.r AOs.e))
theorem laws_szLeader_fn (a : Leader) (left : Int) : Eng.Fn E.P 45 [.agg ((Leader.c a).map .r), .one (.r (.v (.int .i64 left)))] (.one (.one (.w (.v (.int .i64 (szLeader a left)))))) [.agg ((Leader.c a).map .r), .one (.r (.v (.int .i64 left)))] := by
  refine Eng.Fn.intro (E := E) (rvs := [.tmp 4]) Try.func45 rfl rfl rfl (by simp [outSlots, moved, rvSlot]) ?_
  intro B g bo
  refine CW.le [(0, .agg ((Leader.c a).map .r)), (1, I left)] rfl (Le.c rfl <| Le.c rfl <| Le.e) ?_
  refine CW.seq ?_
  refine CW.region ?_
  refine RW.box (ds := ((Leader.c a).map .r)) rfl rfl rfl fun b1 => ?_
  refine RW.v rfl (V.as (d := I 0) rfl rfl) ?_
  refine RW.nil ?_
  refine CW.le [(1, I left), (2, .obj b1 ((Leader.c a).map .r))] rfl (Le.c rfl <| Le.c rfl <| Le.e) ?_
  refine CW.seq ?_
  refine CW.region ?_
  refine RW.v rfl (V.field rfl rfl rfl rfl (by decide) rfl) ?_
  refine RW.v rfl (V.loadAgg rfl rfl rfl rfl rfl (Nat.le_of_ble_eq_true rfl)) ?_
  refine RW.v rfl (V.mv (d := I left) rfl rfl) ?_
  refine RW.call rfl (laws_szLog_fn a.log left) rfl (.cons (.agg (.cons (.r .r) (.cons (.r .r) (.cons (.r .r) (.nil))))) (.cons (.one (.r .r)) (.nil))) fun g2 => ?_
  refine RW.v rfl (V.as (d := I (szLog a.log left)) rfl rfl) ?_
  refine RW.nil ?_
  refine CW.le [(1, I (szLog a.log left))] rfl (Le.c rfl <| Le.e) ?_
  refine CW.seq ?_
  refine CW.seq ?_
  refine CW.region ?_
  refine RW.v rfl (V.mv (d := I (szLog a.log left)) rfl rfl) ?_
  refine RW.v rfl (V.cmpInt rfl rfl rfl rfl) ?_
  refine RW.nil ?_
  refine CW.le [(1, I (szLog a.log left)), (10, Bo (decide ((szLog a.log left) < 0)))] rfl (Le.c rfl <| Le.c rfl <| Le.e) ?_
  refine CW.cond rfl (fun h3 => ?_) (fun h3 => ?_)
  · skip
    refine CW.seq ?_
    refine CW.region ?_
    refine RW.v rfl (V.as (d := I (-1)) rfl rfl) ?_
    refine RW.nil ?_
    refine CW.le [(4, I (-1))] rfl (Le.c rfl <| Le.e) ?_
    refine CW.ret ?_
    exact Post.int rfl (by first | (simp_all [szLeader]; done) | (simp_all [szLeader]; omega) | grind [szLeader]) (AOs.a rfl (AOs.r AOs.e))
  · skip
    refine CW.skip ?_
    refine CW.le [(1, I (szLog a.log left))] rfl (Le.c rfl <| Le.e) ?_
    refine CW.seq ?_
    refine CW.region ?_
    refine RW.v rfl (V.mv (d := I (szLog a.log left)) rfl rfl) ?_
    refine RW.v rfl (V.as (d := I (szLog a.log left)) rfl rfl) ?_
    refine RW.nil ?_
    refine CW.le [(4, I (szLog a.log left))] rfl (Le.c rfl <| Le.e) ?_
    refine CW.ret ?_
    exact Post.int rfl (by first | (simp_all [szLeader]; done) | (simp_all [szLeader]; omega) | grind [szLeader]) (AOs.a rfl (AOs.r AOs.e))
theorem laws_szLeaderS_fn (a : List Leader) (left : Int) : Eng.Fn E.P 21 [.one (.r (sl 5 Leader.c a)), .one (.r (.v (.int .i64 left)))] (.one (.one (.w (.v (.int .i64 (szS szLeader a left)))))) [.one (.r (sl 5 Leader.c a)), .one (.r (.v (.int .i64 left)))] := by
  refine Eng.Fn.intro (E := E) (rvs := [.tmp 4]) Try.func21 rfl rfl rfl (by simp [outSlots, moved, rvSlot]) ?_
  intro B g bo
  refine CW.bound (x := .tmp 0) (n := a.length) (AsT.r) (fun hl0 => ?_)
  refine CW.le [(0, .r (sl 5 Leader.c a)), (1, I left)] rfl (Le.c rfl <| Le.c rfl <| Le.e) ?_
  refine CW.seq ?_
  refine CW.region ?_
  refine RW.v rfl (V.as (d := I 0) rfl rfl) ?_
  refine RW.nil ?_
  refine CW.le [(0, .r (sl 5 Leader.c a)), (1, I left)] rfl (Le.c rfl <| Le.c rfl <| Le.e) ?_
  refine CW.seq ?_
  refine CW.region ?_
  refine RW.v rfl (V.mv (d := I left) rfl rfl) ?_
  refine RW.v rfl (V.mv (d := .r (sl 5 Leader.c a)) rfl rfl) ?_
  refine RW.v rfl (V.lenT (n := a.length) rfl rfl rfl .r) ?_
  refine RW.v rfl (V.arInt rfl rfl rfl rfl) ?_
  refine RW.v rfl (V.as (d := I (IntKind.i64.wrap (left - (a.length : Int)))) rfl rfl) ?_
  refine RW.nil ?_
  refine CW.le [(0, .r (sl 5 Leader.c a)), (1, I (IntKind.i64.wrap (left - (a.length : Int))))] rfl (Le.c rfl <| Le.c rfl <| Le.e) ?_
  refine CW.seq ?_
  refine CW.seq ?_
  refine CW.region ?_
  refine RW.v rfl (V.mv (d := I (IntKind.i64.wrap (left - (a.length : Int)))) rfl rfl) ?_
  refine RW.v rfl (V.cmpInt rfl rfl rfl rfl) ?_
  refine RW.nil ?_
  refine CW.le [(0, .r (sl 5 Leader.c a)), (1, I (IntKind.i64.wrap (left - (a.length : Int)))), (11, Bo (decide ((IntKind.i64.wrap (left - (a.length : Int))) < 0)))] rfl (Le.c rfl <| Le.c rfl <| Le.c rfl <| Le.e) ?_
  refine CW.cond rfl (fun h1 => ?_) (fun h1 => ?_)
  · skip
    refine CW.seq ?_
    refine CW.region ?_
    refine RW.v rfl (V.as (d := I (-1)) rfl rfl) ?_
    refine RW.nil ?_
    refine CW.le [(4, I (-1))] rfl (Le.c rfl <| Le.e) ?_
    refine CW.ret ?_
    exact Post.int rfl (by first | (simp_all [szS, szL, szStr, szI]; done) | grind [szS, szL, szStr, szI]) (AOs.r (AOs.r AOs.e))
  · skip
    refine CW.skip ?_
    refine CW.le [(0, .r (sl 5 Leader.c a)), (1, I (IntKind.i64.wrap (left - (a.length : Int))))] rfl (Le.c rfl <| Le.c rfl <| Le.e) ?_
    refine CW.seq ?_
    refine CW.seq ?_
    refine CW.region ?_
    refine RW.v rfl (V.as (d := I 0) rfl rfl) ?_
    refine RW.nil ?_
    refine CW.le [(0, .r (sl 5 Leader.c a)), (1, I (IntKind.i64.wrap (left - (a.length : Int)))), (5, I 0)] rfl (Le.c rfl <| Le.c rfl <| Le.c rfl <| Le.e) ?_
    refine CW.block ?_
    refine CW.loopI 27 (fun (x : Nat × Int) => match x with | (i, l) => [(0, .r (sl 5 Leader.c a)), (1, I l), (5, I (i : Int))]) (fun (x : Nat × Int) => match x with | (i, l) => i ≤ a.length ∧ szL szLeader (a.drop i) l = szS szLeader a left) (fun (x : Nat × Int) => match x with | (i, l) => a.length - i) (0, _) rfl (Le.c rfl <| Le.c rfl <| Le.c rfl <| Le.e) ⟨by omega, by first | (simp_all [szS]; done) | grind [szS]⟩ ?_
    rintro ⟨i, l⟩ ⟨hb, hr⟩
    refine CW.seq ?_
    refine CW.seq ?_
    refine CW.region ?_
    refine RW.v rfl (V.mv (d := I (i : Int)) rfl rfl) ?_
    refine RW.v rfl (V.mv (d := .r (sl 5 Leader.c a)) rfl rfl) ?_
    refine RW.v rfl (V.lenT (n := a.length) rfl rfl rfl .r) ?_
    refine RW.v rfl (V.cmpInt rfl rfl rfl rfl) ?_
    refine RW.nil ?_
    refine CW.le [(0, .r (sl 5 Leader.c a)), (1, I l), (5, I (i : Int)), (15, Bo (decide ((i : Int) < (a.length : Int))))] rfl (Le.c rfl <| Le.c rfl <| Le.c rfl <| Le.c rfl <| Le.e) ?_
    refine CW.cond rfl (fun h2 => ?_) (fun h2 => ?_)
    · skip
      have hii : i < a.length := by have := h2; simp at this; first | exact this | (simp; omega)
      obtain ⟨ei, hei⟩ : ∃ e, a[i]? = some e := ⟨_, List.getElem?_eq_getElem hii⟩
      have hdi := drop_get hei
      refine CW.skip ?_
      refine CW.le [(0, .r (sl 5 Leader.c a)), (1, I l), (5, I (i : Int))] rfl (Le.c rfl <| Le.c rfl <| Le.c rfl <| Le.e) ?_
      refine CW.seq ?_
      refine CW.block ?_
      refine CW.seq ?_
      refine CW.region ?_
      refine RW.v rfl (V.mv (d := .r (sl 5 Leader.c a)) rfl rfl) ?_
      refine RW.v rfl (V.mv (d := I (i : Int)) rfl rfl) ?_
      refine RW.v rfl (V.indexS rfl rfl rfl rfl rfl rfl Leader.len hei) ?_
      refine RW.v rfl (V.loadAggR rfl rfl rfl rfl (Nat.le_of_ble_eq_true rfl)) ?_
      refine RW.v rfl (V.mv (d := I l) rfl rfl) ?_
      refine RW.call rfl (laws_szLeader_fn ei l) rfl (.cons (.agg (.cons (.r .r) (.cons (.r .r) (.cons (.r .r) (.cons (.r .r) (.cons (.r .r) (.nil))))))) (.cons (.one (.r .r)) (.nil))) fun g3 => ?_
      refine RW.v rfl (V.as (d := I (szLeader ei l)) rfl rfl) ?_
      refine RW.nil ?_
      refine CW.le [(0, .r (sl 5 Leader.c a)), (1, I (szLeader ei l)), (5, I (i : Int))] rfl (Le.c rfl <| Le.c rfl <| Le.c rfl <| Le.e) ?_
      refine CW.seq ?_
      refine CW.region ?_
      refine RW.v rfl (V.mv (d := I (szLeader ei l)) rfl rfl) ?_
      refine RW.v rfl (V.cmpInt rfl rfl rfl rfl) ?_
      refine RW.nil ?_
      refine CW.le [(0, .r (sl 5 Leader.c a)), (1, I (szLeader ei l)), (5, I (i : Int)), (25, Bo (decide ((szLeader ei l) < 0)))] rfl (Le.c rfl <| Le.c rfl <| Le.c rfl <| Le.c rfl <| Le.e) ?_
      refine CW.cond rfl (fun h4 => ?_) (fun h4 => ?_)
      · skip
        refine CW.seq ?_
        refine CW.region ?_
        refine RW.v rfl (V.as (d := I (-1)) rfl rfl) ?_
        refine RW.nil ?_
        refine CW.le [(4, I (-1))] rfl (Le.c rfl <| Le.e) ?_
        refine CW.ret ?_
        exact Post.int rfl (by first | (simp_all [szS, szL, szStr, szI]; done) | grind [szS, szL, szStr, szI]) (AOs.r (AOs.r AOs.e))
      · skip
        refine CW.skip ?_
        refine CW.le [(0, .r (sl 5 Leader.c a)), (1, I (szLeader ei l)), (5, I (i : Int))] rfl (Le.c rfl <| Le.c rfl <| Le.c rfl <| Le.e) ?_
        refine CW.region ?_
        refine RW.v rfl (V.mv (d := I (i : Int)) rfl rfl) ?_
        refine RW.v rfl (V.inc rfl rfl rfl hii hl0) ?_
        refine RW.v rfl (V.as (d := I ((i + 1 : Nat) : Int)) rfl rfl) ?_
        refine RW.nil ?_
        exact ⟨(i + 1, _), by simp only []; omega, ⟨by omega, by first | (simp_all [szL, szStr, szI]; done) | grind [szL, szStr, szI]⟩, rfl, Le.c rfl <| Le.c rfl <| Le.c rfl <| Le.e⟩
    · skip
      have hii : a.length ≤ i := by have := h2; simp at this; first | exact this | (simp; omega)
      have hdi : a.drop i = [] := List.drop_eq_nil_of_le hii
      refine CW.exit ?_
      refine CW.le [(1, I l)] rfl (Le.c rfl <| Le.e) ?_
      refine CW.seq ?_
      refine CW.region ?_
      refine RW.v rfl (V.mv (d := I l) rfl rfl) ?_
      refine RW.v rfl (V.as (d := I l) rfl rfl) ?_
      refine RW.nil ?_
      refine CW.le [(4, I l)] rfl (Le.c rfl <| Le.e) ?_
      refine CW.ret ?_
      exact Post.int rfl (by first | (simp_all [szS, szL, szStr, szI]; done) | grind [szS, szL, szStr, szI]) (AOs.r (AOs.r AOs.e))
theorem laws_toEntry_fn (a : Entry) : Eng.Fn E.P 64 [.agg ((Entry.c a).map .r)] (.one (.agg ((Entry.c a).map .w))) [.agg ((Entry.c a).map .r)] := by
  refine Eng.Fn.intro (E := E) (rvs := [.cell 2 67]) Try.func64 rfl rfl rfl (by simp [outSlots, moved, rvSlot]) ?_
  intro B g bo
  refine CW.le [(0, .agg ((Entry.c a).map .r))] rfl (Le.c rfl <| Le.e) ?_
  refine CW.seq ?_
  refine CW.region ?_
  refine RW.box (ds := ((Entry.c a).map .r)) rfl rfl rfl fun b1 => ?_
  refine RW.alloc (ds := [I 0, I 0, S (⟨#[]⟩)]) rfl rfl rfl rfl fun b2 => ?_
  refine RW.nil ?_
  refine CW.le [(1, .obj b1 ((Entry.c a).map .r)), (2, .obj b2 [I 0, I 0, S (⟨#[]⟩)])] rfl (Le.c rfl <| Le.c rfl <| Le.e) ?_
  refine CW.seq ?_
  refine CW.region ?_
  refine RW.alloc (ds := [I 0, I 0, S (⟨#[]⟩)]) rfl rfl rfl rfl fun b3 => ?_
  refine RW.nil ?_
  refine CW.le [(1, .obj b1 ((Entry.c a).map .r)), (2, .obj b2 [I 0, I 0, S (⟨#[]⟩)]), (3, .obj b3 [I 0, I 0, S (⟨#[]⟩)])] rfl (Le.c rfl <| Le.c rfl <| Le.c rfl <| Le.e) ?_
  refine CW.seq ?_
  refine CW.region ?_
  refine RW.v rfl (V.field rfl rfl rfl rfl (by decide) rfl) ?_
  refine RW.v rfl (V.loadPrim (d := I a.term_) rfl rfl (.inl rfl) rfl rfl rfl) ?_
  refine RW.v rfl (V.field rfl rfl rfl rfl (by decide) rfl) ?_
  refine RW.store (d := I a.term_) rfl rfl rfl rfl rfl rfl rfl (Nat.le_of_ble_eq_true rfl) rfl rfl ?_
  refine RW.nil ?_
  refine CW.le [(1, .obj b1 ((Entry.c a).map .r)), (2, .obj b2 [I 0, I 0, S (⟨#[]⟩)]), (3, .obj b3 [I a.term_, I 0, S (⟨#[]⟩)])] rfl (Le.c rfl <| Le.c rfl <| Le.c rfl <| Le.e) ?_
  refine CW.seq ?_
  refine CW.region ?_
  refine RW.v rfl (V.field rfl rfl rfl rfl (by decide) rfl) ?_
  refine RW.v rfl (V.loadPrim (d := I a.kind) rfl rfl (.inl rfl) rfl rfl rfl) ?_
  refine RW.v rfl (V.field rfl rfl rfl rfl (by decide) rfl) ?_
  refine RW.store (d := I a.kind) rfl rfl rfl rfl rfl rfl rfl (Nat.le_of_ble_eq_true rfl) rfl rfl ?_
  refine RW.nil ?_
  refine CW.le [(1, .obj b1 ((Entry.c a).map .r)), (2, .obj b2 [I 0, I 0, S (⟨#[]⟩)]), (3, .obj b3 [I a.term_, I a.kind, S (⟨#[]⟩)])] rfl (Le.c rfl <| Le.c rfl <| Le.c rfl <| Le.e) ?_
  refine CW.seq ?_
  refine CW.region ?_
  refine RW.v rfl (V.field rfl rfl rfl rfl (by decide) rfl) ?_
  refine RW.v rfl (V.loadPrim (d := S a.data) rfl rfl (.inl rfl) rfl rfl rfl) ?_
  refine RW.v rfl (V.field rfl rfl rfl rfl (by decide) rfl) ?_
  refine RW.store (d := S a.data) rfl rfl rfl rfl rfl rfl rfl (Nat.le_of_ble_eq_true rfl) rfl rfl ?_
  refine RW.nil ?_
  refine CW.le [(2, .obj b2 [I 0, I 0, S (⟨#[]⟩)]), (3, .obj b3 ((Entry.c a).map .r))] rfl (Le.c rfl <| Le.c rfl <| Le.e) ?_
  refine CW.seq ?_
  refine CW.region ?_
  refine RW.v rfl (V.loadAgg rfl rfl rfl rfl rfl (Nat.le_of_ble_eq_true rfl)) ?_
  refine RW.storeAgg (es := ((Entry.c a).map .r)) rfl rfl rfl rfl rfl rfl rfl rfl (Nat.le_of_ble_eq_true rfl) rfl ?_
  refine RW.nil ?_
  refine CW.le [(2, .obj b2 ((Entry.c a).map .r))] rfl (Le.c rfl <| Le.e) ?_
  refine CW.ret ?_
  exact Post.cell rfl rfl rfl rfl (DT.v (DT.v (DT.v DT.e))) (AOs.a rfl AOs.e)
theorem laws_toEntryS_fn (a : List Entry) (hm : a.length ≤ 1048576) : Eng.Fn E.P 74 [.one (.r (sl 3 Entry.c a))] (.one (.one (.w (sl 3 Entry.c a)))) [.one (.r (sl 3 Entry.c a))] := by
  refine Eng.Fn.intro (E := E) (rvs := [.tmp 2]) Try.func74 rfl rfl rfl (by simp [outSlots, moved, rvSlot]) ?_
  intro B g bo
  refine CW.bound (x := .tmp 0) (n := a.length) (AsT.r) (fun hl0 => ?_)
  refine CW.le [(0, .r (sl 3 Entry.c a))] rfl (Le.c rfl <| Le.e) ?_
  refine CW.seq ?_
  refine CW.region ?_
  refine RW.v rfl (V.as (d := .r (.v (.slice none 0 0))) rfl rfl) ?_
  refine RW.nil ?_
  refine CW.le [(0, .r (sl 3 Entry.c a))] rfl (Le.c rfl <| Le.e) ?_
  refine CW.seq ?_
  refine CW.region ?_
  refine RW.v rfl (V.mv (d := .r (sl 3 Entry.c a)) rfl rfl) ?_
  refine RW.v rfl (V.lenT (n := a.length) rfl rfl rfl .r) ?_
  refine RW.makeS (n := a.length) (c := Entry.c) Entry.z rfl rfl rfl rfl rfl rfl rfl rfl (ZT.v (ZT.v (ZT.v ZT.e))) (by show 32 * a.length ≤ 281474976710656; omega) (by simp only [maxLen]; omega) fun X1 => ?_
  refine RW.assignMove rfl rfl rfl (by decide) (Nat.le_of_ble_eq_true rfl) (Nat.le_of_ble_eq_true rfl) ?_
  refine RW.nil ?_
  refine CW.le [(0, .r (sl 3 Entry.c a)), (3, .w (sl 3 Entry.c (List.replicate a.length Entry.z)) X1)] rfl (Le.c rfl <| Le.c rfl <| Le.e) ?_
  refine CW.seq ?_
  refine CW.seq ?_
  refine CW.region ?_
  refine RW.v rfl (V.as (d := I 0) rfl rfl) ?_
  refine RW.nil ?_
  refine CW.le [(0, .r (sl 3 Entry.c a)), (3, .w (sl 3 Entry.c (List.replicate a.length Entry.z)) X1), (4, I 0)] rfl (Le.c rfl <| Le.c rfl <| Le.c rfl <| Le.e) ?_
  refine CW.block ?_
  refine CW.loopI 23 (fun (i : Nat) => [(0, .r (sl 3 Entry.c a)), (3, .w (sl 3 Entry.c (a.take i ++ List.replicate (a.length - i) Entry.z)) X1), (4, I (i : Int))]) (fun (i : Nat) => i ≤ a.length) (fun (i : Nat) => a.length - i) 0 rfl (Le.c rfl <| Le.c rfl <| Le.c rfl <| Le.e) (by omega) ?_
  rintro i hb
  refine CW.seq ?_
  refine CW.seq ?_
  refine CW.region ?_
  refine RW.v rfl (V.mv (d := I (i : Int)) rfl rfl) ?_
  refine RW.v rfl (V.mv (d := .r (sl 3 Entry.c a)) rfl rfl) ?_
  refine RW.v rfl (V.lenT (n := a.length) rfl rfl rfl .r) ?_
  refine RW.v rfl (V.cmpInt rfl rfl rfl rfl) ?_
  refine RW.nil ?_
  refine CW.le [(0, .r (sl 3 Entry.c a)), (3, .w (sl 3 Entry.c (a.take i ++ List.replicate (a.length - i) Entry.z)) X1), (4, I (i : Int)), (11, Bo (decide ((i : Int) < (a.length : Int))))] rfl (Le.c rfl <| Le.c rfl <| Le.c rfl <| Le.c rfl <| Le.e) ?_
  refine CW.cond rfl (fun h2 => ?_) (fun h2 => ?_)
  · skip
    have hii : i < a.length := by have := h2; simp at this; first | exact this | (simp; omega)
    obtain ⟨ei, hei⟩ : ∃ e, a[i]? = some e := ⟨_, List.getElem?_eq_getElem hii⟩
    have hdi := drop_get hei
    refine CW.skip ?_
    refine CW.le [(0, .r (sl 3 Entry.c a)), (3, .w (sl 3 Entry.c (a.take i ++ List.replicate (a.length - i) Entry.z)) X1), (4, I (i : Int))] rfl (Le.c rfl <| Le.c rfl <| Le.c rfl <| Le.e) ?_
    refine CW.seq ?_
    refine CW.block ?_
    refine CW.region ?_
    refine RW.v rfl (V.mv (d := .al 3 none 3 ((a.take i ++ List.replicate (a.length - i) Entry.z).length) X1 0) rfl rfl) ?_
    refine RW.v rfl (V.mv (d := I (i : Int)) rfl rfl) ?_
    refine RW.v rfl (V.mv (d := .r (sl 3 Entry.c a)) rfl rfl) ?_
    refine RW.v rfl (V.mv (d := I (i : Int)) rfl rfl) ?_
    refine RW.v rfl (V.indexS rfl rfl rfl rfl rfl rfl Entry.len hei) ?_
    refine RW.v rfl (V.loadAggR rfl rfl rfl rfl (Nat.le_of_ble_eq_true rfl)) ?_
    refine RW.call rfl (laws_toEntry_fn ei) rfl (.cons (.agg (.cons (.r .r) (.cons (.r .r) (.cons (.r .r) (.nil))))) (.nil)) fun g3 => ?_
    refine RW.v rfl (V.indexW rfl rfl rfl rfl rfl rfl rfl (by simp; omega)) ?_
    refine RW.storeS (v := ei) rfl rfl rfl rfl rfl rfl rfl (DW.v (DW.v (DW.v DW.e))) Entry.len (by decide) (by simp; omega) rfl ?_
    refine RW.nil ?_
    refine CW.le [(0, .r (sl 3 Entry.c a)), (3, .w (sl 3 Entry.c ((a.take i ++ List.replicate (a.length - i) Entry.z).set i ei)) X1), (4, I (i : Int))] rfl (Le.c rfl <| Le.c rfl <| Le.c rfl <| Le.e) ?_
    refine CW.region ?_
    refine RW.v rfl (V.mv (d := I (i : Int)) rfl rfl) ?_
    refine RW.v rfl (V.inc rfl rfl rfl hii hl0) ?_
    refine RW.v rfl (V.as (d := I ((i + 1 : Nat) : Int)) rfl rfl) ?_
    refine RW.nil ?_
    exact ⟨i + 1, by omega, by omega, rfl, Le.c rfl <| Le.c (congrArg (fun l => D.w (sl _ Entry.c l) X1) (take_set hei)) <| Le.c rfl <| Le.e⟩
  · skip
    have hii : a.length ≤ i := by have := h2; simp at this; first | exact this | (simp; omega)
    have hdi : a.drop i = [] := List.drop_eq_nil_of_le hii
    refine CW.exit ?_
    refine CW.le [(3, .w (sl 3 Entry.c (a.take i ++ List.replicate (a.length - i) Entry.z)) X1)] rfl (Le.c rfl <| Le.e) ?_
    refine CW.seq ?_
    refine CW.region ?_
    refine RW.v rfl (V.mv (d := .al 3 none 3 ((a.take i ++ List.replicate (a.length - i) Entry.z).length) X1 0) rfl rfl) ?_
    refine RW.v rfl (V.as (d := .al 3 none 3 ((a.take i ++ List.replicate (a.length - i) Entry.z).length) X1 0) rfl rfl) ?_
    refine RW.nil ?_
    refine CW.le [(2, .al 3 none 3 ((a.take i ++ List.replicate (a.length - i) Entry.z).length) X1 0), (3, .w (sl 3 Entry.c (a.take i ++ List.replicate (a.length - i) Entry.z)) X1)] rfl (Le.c rfl <| Le.c rfl <| Le.e) ?_
    refine CW.pull 2 3 (by decide) rfl rfl ?_
    refine CW.ret ?_
    exact Post.own rfl (by rw [List.take_of_length_le hii, show a.length - i = 0 from by omega]; simp) (AOs.r AOs.e)
theorem laws_toLog_fn (a : Log) (hs : okToLog a) : Eng.Fn E.P 66 [.agg ((Log.c a).map .r)] (.one (.agg ((Log.c a).map .w))) [.agg ((Log.c a).map .r)] := by
  refine Eng.Fn.intro (E := E) (rvs := [.cell 2 87]) Try.func66 rfl rfl rfl (by simp [outSlots, moved, rvSlot]) ?_
  intro B g bo
  refine CW.le [(0, .agg ((Log.c a).map .r))] rfl (Le.c rfl <| Le.e) ?_
  refine CW.seq ?_
  refine CW.region ?_
  refine RW.box (ds := ((Log.c a).map .r)) rfl rfl rfl fun b1 => ?_
  refine RW.alloc (ds := [I 0, I 0, .r (.v (.slice none 0 0))]) rfl rfl rfl rfl fun b2 => ?_
  refine RW.nil ?_
  refine CW.le [(1, .obj b1 ((Log.c a).map .r)), (2, .obj b2 [I 0, I 0, .r (.v (.slice none 0 0))])] rfl (Le.c rfl <| Le.c rfl <| Le.e) ?_
  refine CW.seq ?_
  refine CW.region ?_
  refine RW.alloc (ds := [I 0, I 0, .r (.v (.slice none 0 0))]) rfl rfl rfl rfl fun b3 => ?_
  refine RW.nil ?_
  refine CW.le [(1, .obj b1 ((Log.c a).map .r)), (2, .obj b2 [I 0, I 0, .r (.v (.slice none 0 0))]), (3, .obj b3 [I 0, I 0, .r (.v (.slice none 0 0))])] rfl (Le.c rfl <| Le.c rfl <| Le.c rfl <| Le.e) ?_
  refine CW.seq ?_
  refine CW.region ?_
  refine RW.v rfl (V.field rfl rfl rfl rfl (by decide) rfl) ?_
  refine RW.v rfl (V.loadPrim (d := I a.start) rfl rfl (.inl rfl) rfl rfl rfl) ?_
  refine RW.v rfl (V.field rfl rfl rfl rfl (by decide) rfl) ?_
  refine RW.store (d := I a.start) rfl rfl rfl rfl rfl rfl rfl (Nat.le_of_ble_eq_true rfl) rfl rfl ?_
  refine RW.nil ?_
  refine CW.le [(1, .obj b1 ((Log.c a).map .r)), (2, .obj b2 [I 0, I 0, .r (.v (.slice none 0 0))]), (3, .obj b3 [I a.start, I 0, .r (.v (.slice none 0 0))])] rfl (Le.c rfl <| Le.c rfl <| Le.c rfl <| Le.e) ?_
  refine CW.seq ?_
  refine CW.region ?_
  refine RW.v rfl (V.field rfl rfl rfl rfl (by decide) rfl) ?_
  refine RW.v rfl (V.loadPrim (d := I a.startTerm) rfl rfl (.inl rfl) rfl rfl rfl) ?_
  refine RW.v rfl (V.field rfl rfl rfl rfl (by decide) rfl) ?_
  refine RW.store (d := I a.startTerm) rfl rfl rfl rfl rfl rfl rfl (Nat.le_of_ble_eq_true rfl) rfl rfl ?_
  refine RW.nil ?_
  refine CW.le [(1, .obj b1 ((Log.c a).map .r)), (2, .obj b2 [I 0, I 0, .r (.v (.slice none 0 0))]), (3, .obj b3 [I a.start, I a.startTerm, .r (.v (.slice none 0 0))])] rfl (Le.c rfl <| Le.c rfl <| Le.c rfl <| Le.e) ?_
  refine CW.seq ?_
  refine CW.region ?_
  refine RW.v rfl (V.field rfl rfl rfl rfl (by decide) rfl) ?_
  refine RW.v rfl (V.loadPrim (d := .r (sl 3 Entry.c a.entries)) rfl rfl (.inr ⟨_, rfl⟩) rfl rfl rfl) ?_
  refine RW.call rfl (laws_toEntryS_fn a.entries hs.1) rfl (.cons (.one (.r .r)) (.nil)) fun g4 => ?_
  refine RW.v rfl (V.field rfl rfl rfl rfl (by decide) rfl) ?_
  refine RW.store (d := .al 12 none 3 a.entries.length (g4 0 0) 0) rfl rfl rfl rfl rfl rfl rfl (Nat.le_of_ble_eq_true rfl) rfl rfl ?_
  refine RW.pullT (k := 3) (l := 12) (j := 2) 3 12 2 rfl rfl rfl (by decide) rfl rfl rfl ?_
  refine RW.nil ?_
  refine CW.le [(2, .obj b2 [I 0, I 0, .r (.v (.slice none 0 0))]), (3, .obj b3 [I a.start, I a.startTerm, .w (sl 3 Entry.c a.entries) (g4 0 0)])] rfl (Le.c rfl <| Le.c rfl <| Le.e) ?_
  refine CW.seq ?_
  refine CW.region ?_
  refine RW.v rfl (V.loadAgg rfl rfl rfl rfl rfl (Nat.le_of_ble_eq_true rfl)) ?_
  refine RW.storeAgg (es := [I a.start, I a.startTerm, .al 3 (some 2) 3 a.entries.length (g4 0 0) 0]) rfl rfl rfl rfl rfl rfl rfl rfl (Nat.le_of_ble_eq_true rfl) rfl ?_
  refine RW.pullO (k := 2) (l := 3) (j := 2) 2 3 2 rfl rfl rfl (by decide) rfl rfl rfl rfl ?_
  refine RW.nil ?_
  refine CW.le [(2, .obj b2 [I a.start, I a.startTerm, .w (sl 3 Entry.c a.entries) (g4 0 0)])] rfl (Le.c rfl <| Le.e) ?_
  refine CW.ret ?_
  exact Post.cell rfl rfl rfl rfl (DT.v (DT.v (DT.w DT.e))) (AOs.a rfl AOs.e)
theorem laws_toLeader_fn (a : Leader) (hs : okToLeader a) : Eng.Fn E.P 46 [.agg ((Leader.c a).map .r)] (.one (.agg ((Leader.c a).map .w))) [.agg ((Leader.c a).map .r)] := by
  refine Eng.Fn.intro (E := E) (rvs := [.cell 2 89]) Try.func46 rfl rfl rfl (by simp [outSlots, moved, rvSlot]) ?_
  intro B g bo
  refine CW.le [(0, .agg ((Leader.c a).map .r))] rfl (Le.c rfl <| Le.e) ?_
  refine CW.seq ?_
  refine CW.region ?_
  refine RW.box (ds := ((Leader.c a).map .r)) rfl rfl rfl fun b1 => ?_
  refine RW.alloc (ds := [I 0, I 0, I 0, I 0, .r (.v (.slice none 0 0))]) rfl rfl rfl rfl fun b2 => ?_
  refine RW.nil ?_
  refine CW.le [(1, .obj b1 ((Leader.c a).map .r)), (2, .obj b2 [I 0, I 0, I 0, I 0, .r (.v (.slice none 0 0))])] rfl (Le.c rfl <| Le.c rfl <| Le.e) ?_
  refine CW.seq ?_
  refine CW.region ?_
  refine RW.alloc (ds := [I 0, I 0, I 0, I 0, .r (.v (.slice none 0 0))]) rfl rfl rfl rfl fun b3 => ?_
  refine RW.nil ?_
  refine CW.le [(1, .obj b1 ((Leader.c a).map .r)), (2, .obj b2 [I 0, I 0, I 0, I 0, .r (.v (.slice none 0 0))]), (3, .obj b3 [I 0, I 0, I 0, I 0, .r (.v (.slice none 0 0))])] rfl (Le.c rfl <| Le.c rfl <| Le.c rfl <| Le.e) ?_
  refine CW.seq ?_
  refine CW.region ?_
  refine RW.v rfl (V.field rfl rfl rfl rfl (by decide) rfl) ?_
  refine RW.v rfl (V.loadPrim (d := I a.node) rfl rfl (.inl rfl) rfl rfl rfl) ?_
  refine RW.v rfl (V.field rfl rfl rfl rfl (by decide) rfl) ?_
  refine RW.store (d := I a.node) rfl rfl rfl rfl rfl rfl rfl (Nat.le_of_ble_eq_true rfl) rfl rfl ?_
  refine RW.nil ?_
  refine CW.le [(1, .obj b1 ((Leader.c a).map .r)), (2, .obj b2 [I 0, I 0, I 0, I 0, .r (.v (.slice none 0 0))]), (3, .obj b3 [I a.node, I 0, I 0, I 0, .r (.v (.slice none 0 0))])] rfl (Le.c rfl <| Le.c rfl <| Le.c rfl <| Le.e) ?_
  refine CW.seq ?_
  refine CW.region ?_
  refine RW.v rfl (V.field rfl rfl rfl rfl (by decide) rfl) ?_
  refine RW.v rfl (V.loadPrim (d := I a.term_) rfl rfl (.inl rfl) rfl rfl rfl) ?_
  refine RW.v rfl (V.field rfl rfl rfl rfl (by decide) rfl) ?_
  refine RW.store (d := I a.term_) rfl rfl rfl rfl rfl rfl rfl (Nat.le_of_ble_eq_true rfl) rfl rfl ?_
  refine RW.nil ?_
  refine CW.le [(1, .obj b1 ((Leader.c a).map .r)), (2, .obj b2 [I 0, I 0, I 0, I 0, .r (.v (.slice none 0 0))]), (3, .obj b3 [I a.node, I a.term_, I 0, I 0, .r (.v (.slice none 0 0))])] rfl (Le.c rfl <| Le.c rfl <| Le.c rfl <| Le.e) ?_
  refine CW.seq ?_
  refine CW.region ?_
  refine RW.v rfl (V.field rfl rfl rfl rfl (by decide) rfl) ?_
  refine RW.v rfl (V.loadAgg rfl rfl rfl rfl rfl (Nat.le_of_ble_eq_true rfl)) ?_
  refine RW.call rfl (laws_toLog_fn a.log hs) rfl (.cons (.agg (.cons (.r .r) (.cons (.r .r) (.cons (.r .r) (.nil))))) (.nil)) fun g4 => ?_
  refine RW.v rfl (V.field rfl rfl rfl rfl (by decide) rfl) ?_
  refine RW.storeAgg (es := [I a.log.start, I a.log.startTerm, .al 12 (some 2) 3 a.log.entries.length (g4 0 2) 0]) rfl rfl rfl rfl rfl rfl rfl rfl (Nat.le_of_ble_eq_true rfl) rfl ?_
  refine RW.pullA (k := 3) (l := 12) (j := 4) 3 12 4 rfl rfl rfl (by decide) rfl rfl rfl rfl ?_
  refine RW.nil ?_
  refine CW.le [(2, .obj b2 [I 0, I 0, I 0, I 0, .r (.v (.slice none 0 0))]), (3, .obj b3 [I a.node, I a.term_, I a.log.start, I a.log.startTerm, .w (sl 3 Entry.c a.log.entries) (g4 0 2)])] rfl (Le.c rfl <| Le.c rfl <| Le.e) ?_
  refine CW.seq ?_
  refine CW.region ?_
  refine RW.v rfl (V.loadAgg rfl rfl rfl rfl rfl (Nat.le_of_ble_eq_true rfl)) ?_
  refine RW.storeAgg (es := [I a.node, I a.term_, I a.log.start, I a.log.startTerm, .al 3 (some 4) 3 a.log.entries.length (g4 0 2) 0]) rfl rfl rfl rfl rfl rfl rfl rfl (Nat.le_of_ble_eq_true rfl) rfl ?_
  refine RW.pullO (k := 2) (l := 3) (j := 4) 2 3 4 rfl rfl rfl (by decide) rfl rfl rfl rfl ?_
  refine RW.nil ?_
  refine CW.le [(2, .obj b2 [I a.node, I a.term_, I a.log.start, I a.log.startTerm, .w (sl 3 Entry.c a.log.entries) (g4 0 2)])] rfl (Le.c rfl <| Le.e) ?_
  refine CW.ret ?_
  exact Post.cell rfl rfl rfl rfl (DT.v (DT.v (DT.v (DT.v (DT.w DT.e))))) (AOs.a rfl AOs.e)
theorem laws_toLeaderS_fn (a : List Leader) (hm : a.length ≤ 1048576) (hs : ∀ x ∈ a, okToLeader x) : Eng.Fn E.P 23 [.one (.r (sl 5 Leader.c a))] (.one (.one (.w (sl 5 Leader.c a)))) [.one (.r (sl 5 Leader.c a))] := by
  refine Eng.Fn.intro (E := E) (rvs := [.tmp 2]) Try.func23 rfl rfl rfl (by simp [outSlots, moved, rvSlot]) ?_
  intro B g bo
  refine CW.bound (x := .tmp 0) (n := a.length) (AsT.r) (fun hl0 => ?_)
  refine CW.le [(0, .r (sl 5 Leader.c a))] rfl (Le.c rfl <| Le.e) ?_
  refine CW.seq ?_
  refine CW.region ?_
  refine RW.v rfl (V.as (d := .r (.v (.slice none 0 0))) rfl rfl) ?_
  refine RW.nil ?_
  refine CW.le [(0, .r (sl 5 Leader.c a))] rfl (Le.c rfl <| Le.e) ?_
  refine CW.seq ?_
  refine CW.region ?_
  refine RW.v rfl (V.mv (d := .r (sl 5 Leader.c a)) rfl rfl) ?_
  refine RW.v rfl (V.lenT (n := a.length) rfl rfl rfl .r) ?_
  refine RW.makeS (n := a.length) (c := Leader.c) Leader.z rfl rfl rfl rfl rfl rfl rfl rfl (ZT.v (ZT.v (ZT.v (ZT.v (ZT.n ZT.e))))) (by show 56 * a.length ≤ 281474976710656; omega) (by simp only [maxLen]; omega) fun X1 => ?_
  refine RW.assignMove rfl rfl rfl (by decide) (Nat.le_of_ble_eq_true rfl) (Nat.le_of_ble_eq_true rfl) ?_
  refine RW.nil ?_
  refine CW.le [(0, .r (sl 5 Leader.c a)), (3, .w (sl 5 Leader.c (List.replicate a.length Leader.z)) X1)] rfl (Le.c rfl <| Le.c rfl <| Le.e) ?_
  refine CW.seq ?_
  refine CW.seq ?_
  refine CW.region ?_
  refine RW.v rfl (V.as (d := I 0) rfl rfl) ?_
  refine RW.nil ?_
  refine CW.le [(0, .r (sl 5 Leader.c a)), (3, .w (sl 5 Leader.c (List.replicate a.length Leader.z)) X1), (4, I 0)] rfl (Le.c rfl <| Le.c rfl <| Le.c rfl <| Le.e) ?_
  refine CW.block ?_
  refine CW.loopI 23 (fun (i : Nat) => [(0, .r (sl 5 Leader.c a)), (3, .w (sl 5 Leader.c (a.take i ++ List.replicate (a.length - i) Leader.z)) X1), (4, I (i : Int))]) (fun (i : Nat) => i ≤ a.length) (fun (i : Nat) => a.length - i) 0 rfl (Le.c rfl <| Le.c rfl <| Le.c rfl <| Le.e) (by omega) ?_
  rintro i hb
  refine CW.seq ?_
  refine CW.seq ?_
  refine CW.region ?_
  refine RW.v rfl (V.mv (d := I (i : Int)) rfl rfl) ?_
  refine RW.v rfl (V.mv (d := .r (sl 5 Leader.c a)) rfl rfl) ?_
  refine RW.v rfl (V.lenT (n := a.length) rfl rfl rfl .r) ?_
  refine RW.v rfl (V.cmpInt rfl rfl rfl rfl) ?_
  refine RW.nil ?_
  refine CW.le [(0, .r (sl 5 Leader.c a)), (3, .w (sl 5 Leader.c (a.take i ++ List.replicate (a.length - i) Leader.z)) X1), (4, I (i : Int)), (11, Bo (decide ((i : Int) < (a.length : Int))))] rfl (Le.c rfl <| Le.c rfl <| Le.c rfl <| Le.c rfl <| Le.e) ?_
  refine CW.cond rfl (fun h2 => ?_) (fun h2 => ?_)
  · skip
    have hii : i < a.length := by have := h2; simp at this; first | exact this | (simp; omega)
    obtain ⟨ei, hei⟩ : ∃ e, a[i]? = some e := ⟨_, List.getElem?_eq_getElem hii⟩
    have hdi := drop_get hei
    refine CW.skip ?_
    refine CW.le [(0, .r (sl 5 Leader.c a)), (3, .w (sl 5 Leader.c (a.take i ++ List.replicate (a.length - i) Leader.z)) X1), (4, I (i : Int))] rfl (Le.c rfl <| Le.c rfl <| Le.c rfl <| Le.e) ?_
    refine CW.seq ?_
    refine CW.block ?_
    refine CW.region ?_
    refine RW.v rfl (V.mv (d := .al 3 none 5 ((a.take i ++ List.replicate (a.length - i) Leader.z).length) X1 0) rfl rfl) ?_
    refine RW.v rfl (V.mv (d := I (i : Int)) rfl rfl) ?_
    refine RW.v rfl (V.mv (d := .r (sl 5 Leader.c a)) rfl rfl) ?_
    refine RW.v rfl (V.mv (d := I (i : Int)) rfl rfl) ?_
    refine RW.v rfl (V.indexS rfl rfl rfl rfl rfl rfl Leader.len hei) ?_
    refine RW.v rfl (V.loadAggR rfl rfl rfl rfl (Nat.le_of_ble_eq_true rfl)) ?_
    refine RW.call rfl (laws_toLeader_fn ei (hs ei (List.mem_of_getElem? hei))) rfl (.cons (.agg (.cons (.r .r) (.cons (.r .r) (.cons (.r .r) (.cons (.r .r) (.cons (.r .r) (.nil))))))) (.nil)) fun g3 => ?_
    refine RW.v rfl (V.indexW rfl rfl rfl rfl rfl rfl rfl (by simp; omega)) ?_
    refine RW.storeSM (v := ei) rfl rfl rfl rfl (by decide) rfl rfl rfl (DW.v (DW.v (DW.v (DW.v (DW.w DW.e))))) Leader.len (by decide) (by simp; omega) rfl ?_
    refine RW.nil ?_
    refine CW.le [(0, .r (sl 5 Leader.c a)), (3, .w (sl 5 Leader.c ((a.take i ++ List.replicate (a.length - i) Leader.z).set i ei)) X1), (4, I (i : Int))] rfl (Le.c rfl <| Le.c rfl <| Le.c rfl <| Le.e) ?_
    refine CW.region ?_
    refine RW.v rfl (V.mv (d := I (i : Int)) rfl rfl) ?_
    refine RW.v rfl (V.inc rfl rfl rfl hii hl0) ?_
    refine RW.v rfl (V.as (d := I ((i + 1 : Nat) : Int)) rfl rfl) ?_
    refine RW.nil ?_
    exact ⟨i + 1, by omega, by omega, rfl, Le.c rfl <| Le.c (congrArg (fun l => D.w (sl _ Leader.c l) X1) (take_set hei)) <| Le.c rfl <| Le.e⟩
  · skip
    have hii : a.length ≤ i := by have := h2; simp at this; first | exact this | (simp; omega)
    have hdi : a.drop i = [] := List.drop_eq_nil_of_le hii
    refine CW.exit ?_
    refine CW.le [(3, .w (sl 5 Leader.c (a.take i ++ List.replicate (a.length - i) Leader.z)) X1)] rfl (Le.c rfl <| Le.e) ?_
    refine CW.seq ?_
    refine CW.region ?_
    refine RW.v rfl (V.mv (d := .al 3 none 5 ((a.take i ++ List.replicate (a.length - i) Leader.z).length) X1 0) rfl rfl) ?_
    refine RW.v rfl (V.as (d := .al 3 none 5 ((a.take i ++ List.replicate (a.length - i) Leader.z).length) X1 0) rfl rfl) ?_
    refine RW.nil ?_
    refine CW.le [(2, .al 3 none 5 ((a.take i ++ List.replicate (a.length - i) Leader.z).length) X1 0), (3, .w (sl 5 Leader.c (a.take i ++ List.replicate (a.length - i) Leader.z)) X1)] rfl (Le.c rfl <| Le.c rfl <| Le.e) ?_
    refine CW.pull 2 3 (by decide) rfl rfl ?_
    refine CW.ret ?_
    exact Post.own rfl (by rw [List.take_of_length_le hii, show a.length - i = 0 from by omega]; simp) (AOs.r AOs.e)
theorem laws_eqEntry_fn (a : Entry) (b : Entry) : Eng.Fn E.P 48 [.agg ((Entry.c a).map .r), .agg ((Entry.c b).map .r)] (.one (.one (.w (.v (.bool (eqEntry a b)))))) [.agg ((Entry.c a).map .r), .agg ((Entry.c b).map .r)] := by
  refine Eng.Fn.intro (E := E) (rvs := [.tmp 4]) Try.func48 rfl rfl rfl (by simp [outSlots, moved, rvSlot]) ?_
  intro B g bo
  refine CW.le [(0, .agg ((Entry.c a).map .r)), (1, .agg ((Entry.c b).map .r))] rfl (Le.c rfl <| Le.c rfl <| Le.e) ?_
  refine CW.seq ?_
  refine CW.region ?_
  refine RW.box (ds := ((Entry.c a).map .r)) rfl rfl rfl fun b1 => ?_
  refine RW.box (ds := ((Entry.c b).map .r)) rfl rfl rfl fun b2 => ?_
  refine RW.v rfl (V.as (d := Bo false) rfl rfl) ?_
  refine RW.nil ?_
  refine CW.le [(2, .obj b1 ((Entry.c a).map .r)), (3, .obj b2 ((Entry.c b).map .r))] rfl (Le.c rfl <| Le.c rfl <| Le.e) ?_
  refine CW.seq ?_
  refine CW.seq ?_
  refine CW.region ?_
  refine RW.v rfl (V.field rfl rfl rfl rfl (by decide) rfl) ?_
  refine RW.v rfl (V.loadPrim (d := I a.term_) rfl rfl (.inl rfl) rfl rfl rfl) ?_
  refine RW.v rfl (V.field rfl rfl rfl rfl (by decide) rfl) ?_
  refine RW.v rfl (V.loadPrim (d := I b.term_) rfl rfl (.inl rfl) rfl rfl rfl) ?_
  refine RW.v rfl (V.cmpInt rfl rfl rfl rfl) ?_
  refine RW.nil ?_
  refine CW.le [(2, .obj b1 ((Entry.c a).map .r)), (3, .obj b2 ((Entry.c b).map .r)), (9, Bo (a.term_ != b.term_))] rfl (Le.c rfl <| Le.c rfl <| Le.c rfl <| Le.e) ?_
  refine CW.cond rfl (fun h3 => ?_) (fun h3 => ?_)
  · skip
    refine CW.seq ?_
    refine CW.region ?_
    refine RW.v rfl (V.as (d := Bo false) rfl rfl) ?_
    refine RW.nil ?_
    refine CW.le [(4, Bo false)] rfl (Le.c rfl <| Le.e) ?_
    refine CW.ret ?_
    exact Post.bool rfl (by simp_all [eqEntry]) (AOs.a rfl (AOs.a rfl AOs.e))
  · skip
    refine CW.skip ?_
    refine CW.le [(2, .obj b1 ((Entry.c a).map .r)), (3, .obj b2 ((Entry.c b).map .r))] rfl (Le.c rfl <| Le.c rfl <| Le.e) ?_
    refine CW.seq ?_
    refine CW.seq ?_
    refine CW.region ?_
    refine RW.v rfl (V.field rfl rfl rfl rfl (by decide) rfl) ?_
    refine RW.v rfl (V.loadPrim (d := I a.kind) rfl rfl (.inl rfl) rfl rfl rfl) ?_
    refine RW.v rfl (V.field rfl rfl rfl rfl (by decide) rfl) ?_
    refine RW.v rfl (V.loadPrim (d := I b.kind) rfl rfl (.inl rfl) rfl rfl rfl) ?_
    refine RW.v rfl (V.cmpInt rfl rfl rfl rfl) ?_
    refine RW.nil ?_
    refine CW.le [(2, .obj b1 ((Entry.c a).map .r)), (3, .obj b2 ((Entry.c b).map .r)), (14, Bo (a.kind != b.kind))] rfl (Le.c rfl <| Le.c rfl <| Le.c rfl <| Le.e) ?_
    refine CW.cond rfl (fun h4 => ?_) (fun h4 => ?_)
    · skip
      refine CW.seq ?_
      refine CW.region ?_
      refine RW.v rfl (V.as (d := Bo false) rfl rfl) ?_
      refine RW.nil ?_
      refine CW.le [(4, Bo false)] rfl (Le.c rfl <| Le.e) ?_
      refine CW.ret ?_
      exact Post.bool rfl (by simp_all [eqEntry]) (AOs.a rfl (AOs.a rfl AOs.e))
    · skip
      refine CW.skip ?_
      refine CW.le [(2, .obj b1 ((Entry.c a).map .r)), (3, .obj b2 ((Entry.c b).map .r))] rfl (Le.c rfl <| Le.c rfl <| Le.e) ?_
      refine CW.seq ?_
      refine CW.seq ?_
      refine CW.region ?_
      refine RW.v rfl (V.field rfl rfl rfl rfl (by decide) rfl) ?_
      refine RW.v rfl (V.loadPrim (d := S a.data) rfl rfl (.inl rfl) rfl rfl rfl) ?_
      refine RW.v rfl (V.field rfl rfl rfl rfl (by decide) rfl) ?_
      refine RW.v rfl (V.loadPrim (d := S b.data) rfl rfl (.inl rfl) rfl rfl rfl) ?_
      refine RW.v rfl (V.strCmp rfl rfl rfl rfl) ?_
      refine RW.nil ?_
      refine CW.le [(19, Bo (!(a.data.toList == b.data.toList)))] rfl (Le.c rfl <| Le.e) ?_
      refine CW.cond rfl (fun h5 => ?_) (fun h5 => ?_)
      · skip
        refine CW.seq ?_
        refine CW.region ?_
        refine RW.v rfl (V.as (d := Bo false) rfl rfl) ?_
        refine RW.nil ?_
        refine CW.le [(4, Bo false)] rfl (Le.c rfl <| Le.e) ?_
        refine CW.ret ?_
        exact Post.bool rfl (by simp_all [eqEntry]) (AOs.a rfl (AOs.a rfl AOs.e))
      · skip
        refine CW.skip ?_
        refine CW.le [] rfl (Le.e) ?_
        refine CW.seq ?_
        refine CW.region ?_
        refine RW.v rfl (V.as (d := Bo true) rfl rfl) ?_
        refine RW.nil ?_
        refine CW.le [(4, Bo true)] rfl (Le.c rfl <| Le.e) ?_
        refine CW.ret ?_
        exact Post.bool rfl (by simp_all [eqEntry]) (AOs.a rfl (AOs.a rfl AOs.e))
theorem laws_eqEntryS_fn (a : List Entry) (b : List Entry) : Eng.Fn E.P 28 [.one (.r (sl 3 Entry.c a)), .one (.r (sl 3 Entry.c b))] (.one (.one (.w (.v (.bool (eqS eqEntry a b)))))) [.one (.r (sl 3 Entry.c a)), .one (.r (sl 3 Entry.c b))] := by
  refine Eng.Fn.intro (E := E) (rvs := [.tmp 4]) Try.func28 rfl rfl rfl (by simp [outSlots, moved, rvSlot]) ?_
  intro B g bo
  refine CW.bound (x := .tmp 0) (n := a.length) (AsT.r) (fun hl0 => ?_)
  refine CW.bound (x := .tmp 1) (n := b.length) (AsT.r) (fun hl1 => ?_)
  refine CW.le [(0, .r (sl 3 Entry.c a)), (1, .r (sl 3 Entry.c b))] rfl (Le.c rfl <| Le.c rfl <| Le.e) ?_
  refine CW.seq ?_
  refine CW.region ?_
  refine RW.v rfl (V.as (d := Bo false) rfl rfl) ?_
  refine RW.nil ?_
  refine CW.le [(0, .r (sl 3 Entry.c a)), (1, .r (sl 3 Entry.c b))] rfl (Le.c rfl <| Le.c rfl <| Le.e) ?_
  refine CW.seq ?_
  refine CW.seq ?_
  refine CW.region ?_
  refine RW.v rfl (V.mv (d := .r (sl 3 Entry.c a)) rfl rfl) ?_
  refine RW.v rfl (V.lenT (n := a.length) rfl rfl rfl .r) ?_
  refine RW.v rfl (V.mv (d := .r (sl 3 Entry.c b)) rfl rfl) ?_
  refine RW.v rfl (V.lenT (n := b.length) rfl rfl rfl .r) ?_
  refine RW.v rfl (V.cmpInt rfl rfl rfl rfl) ?_
  refine RW.nil ?_
  refine CW.le [(0, .r (sl 3 Entry.c a)), (1, .r (sl 3 Entry.c b)), (10, Bo ((a.length : Int) != (b.length : Int)))] rfl (Le.c rfl <| Le.c rfl <| Le.c rfl <| Le.e) ?_
  refine CW.cond rfl (fun h1 => ?_) (fun h1 => ?_)
  · skip
    refine CW.seq ?_
    refine CW.region ?_
    refine RW.v rfl (V.as (d := Bo false) rfl rfl) ?_
    refine RW.nil ?_
    refine CW.le [(4, Bo false)] rfl (Le.c rfl <| Le.e) ?_
    refine CW.ret ?_
    exact Post.bool rfl (by first | (simp_all [eqS, eqI, eqStr, eqB]; done) | exact (eqS_ne (by simp_all; omega)).symm) (AOs.r (AOs.r AOs.e))
  · skip
    refine CW.skip ?_
    refine CW.le [(0, .r (sl 3 Entry.c a)), (1, .r (sl 3 Entry.c b))] rfl (Le.c rfl <| Le.c rfl <| Le.e) ?_
    refine CW.seq ?_
    refine CW.seq ?_
    refine CW.region ?_
    refine RW.v rfl (V.as (d := I 0) rfl rfl) ?_
    refine RW.nil ?_
    refine CW.le [(0, .r (sl 3 Entry.c a)), (1, .r (sl 3 Entry.c b)), (5, I 0)] rfl (Le.c rfl <| Le.c rfl <| Le.c rfl <| Le.e) ?_
    refine CW.block ?_
    refine CW.loopI 27 (fun (i : Nat) => [(0, .r (sl 3 Entry.c a)), (1, .r (sl 3 Entry.c b)), (5, I (i : Int))]) (fun (i : Nat) => i ≤ a.length ∧ eqS eqEntry (a.drop i) (b.drop i) = eqS eqEntry a b) (fun (i : Nat) => a.length - i) 0 rfl (Le.c rfl <| Le.c rfl <| Le.c rfl <| Le.e) ⟨by omega, by simp⟩ ?_
    rintro i ⟨hb, hr⟩
    have hlen : a.length = b.length := by simp at h1; omega
    refine CW.seq ?_
    refine CW.seq ?_
    refine CW.region ?_
    refine RW.v rfl (V.mv (d := I (i : Int)) rfl rfl) ?_
    refine RW.v rfl (V.mv (d := .r (sl 3 Entry.c a)) rfl rfl) ?_
    refine RW.v rfl (V.lenT (n := a.length) rfl rfl rfl .r) ?_
    refine RW.v rfl (V.cmpInt rfl rfl rfl rfl) ?_
    refine RW.nil ?_
    refine CW.le [(0, .r (sl 3 Entry.c a)), (1, .r (sl 3 Entry.c b)), (5, I (i : Int)), (14, Bo (decide ((i : Int) < (a.length : Int))))] rfl (Le.c rfl <| Le.c rfl <| Le.c rfl <| Le.c rfl <| Le.e) ?_
    refine CW.cond rfl (fun h2 => ?_) (fun h2 => ?_)
    · skip
      have hii : i < a.length := by have := h2; simp at this; first | exact this | (simp; omega)
      obtain ⟨ei, hei⟩ : ∃ e, a[i]? = some e := ⟨_, List.getElem?_eq_getElem hii⟩
      have hdi := drop_get hei
      have hib : i < b.length := by omega
      obtain ⟨eb, heb⟩ : ∃ e, b[i]? = some e := ⟨_, List.getElem?_eq_getElem hib⟩
      have hdb := drop_get heb
      refine CW.skip ?_
      refine CW.le [(0, .r (sl 3 Entry.c a)), (1, .r (sl 3 Entry.c b)), (5, I (i : Int))] rfl (Le.c rfl <| Le.c rfl <| Le.c rfl <| Le.e) ?_
      refine CW.seq ?_
      refine CW.block ?_
      refine CW.seq ?_
      refine CW.drawn (by kernel_rfl) ?_
      refine RQ.v rfl (V.mv (d := .r (sl 3 Entry.c a)) rfl rfl) ?_
      refine RQ.v rfl (V.mv (d := I (i : Int)) rfl rfl) ?_
      refine RQ.v rfl (V.indexS rfl rfl rfl rfl rfl rfl Entry.len hei) ?_
      refine RQ.v rfl (V.loadAggR rfl rfl rfl rfl (Nat.le_of_ble_eq_true rfl)) ?_
      refine RQ.v rfl (V.mv (d := .r (sl 3 Entry.c b)) rfl rfl) ?_
      refine RQ.v rfl (V.mv (d := I (i : Int)) rfl rfl) ?_
      refine RQ.v rfl (V.indexS rfl rfl rfl rfl rfl rfl Entry.len heb) ?_
      refine RQ.v rfl (V.loadAggR rfl rfl rfl rfl (Nat.le_of_ble_eq_true rfl)) ?_
      refine RQ.cons rfl (QOK.call (laws_eqEntry_fn ei eb) rfl (.cons (.agg (.cons (.r .r) (.cons (.r .r) (.cons (.r .r) (.nil))))) (.cons (.agg (.cons (.r .r) (.cons (.r .r) (.cons (.r .r) (.nil))))) (.nil))) ?_)
      refine RQ.v rfl (V.not rfl rfl) ?_
      refine RQ.nil ?_
      refine CW.le [(0, .r (sl 3 Entry.c a)), (1, .r (sl 3 Entry.c b)), (5, I (i : Int)), (26, Bo (!(eqEntry ei eb)))] rfl (Le.c rfl <| Le.c rfl <| Le.c rfl <| Le.c rfl <| Le.e) ?_
      refine CW.cond rfl (fun h3 => ?_) (fun h3 => ?_)
      · skip
        refine CW.seq ?_
        refine CW.region ?_
        refine RW.v rfl (V.as (d := Bo false) rfl rfl) ?_
        refine RW.nil ?_
        refine CW.le [(4, Bo false)] rfl (Le.c rfl <| Le.e) ?_
        refine CW.ret ?_
        exact Post.bool rfl (by first | (simp_all [eqS, eqI, eqStr, eqB]; done) | exact (eqS_ne (by simp_all; omega)).symm) (AOs.r (AOs.r AOs.e))
      · skip
        refine CW.skip ?_
        refine CW.le [(0, .r (sl 3 Entry.c a)), (1, .r (sl 3 Entry.c b)), (5, I (i : Int))] rfl (Le.c rfl <| Le.c rfl <| Le.c rfl <| Le.e) ?_
        refine CW.region ?_
        refine RW.v rfl (V.mv (d := I (i : Int)) rfl rfl) ?_
        refine RW.v rfl (V.inc rfl rfl rfl hii hl0) ?_
        refine RW.v rfl (V.as (d := I ((i + 1 : Nat) : Int)) rfl rfl) ?_
        refine RW.nil ?_
        exact ⟨i + 1, by omega, ⟨by omega, by simp_all [eqS, eqI, eqStr, eqB]⟩, rfl, Le.c rfl <| Le.c rfl <| Le.c rfl <| Le.e⟩
    · skip
      have hii : a.length ≤ i := by have := h2; simp at this; first | exact this | (simp; omega)
      have hdi : a.drop i = [] := List.drop_eq_nil_of_le hii
      refine CW.exit ?_
      refine CW.le [] rfl (Le.e) ?_
      refine CW.seq ?_
      refine CW.region ?_
      refine RW.v rfl (V.as (d := Bo true) rfl rfl) ?_
      refine RW.nil ?_
      refine CW.le [(4, Bo true)] rfl (Le.c rfl <| Le.e) ?_
      refine CW.ret ?_
      exact Post.bool rfl (by rw [← hr, hdi, List.drop_eq_nil_of_le (show b.length ≤ i by omega)]; rfl) (AOs.r (AOs.r AOs.e))
theorem laws_eqLog_fn (a : Log) (b : Log) : Eng.Fn E.P 67 [.agg ((Log.c a).map .r), .agg ((Log.c b).map .r)] (.one (.one (.w (.v (.bool (eqLog a b)))))) [.agg ((Log.c a).map .r), .agg ((Log.c b).map .r)] := by
  refine Eng.Fn.intro (E := E) (rvs := [.tmp 4]) Try.func67 rfl rfl rfl (by simp [outSlots, moved, rvSlot]) ?_
  intro B g bo
  refine CW.le [(0, .agg ((Log.c a).map .r)), (1, .agg ((Log.c b).map .r))] rfl (Le.c rfl <| Le.c rfl <| Le.e) ?_
  refine CW.seq ?_
  refine CW.region ?_
  refine RW.box (ds := ((Log.c a).map .r)) rfl rfl rfl fun b1 => ?_
  refine RW.box (ds := ((Log.c b).map .r)) rfl rfl rfl fun b2 => ?_
  refine RW.v rfl (V.as (d := Bo false) rfl rfl) ?_
  refine RW.nil ?_
  refine CW.le [(2, .obj b1 ((Log.c a).map .r)), (3, .obj b2 ((Log.c b).map .r))] rfl (Le.c rfl <| Le.c rfl <| Le.e) ?_
  refine CW.seq ?_
  refine CW.seq ?_
  refine CW.region ?_
  refine RW.v rfl (V.field rfl rfl rfl rfl (by decide) rfl) ?_
  refine RW.v rfl (V.loadPrim (d := I a.start) rfl rfl (.inl rfl) rfl rfl rfl) ?_
  refine RW.v rfl (V.field rfl rfl rfl rfl (by decide) rfl) ?_
  refine RW.v rfl (V.loadPrim (d := I b.start) rfl rfl (.inl rfl) rfl rfl rfl) ?_
  refine RW.v rfl (V.cmpInt rfl rfl rfl rfl) ?_
  refine RW.nil ?_
  refine CW.le [(2, .obj b1 ((Log.c a).map .r)), (3, .obj b2 ((Log.c b).map .r)), (9, Bo (a.start != b.start))] rfl (Le.c rfl <| Le.c rfl <| Le.c rfl <| Le.e) ?_
  refine CW.cond rfl (fun h3 => ?_) (fun h3 => ?_)
  · skip
    refine CW.seq ?_
    refine CW.region ?_
    refine RW.v rfl (V.as (d := Bo false) rfl rfl) ?_
    refine RW.nil ?_
    refine CW.le [(4, Bo false)] rfl (Le.c rfl <| Le.e) ?_
    refine CW.ret ?_
    exact Post.bool rfl (by simp_all [eqLog]) (AOs.a rfl (AOs.a rfl AOs.e))
  · skip
    refine CW.skip ?_
    refine CW.le [(2, .obj b1 ((Log.c a).map .r)), (3, .obj b2 ((Log.c b).map .r))] rfl (Le.c rfl <| Le.c rfl <| Le.e) ?_
    refine CW.seq ?_
    refine CW.seq ?_
    refine CW.region ?_
    refine RW.v rfl (V.field rfl rfl rfl rfl (by decide) rfl) ?_
    refine RW.v rfl (V.loadPrim (d := I a.startTerm) rfl rfl (.inl rfl) rfl rfl rfl) ?_
    refine RW.v rfl (V.field rfl rfl rfl rfl (by decide) rfl) ?_
    refine RW.v rfl (V.loadPrim (d := I b.startTerm) rfl rfl (.inl rfl) rfl rfl rfl) ?_
    refine RW.v rfl (V.cmpInt rfl rfl rfl rfl) ?_
    refine RW.nil ?_
    refine CW.le [(2, .obj b1 ((Log.c a).map .r)), (3, .obj b2 ((Log.c b).map .r)), (14, Bo (a.startTerm != b.startTerm))] rfl (Le.c rfl <| Le.c rfl <| Le.c rfl <| Le.e) ?_
    refine CW.cond rfl (fun h4 => ?_) (fun h4 => ?_)
    · skip
      refine CW.seq ?_
      refine CW.region ?_
      refine RW.v rfl (V.as (d := Bo false) rfl rfl) ?_
      refine RW.nil ?_
      refine CW.le [(4, Bo false)] rfl (Le.c rfl <| Le.e) ?_
      refine CW.ret ?_
      exact Post.bool rfl (by simp_all [eqLog]) (AOs.a rfl (AOs.a rfl AOs.e))
    · skip
      refine CW.skip ?_
      refine CW.le [(2, .obj b1 ((Log.c a).map .r)), (3, .obj b2 ((Log.c b).map .r))] rfl (Le.c rfl <| Le.c rfl <| Le.e) ?_
      refine CW.seq ?_
      refine CW.seq ?_
      refine CW.region ?_
      refine RW.v rfl (V.field rfl rfl rfl rfl (by decide) rfl) ?_
      refine RW.v rfl (V.loadPrim (d := .r (sl 3 Entry.c a.entries)) rfl rfl (.inr ⟨_, rfl⟩) rfl rfl rfl) ?_
      refine RW.v rfl (V.field rfl rfl rfl rfl (by decide) rfl) ?_
      refine RW.v rfl (V.loadPrim (d := .r (sl 3 Entry.c b.entries)) rfl rfl (.inr ⟨_, rfl⟩) rfl rfl rfl) ?_
      refine RW.call rfl (laws_eqEntryS_fn a.entries b.entries) rfl (.cons (.one (.r .r)) (.cons (.one (.r .r)) (.nil))) fun g5 => ?_
      refine RW.v rfl (V.not rfl rfl) ?_
      refine RW.nil ?_
      refine CW.le [(20, Bo (!(eqS eqEntry a.entries b.entries)))] rfl (Le.c rfl <| Le.e) ?_
      refine CW.cond rfl (fun h6 => ?_) (fun h6 => ?_)
      · skip
        refine CW.seq ?_
        refine CW.region ?_
        refine RW.v rfl (V.as (d := Bo false) rfl rfl) ?_
        refine RW.nil ?_
        refine CW.le [(4, Bo false)] rfl (Le.c rfl <| Le.e) ?_
        refine CW.ret ?_
        exact Post.bool rfl (by simp_all [eqLog]) (AOs.a rfl (AOs.a rfl AOs.e))
      · skip
        refine CW.skip ?_
        refine CW.le [] rfl (Le.e) ?_
        refine CW.seq ?_
        refine CW.region ?_
        refine RW.v rfl (V.as (d := Bo true) rfl rfl) ?_
        refine RW.nil ?_
        refine CW.le [(4, Bo true)] rfl (Le.c rfl <| Le.e) ?_
        refine CW.ret ?_
        exact Post.bool rfl (by simp_all [eqLog]) (AOs.a rfl (AOs.a rfl AOs.e))
theorem laws_eqLeader_fn (a : Leader) (b : Leader) : Eng.Fn E.P 47 [.agg ((Leader.c a).map .r), .agg ((Leader.c b).map .r)] (.one (.one (.w (.v (.bool (eqLeader a b)))))) [.agg ((Leader.c a).map .r), .agg ((Leader.c b).map .r)] := by
  refine Eng.Fn.intro (E := E) (rvs := [.tmp 4]) Try.func47 rfl rfl rfl (by simp [outSlots, moved, rvSlot]) ?_
  intro B g bo
  refine CW.le [(0, .agg ((Leader.c a).map .r)), (1, .agg ((Leader.c b).map .r))] rfl (Le.c rfl <| Le.c rfl <| Le.e) ?_
  refine CW.seq ?_
  refine CW.region ?_
  refine RW.box (ds := ((Leader.c a).map .r)) rfl rfl rfl fun b1 => ?_
  refine RW.box (ds := ((Leader.c b).map .r)) rfl rfl rfl fun b2 => ?_
  refine RW.v rfl (V.as (d := Bo false) rfl rfl) ?_
  refine RW.nil ?_
  refine CW.le [(2, .obj b1 ((Leader.c a).map .r)), (3, .obj b2 ((Leader.c b).map .r))] rfl (Le.c rfl <| Le.c rfl <| Le.e) ?_
  refine CW.seq ?_
  refine CW.seq ?_
  refine CW.region ?_
  refine RW.v rfl (V.field rfl rfl rfl rfl (by decide) rfl) ?_
  refine RW.v rfl (V.loadPrim (d := I a.node) rfl rfl (.inl rfl) rfl rfl rfl) ?_
  refine RW.v rfl (V.field rfl rfl rfl rfl (by decide) rfl) ?_
  refine RW.v rfl (V.loadPrim (d := I b.node) rfl rfl (.inl rfl) rfl rfl rfl) ?_
  refine RW.v rfl (V.cmpInt rfl rfl rfl rfl) ?_
  refine RW.nil ?_
  refine CW.le [(2, .obj b1 ((Leader.c a).map .r)), (3, .obj b2 ((Leader.c b).map .r)), (9, Bo (a.node != b.node))] rfl (Le.c rfl <| Le.c rfl <| Le.c rfl <| Le.e) ?_
  refine CW.cond rfl (fun h3 => ?_) (fun h3 => ?_)
  · skip
    refine CW.seq ?_
    refine CW.region ?_
    refine RW.v rfl (V.as (d := Bo false) rfl rfl) ?_
    refine RW.nil ?_
    refine CW.le [(4, Bo false)] rfl (Le.c rfl <| Le.e) ?_
    refine CW.ret ?_
    exact Post.bool rfl (by simp_all [eqLeader]) (AOs.a rfl (AOs.a rfl AOs.e))
  · skip
    refine CW.skip ?_
    refine CW.le [(2, .obj b1 ((Leader.c a).map .r)), (3, .obj b2 ((Leader.c b).map .r))] rfl (Le.c rfl <| Le.c rfl <| Le.e) ?_
    refine CW.seq ?_
    refine CW.seq ?_
    refine CW.region ?_
    refine RW.v rfl (V.field rfl rfl rfl rfl (by decide) rfl) ?_
    refine RW.v rfl (V.loadPrim (d := I a.term_) rfl rfl (.inl rfl) rfl rfl rfl) ?_
    refine RW.v rfl (V.field rfl rfl rfl rfl (by decide) rfl) ?_
    refine RW.v rfl (V.loadPrim (d := I b.term_) rfl rfl (.inl rfl) rfl rfl rfl) ?_
    refine RW.v rfl (V.cmpInt rfl rfl rfl rfl) ?_
    refine RW.nil ?_
    refine CW.le [(2, .obj b1 ((Leader.c a).map .r)), (3, .obj b2 ((Leader.c b).map .r)), (14, Bo (a.term_ != b.term_))] rfl (Le.c rfl <| Le.c rfl <| Le.c rfl <| Le.e) ?_
    refine CW.cond rfl (fun h4 => ?_) (fun h4 => ?_)
    · skip
      refine CW.seq ?_
      refine CW.region ?_
      refine RW.v rfl (V.as (d := Bo false) rfl rfl) ?_
      refine RW.nil ?_
      refine CW.le [(4, Bo false)] rfl (Le.c rfl <| Le.e) ?_
      refine CW.ret ?_
      exact Post.bool rfl (by simp_all [eqLeader]) (AOs.a rfl (AOs.a rfl AOs.e))
    · skip
      refine CW.skip ?_
      refine CW.le [(2, .obj b1 ((Leader.c a).map .r)), (3, .obj b2 ((Leader.c b).map .r))] rfl (Le.c rfl <| Le.c rfl <| Le.e) ?_
      refine CW.seq ?_
      refine CW.seq ?_
      refine CW.region ?_
      refine RW.v rfl (V.field rfl rfl rfl rfl (by decide) rfl) ?_
      refine RW.v rfl (V.loadAgg rfl rfl rfl rfl rfl (Nat.le_of_ble_eq_true rfl)) ?_
      refine RW.v rfl (V.field rfl rfl rfl rfl (by decide) rfl) ?_
      refine RW.v rfl (V.loadAgg rfl rfl rfl rfl rfl (Nat.le_of_ble_eq_true rfl)) ?_
      refine RW.call rfl (laws_eqLog_fn a.log b.log) rfl (.cons (.agg (.cons (.r .r) (.cons (.r .r) (.cons (.r .r) (.nil))))) (.cons (.agg (.cons (.r .r) (.cons (.r .r) (.cons (.r .r) (.nil))))) (.nil))) fun g5 => ?_
      refine RW.v rfl (V.not rfl rfl) ?_
      refine RW.nil ?_
      refine CW.le [(20, Bo (!(eqLog a.log b.log)))] rfl (Le.c rfl <| Le.e) ?_
      refine CW.cond rfl (fun h6 => ?_) (fun h6 => ?_)
      · skip
        refine CW.seq ?_
        refine CW.region ?_
        refine RW.v rfl (V.as (d := Bo false) rfl rfl) ?_
        refine RW.nil ?_
        refine CW.le [(4, Bo false)] rfl (Le.c rfl <| Le.e) ?_
        refine CW.ret ?_
        exact Post.bool rfl (by simp_all [eqLeader]) (AOs.a rfl (AOs.a rfl AOs.e))
      · skip
        refine CW.skip ?_
        refine CW.le [] rfl (Le.e) ?_
        refine CW.seq ?_
        refine CW.region ?_
        refine RW.v rfl (V.as (d := Bo true) rfl rfl) ?_
        refine RW.nil ?_
        refine CW.le [(4, Bo true)] rfl (Le.c rfl <| Le.e) ?_
        refine CW.ret ?_
        exact Post.bool rfl (by simp_all [eqLeader]) (AOs.a rfl (AOs.a rfl AOs.e))
theorem laws_eqLeaderS_fn (a : List Leader) (b : List Leader) : Eng.Fn E.P 25 [.one (.r (sl 5 Leader.c a)), .one (.r (sl 5 Leader.c b))] (.one (.one (.w (.v (.bool (eqS eqLeader a b)))))) [.one (.r (sl 5 Leader.c a)), .one (.r (sl 5 Leader.c b))] := by
  refine Eng.Fn.intro (E := E) (rvs := [.tmp 4]) Try.func25 rfl rfl rfl (by simp [outSlots, moved, rvSlot]) ?_
  intro B g bo
  refine CW.bound (x := .tmp 0) (n := a.length) (AsT.r) (fun hl0 => ?_)
  refine CW.bound (x := .tmp 1) (n := b.length) (AsT.r) (fun hl1 => ?_)
  refine CW.le [(0, .r (sl 5 Leader.c a)), (1, .r (sl 5 Leader.c b))] rfl (Le.c rfl <| Le.c rfl <| Le.e) ?_
  refine CW.seq ?_
  refine CW.region ?_
  refine RW.v rfl (V.as (d := Bo false) rfl rfl) ?_
  refine RW.nil ?_
  refine CW.le [(0, .r (sl 5 Leader.c a)), (1, .r (sl 5 Leader.c b))] rfl (Le.c rfl <| Le.c rfl <| Le.e) ?_
  refine CW.seq ?_
  refine CW.seq ?_
  refine CW.region ?_
  refine RW.v rfl (V.mv (d := .r (sl 5 Leader.c a)) rfl rfl) ?_
  refine RW.v rfl (V.lenT (n := a.length) rfl rfl rfl .r) ?_
  refine RW.v rfl (V.mv (d := .r (sl 5 Leader.c b)) rfl rfl) ?_
  refine RW.v rfl (V.lenT (n := b.length) rfl rfl rfl .r) ?_
  refine RW.v rfl (V.cmpInt rfl rfl rfl rfl) ?_
  refine RW.nil ?_
  refine CW.le [(0, .r (sl 5 Leader.c a)), (1, .r (sl 5 Leader.c b)), (10, Bo ((a.length : Int) != (b.length : Int)))] rfl (Le.c rfl <| Le.c rfl <| Le.c rfl <| Le.e) ?_
  refine CW.cond rfl (fun h1 => ?_) (fun h1 => ?_)
  · skip
    refine CW.seq ?_
    refine CW.region ?_
    refine RW.v rfl (V.as (d := Bo false) rfl rfl) ?_
    refine RW.nil ?_
    refine CW.le [(4, Bo false)] rfl (Le.c rfl <| Le.e) ?_
    refine CW.ret ?_
    exact Post.bool rfl (by first | (simp_all [eqS, eqI, eqStr, eqB]; done) | exact (eqS_ne (by simp_all; omega)).symm) (AOs.r (AOs.r AOs.e))
  · skip
    refine CW.skip ?_
    refine CW.le [(0, .r (sl 5 Leader.c a)), (1, .r (sl 5 Leader.c b))] rfl (Le.c rfl <| Le.c rfl <| Le.e) ?_
    refine CW.seq ?_
    refine CW.seq ?_
    refine CW.region ?_
    refine RW.v rfl (V.as (d := I 0) rfl rfl) ?_
    refine RW.nil ?_
    refine CW.le [(0, .r (sl 5 Leader.c a)), (1, .r (sl 5 Leader.c b)), (5, I 0)] rfl (Le.c rfl <| Le.c rfl <| Le.c rfl <| Le.e) ?_
    refine CW.block ?_
    refine CW.loopI 27 (fun (i : Nat) => [(0, .r (sl 5 Leader.c a)), (1, .r (sl 5 Leader.c b)), (5, I (i : Int))]) (fun (i : Nat) => i ≤ a.length ∧ eqS eqLeader (a.drop i) (b.drop i) = eqS eqLeader a b) (fun (i : Nat) => a.length - i) 0 rfl (Le.c rfl <| Le.c rfl <| Le.c rfl <| Le.e) ⟨by omega, by simp⟩ ?_
    rintro i ⟨hb, hr⟩
    have hlen : a.length = b.length := by simp at h1; omega
    refine CW.seq ?_
    refine CW.seq ?_
    refine CW.region ?_
    refine RW.v rfl (V.mv (d := I (i : Int)) rfl rfl) ?_
    refine RW.v rfl (V.mv (d := .r (sl 5 Leader.c a)) rfl rfl) ?_
    refine RW.v rfl (V.lenT (n := a.length) rfl rfl rfl .r) ?_
    refine RW.v rfl (V.cmpInt rfl rfl rfl rfl) ?_
    refine RW.nil ?_
    refine CW.le [(0, .r (sl 5 Leader.c a)), (1, .r (sl 5 Leader.c b)), (5, I (i : Int)), (14, Bo (decide ((i : Int) < (a.length : Int))))] rfl (Le.c rfl <| Le.c rfl <| Le.c rfl <| Le.c rfl <| Le.e) ?_
    refine CW.cond rfl (fun h2 => ?_) (fun h2 => ?_)
    · skip
      have hii : i < a.length := by have := h2; simp at this; first | exact this | (simp; omega)
      obtain ⟨ei, hei⟩ : ∃ e, a[i]? = some e := ⟨_, List.getElem?_eq_getElem hii⟩
      have hdi := drop_get hei
      have hib : i < b.length := by omega
      obtain ⟨eb, heb⟩ : ∃ e, b[i]? = some e := ⟨_, List.getElem?_eq_getElem hib⟩
      have hdb := drop_get heb
      refine CW.skip ?_
      refine CW.le [(0, .r (sl 5 Leader.c a)), (1, .r (sl 5 Leader.c b)), (5, I (i : Int))] rfl (Le.c rfl <| Le.c rfl <| Le.c rfl <| Le.e) ?_
      refine CW.seq ?_
      refine CW.block ?_
      refine CW.seq ?_
      refine CW.drawn (by kernel_rfl) ?_
      refine RQ.v rfl (V.mv (d := .r (sl 5 Leader.c a)) rfl rfl) ?_
      refine RQ.v rfl (V.mv (d := I (i : Int)) rfl rfl) ?_
      refine RQ.v rfl (V.indexS rfl rfl rfl rfl rfl rfl Leader.len hei) ?_
      refine RQ.v rfl (V.loadAggR rfl rfl rfl rfl (Nat.le_of_ble_eq_true rfl)) ?_
      refine RQ.v rfl (V.mv (d := .r (sl 5 Leader.c b)) rfl rfl) ?_
      refine RQ.v rfl (V.mv (d := I (i : Int)) rfl rfl) ?_
      refine RQ.v rfl (V.indexS rfl rfl rfl rfl rfl rfl Leader.len heb) ?_
      refine RQ.v rfl (V.loadAggR rfl rfl rfl rfl (Nat.le_of_ble_eq_true rfl)) ?_
      refine RQ.cons rfl (QOK.call (laws_eqLeader_fn ei eb) rfl (.cons (.agg (.cons (.r .r) (.cons (.r .r) (.cons (.r .r) (.cons (.r .r) (.cons (.r .r) (.nil))))))) (.cons (.agg (.cons (.r .r) (.cons (.r .r) (.cons (.r .r) (.cons (.r .r) (.cons (.r .r) (.nil))))))) (.nil))) ?_)
      refine RQ.v rfl (V.not rfl rfl) ?_
      refine RQ.nil ?_
      refine CW.le [(0, .r (sl 5 Leader.c a)), (1, .r (sl 5 Leader.c b)), (5, I (i : Int)), (26, Bo (!(eqLeader ei eb)))] rfl (Le.c rfl <| Le.c rfl <| Le.c rfl <| Le.c rfl <| Le.e) ?_
      refine CW.cond rfl (fun h3 => ?_) (fun h3 => ?_)
      · skip
        refine CW.seq ?_
        refine CW.region ?_
        refine RW.v rfl (V.as (d := Bo false) rfl rfl) ?_
        refine RW.nil ?_
        refine CW.le [(4, Bo false)] rfl (Le.c rfl <| Le.e) ?_
        refine CW.ret ?_
        exact Post.bool rfl (by first | (simp_all [eqS, eqI, eqStr, eqB]; done) | exact (eqS_ne (by simp_all; omega)).symm) (AOs.r (AOs.r AOs.e))
      · skip
        refine CW.skip ?_
        refine CW.le [(0, .r (sl 5 Leader.c a)), (1, .r (sl 5 Leader.c b)), (5, I (i : Int))] rfl (Le.c rfl <| Le.c rfl <| Le.c rfl <| Le.e) ?_
        refine CW.region ?_
        refine RW.v rfl (V.mv (d := I (i : Int)) rfl rfl) ?_
        refine RW.v rfl (V.inc rfl rfl rfl hii hl0) ?_
        refine RW.v rfl (V.as (d := I ((i + 1 : Nat) : Int)) rfl rfl) ?_
        refine RW.nil ?_
        exact ⟨i + 1, by omega, ⟨by omega, by simp_all [eqS, eqI, eqStr, eqB]⟩, rfl, Le.c rfl <| Le.c rfl <| Le.c rfl <| Le.e⟩
    · skip
      have hii : a.length ≤ i := by have := h2; simp at this; first | exact this | (simp; omega)
      have hdi : a.drop i = [] := List.drop_eq_nil_of_le hii
      refine CW.exit ?_
      refine CW.le [] rfl (Le.e) ?_
      refine CW.seq ?_
      refine CW.region ?_
      refine RW.v rfl (V.as (d := Bo true) rfl rfl) ?_
      refine RW.nil ?_
      refine CW.le [(4, Bo true)] rfl (Le.c rfl <| Le.e) ?_
      refine CW.ret ?_
      exact Post.bool rfl (by rw [← hr, hdi, List.drop_eq_nil_of_le (show b.length ≤ i by omega)]; rfl) (AOs.r (AOs.r AOs.e))
theorem spec_OneLeader_fn (a : List Leader) : Eng.Fn E.P 22 [.one (.r (sl 5 Leader.c a))] (.one (.one (.w (.v (.bool (pairs badLeader [] a)))))) [.one (.r (sl 5 Leader.c a))] := by
  refine Eng.Fn.intro (E := E) (rvs := [.tmp 2]) Try.func22 rfl rfl rfl (by simp [outSlots, moved, rvSlot]) ?_
  intro B g bo
  refine CW.bound (x := .tmp 0) (n := a.length) (AsT.r) (fun hl0 => ?_)
  refine CW.le [(0, .r (sl 5 Leader.c a))] rfl (Le.c rfl <| Le.e) ?_
  refine CW.seq ?_
  refine CW.region ?_
  refine RW.v rfl (V.as (d := Bo false) rfl rfl) ?_
  refine RW.nil ?_
  refine CW.le [(0, .r (sl 5 Leader.c a))] rfl (Le.c rfl <| Le.e) ?_
  refine CW.seq ?_
  refine CW.seq ?_
  refine CW.region ?_
  refine RW.v rfl (V.as (d := I 0) rfl rfl) ?_
  refine RW.nil ?_
  refine CW.le [(0, .r (sl 5 Leader.c a)), (3, I 0)] rfl (Le.c rfl <| Le.c rfl <| Le.e) ?_
  refine CW.block ?_
  refine CW.loopI 40 (fun (i : Nat) => [(0, .r (sl 5 Leader.c a)), (3, I (i : Int))]) (fun (i : Nat) => i ≤ a.length ∧ pairs badLeader (a.take i) (a.drop i) = pairs badLeader [] a) (fun (i : Nat) => a.length - i) 0 rfl (Le.c rfl <| Le.c rfl <| Le.e) ⟨by omega, by simp⟩ ?_
  rintro i ⟨hb, hr⟩
  refine CW.seq ?_
  refine CW.seq ?_
  refine CW.region ?_
  refine RW.v rfl (V.mv (d := I (i : Int)) rfl rfl) ?_
  refine RW.v rfl (V.mv (d := .r (sl 5 Leader.c a)) rfl rfl) ?_
  refine RW.v rfl (V.lenT (n := a.length) rfl rfl rfl .r) ?_
  refine RW.v rfl (V.cmpInt rfl rfl rfl rfl) ?_
  refine RW.nil ?_
  refine CW.le [(0, .r (sl 5 Leader.c a)), (3, I (i : Int)), (8, Bo (decide ((i : Int) < (a.length : Int))))] rfl (Le.c rfl <| Le.c rfl <| Le.c rfl <| Le.e) ?_
  refine CW.cond rfl (fun h1 => ?_) (fun h1 => ?_)
  · skip
    have hii : i < a.length := by have := h1; simp at this; first | exact this | (simp; omega)
    obtain ⟨ei, hei⟩ : ∃ e, a[i]? = some e := ⟨_, List.getElem?_eq_getElem hii⟩
    have hdi := drop_get hei
    refine CW.skip ?_
    refine CW.le [(0, .r (sl 5 Leader.c a)), (3, I (i : Int))] rfl (Le.c rfl <| Le.c rfl <| Le.e) ?_
    refine CW.seq ?_
    refine CW.block ?_
    refine CW.seq ?_
    refine CW.region ?_
    refine RW.v rfl (V.as (d := I 0) rfl rfl) ?_
    refine RW.nil ?_
    refine CW.le [(0, .r (sl 5 Leader.c a)), (3, I (i : Int)), (4, I 0)] rfl (Le.c rfl <| Le.c rfl <| Le.c rfl <| Le.e) ?_
    refine CW.block ?_
    refine CW.loopI 40 (fun (k : Nat) => [(0, .r (sl 5 Leader.c a)), (3, I (i : Int)), (4, I (k : Int))]) (fun (k : Nat) => k ≤ i ∧ ((a.take i).drop k).any (badLeader ei) = (a.take i).any (badLeader ei)) (fun (k : Nat) => i - k) 0 rfl (Le.c rfl <| Le.c rfl <| Le.c rfl <| Le.e) ⟨by omega, by simp⟩ ?_
    rintro k ⟨hc, hs⟩
    refine CW.seq ?_
    refine CW.seq ?_
    refine CW.region ?_
    refine RW.v rfl (V.mv (d := I (k : Int)) rfl rfl) ?_
    refine RW.v rfl (V.mv (d := I (i : Int)) rfl rfl) ?_
    refine RW.v rfl (V.cmpInt rfl rfl rfl rfl) ?_
    refine RW.nil ?_
    refine CW.le [(0, .r (sl 5 Leader.c a)), (3, I (i : Int)), (4, I (k : Int)), (13, Bo (decide ((k : Int) < (i : Int))))] rfl (Le.c rfl <| Le.c rfl <| Le.c rfl <| Le.c rfl <| Le.e) ?_
    refine CW.cond rfl (fun h2 => ?_) (fun h2 => ?_)
    · skip
      have hik : k < (a.take i).length := by have := h2; simp at this; first | exact this | (simp; omega)
      obtain ⟨ek, hek⟩ : ∃ e, (a.take i)[k]? = some e := ⟨_, List.getElem?_eq_getElem hik⟩
      have hdk := drop_get hek
      have hkl : k < i := by first | exact hik | (simp at hik; omega)
      have hek2 : a[k]? = some ek := by rw [← hek]; exact (List.getElem?_take_of_lt hkl).symm
      refine CW.skip ?_
      refine CW.le [(0, .r (sl 5 Leader.c a)), (3, I (i : Int)), (4, I (k : Int))] rfl (Le.c rfl <| Le.c rfl <| Le.c rfl <| Le.e) ?_
      refine CW.seq ?_
      refine CW.block ?_
      refine CW.seqJ 40 (fun (v3 : Bool) => [(0, .r (sl 5 Leader.c a)), (3, I (i : Int)), (4, I (k : Int)), (39, Bo v3)]) (fun v3 => v3 = ((ei.term_ == ek.term_) && (ei.node != ek.node))) ?_ ?_
      · refine CW.drawn (by kernel_rfl) ?_
        refine RQ.v rfl (V.mv (d := .r (sl 5 Leader.c a)) rfl rfl) ?_
        refine RQ.v rfl (V.mv (d := I (i : Int)) rfl rfl) ?_
        refine RQ.v rfl (V.indexS rfl rfl rfl rfl rfl rfl Leader.len hei) ?_
        refine RQ.v rfl (V.fieldR rfl rfl rfl rfl (by decide) rfl (Nat.le_of_ble_eq_true rfl)) ?_
        refine RQ.v rfl (V.loadPrimR (t0 := .v (.int .i64 ei.term_)) rfl rfl (.inl rfl) rfl rfl) ?_
        refine RQ.v rfl (V.mv (d := .r (sl 5 Leader.c a)) rfl rfl) ?_
        refine RQ.v rfl (V.mv (d := I (k : Int)) rfl rfl) ?_
        refine RQ.v rfl (V.indexS rfl rfl rfl rfl rfl rfl Leader.len hek2) ?_
        refine RQ.v rfl (V.fieldR rfl rfl rfl rfl (by decide) rfl (Nat.le_of_ble_eq_true rfl)) ?_
        refine RQ.v rfl (V.loadPrimR (t0 := .v (.int .i64 ek.term_)) rfl rfl (.inl rfl) rfl rfl) ?_
        refine RQ.v rfl (V.cmpInt rfl rfl rfl rfl) ?_
        refine RQ.v rfl (V.mv (d := Bo (ei.term_ == ek.term_)) rfl rfl) ?_
        refine RQ.gv rfl rfl rfl rfl (fun h4 => V.mv (d := .r (sl 5 Leader.c a)) rfl rfl) (fun h4 => ?_) (fun h4 => ?_)
        · skip
          refine RQ.gt rfl rfl rfl rfl (V.mv (d := I (i : Int)) rfl rfl) ?_
          refine RQ.gt rfl rfl rfl rfl (V.indexS rfl rfl rfl rfl rfl rfl Leader.len hei) ?_
          refine RQ.gt rfl rfl rfl rfl (V.fieldR rfl rfl rfl rfl (by decide) rfl (Nat.le_of_ble_eq_true rfl)) ?_
          refine RQ.gt rfl rfl rfl rfl (V.loadPrimR (t0 := .v (.int .i64 ei.node)) rfl rfl (.inl rfl) rfl rfl) ?_
          refine RQ.gt rfl rfl rfl rfl (V.mv (d := .r (sl 5 Leader.c a)) rfl rfl) ?_
          refine RQ.gt rfl rfl rfl rfl (V.mv (d := I (k : Int)) rfl rfl) ?_
          refine RQ.gt rfl rfl rfl rfl (V.indexS rfl rfl rfl rfl rfl rfl Leader.len hek2) ?_
          refine RQ.gt rfl rfl rfl rfl (V.fieldR rfl rfl rfl rfl (by decide) rfl (Nat.le_of_ble_eq_true rfl)) ?_
          refine RQ.gt rfl rfl rfl rfl (V.loadPrimR (t0 := .v (.int .i64 ek.node)) rfl rfl (.inl rfl) rfl rfl) ?_
          refine RQ.gt rfl rfl rfl rfl (V.cmpInt rfl rfl rfl rfl) ?_
          refine RQ.v rfl (V.pickT (d := Bo (ei.node != ek.node)) rfl rfl rfl) ?_
          refine RQ.nil ?_
          exact ⟨_, by first | rfl | (simp_all; done) | (simp_all; omega) | grind, rfl, Le.c rfl <| Le.c rfl <| Le.c rfl <| Le.c rfl <| Le.e⟩
        · skip
          refine RQ.guardF rfl rfl rfl rfl ?_
          refine RQ.guardF rfl rfl rfl rfl ?_
          refine RQ.guardF rfl rfl rfl rfl ?_
          refine RQ.guardF rfl rfl rfl rfl ?_
          refine RQ.guardF rfl rfl rfl rfl ?_
          refine RQ.guardF rfl rfl rfl rfl ?_
          refine RQ.guardF rfl rfl rfl rfl ?_
          refine RQ.guardF rfl rfl rfl rfl ?_
          refine RQ.guardF rfl rfl rfl rfl ?_
          refine RQ.guardF rfl rfl rfl rfl ?_
          refine RQ.v rfl (V.pickF (d := Bo false) rfl rfl rfl) ?_
          refine RQ.nil ?_
          exact ⟨_, by first | rfl | (simp_all; done) | (simp_all; omega) | grind, rfl, Le.c rfl <| Le.c rfl <| Le.c rfl <| Le.c rfl <| Le.e⟩
      · intro v3 hv5
        refine CW.cond rfl (fun h6 => ?_) (fun h6 => ?_)
        · skip
          refine CW.seq ?_
          refine CW.region ?_
          refine RW.v rfl (V.as (d := Bo false) rfl rfl) ?_
          refine RW.nil ?_
          refine CW.le [(2, Bo false)] rfl (Le.c rfl <| Le.e) ?_
          refine CW.ret ?_
          exact Post.bool rfl (by rw [← hr, hdi, pairs, ← hs, hdk, List.any_cons, show badLeader ei ek = true from by clear hr hs; first | (simp_all [badLeader]; done) | grind [badLeader]]; simp) (AOs.r AOs.e)
        · skip
          refine CW.skip ?_
          refine CW.le [(0, .r (sl 5 Leader.c a)), (3, I (i : Int)), (4, I (k : Int))] rfl (Le.c rfl <| Le.c rfl <| Le.c rfl <| Le.e) ?_
          refine CW.region ?_
          refine RW.v rfl (V.mv (d := I (k : Int)) rfl rfl) ?_
          refine RW.v rfl (V.inc rfl rfl rfl hkl (Nat.le_trans (Nat.le_of_lt hii) hl0)) ?_
          refine RW.v rfl (V.as (d := I ((k + 1 : Nat) : Int)) rfl rfl) ?_
          refine RW.nil ?_
          exact ⟨k + 1, by omega, ⟨by omega, by rw [← hs, hdk, List.any_cons, show badLeader ei ek = false from by clear hr hs; first | (simp_all [badLeader]; done) | grind [badLeader]]; simp⟩, rfl, Le.c rfl <| Le.c rfl <| Le.c rfl <| Le.e⟩
    · skip
      have hik : (a.take i).length ≤ k := by have := h2; simp at this; first | exact this | (simp; omega)
      have hdk : (a.take i).drop k = [] := List.drop_eq_nil_of_le hik
      refine CW.exit ?_
      refine CW.le [(0, .r (sl 5 Leader.c a)), (3, I (i : Int))] rfl (Le.c rfl <| Le.c rfl <| Le.e) ?_
      refine CW.region ?_
      refine RW.v rfl (V.mv (d := I (i : Int)) rfl rfl) ?_
      refine RW.v rfl (V.inc rfl rfl rfl hii hl0) ?_
      refine RW.v rfl (V.as (d := I ((i + 1 : Nat) : Int)) rfl rfl) ?_
      refine RW.nil ?_
      exact ⟨i + 1, by omega, ⟨by omega, by rw [← hr, hdi, pairs, ← hs, hdk, take_snoc hei]; simp⟩, rfl, Le.c rfl <| Le.c rfl <| Le.e⟩
  · skip
    have hii : a.length ≤ i := by have := h1; simp at this; first | exact this | (simp; omega)
    have hdi : a.drop i = [] := List.drop_eq_nil_of_le hii
    refine CW.exit ?_
    refine CW.le [] rfl (Le.e) ?_
    refine CW.seq ?_
    refine CW.region ?_
    refine RW.v rfl (V.as (d := Bo true) rfl rfl) ?_
    refine RW.nil ?_
    refine CW.le [(2, Bo true)] rfl (Le.c rfl <| Le.e) ?_
    refine CW.ret ?_
    exact Post.bool rfl (by first | (simp_all [pairs]; done) | grind [pairs]) (AOs.r AOs.e)
theorem impl_OneLeader_fn (a : List Leader) : Eng.Fn E.P 24 [.one (.r (sl 5 Leader.c a))] (.one (.one (.w (.v (.bool (pairs badLeader [] a)))))) [.one (.r (sl 5 Leader.c a))] := by
  refine Eng.Fn.intro (E := E) (rvs := [.tmp 2]) Try.func24 rfl rfl rfl (by simp [outSlots, moved, rvSlot]) ?_
  intro B g bo
  refine CW.bound (x := .tmp 0) (n := a.length) (AsT.r) (fun hl0 => ?_)
  refine CW.le [(0, .r (sl 5 Leader.c a))] rfl (Le.c rfl <| Le.e) ?_
  refine CW.seq ?_
  refine CW.region ?_
  refine RW.v rfl (V.as (d := Bo false) rfl rfl) ?_
  refine RW.nil ?_
  refine CW.le [(0, .r (sl 5 Leader.c a))] rfl (Le.c rfl <| Le.e) ?_
  refine CW.seq ?_
  refine CW.seq ?_
  refine CW.region ?_
  refine RW.v rfl (V.mv (d := .r (sl 5 Leader.c a)) rfl rfl) ?_
  refine RW.v rfl (V.lenT (n := a.length) rfl rfl rfl .r) ?_
  refine RW.v rfl (V.mv (d := I 0) rfl rfl) ?_
  refine RW.nil ?_
  refine CW.le [(0, .r (sl 5 Leader.c a)), (7, .r (sl 5 Leader.c a)), (8, I (a.length : Int)), (9, I 0)] rfl (Le.c rfl <| Le.c rfl <| Le.c rfl <| Le.c rfl <| Le.e) ?_
  refine CW.block ?_
  refine CW.loopI 36 (fun (i : Nat) => [(0, .r (sl 5 Leader.c a)), (7, .r (sl 5 Leader.c a)), (8, I (a.length : Int)), (9, I (i : Int))]) (fun (i : Nat) => i ≤ a.length ∧ pairs badLeader (a.take i) (a.drop i) = pairs badLeader [] a) (fun (i : Nat) => a.length - i) 0 rfl (Le.c rfl <| Le.c rfl <| Le.c rfl <| Le.c rfl <| Le.e) ⟨by omega, by simp⟩ ?_
  rintro i ⟨hb, hr⟩
  refine CW.seq ?_
  refine CW.region ?_
  refine RW.v rfl (V.cmpInt rfl rfl rfl rfl) ?_
  refine RW.nil ?_
  refine CW.le [(0, .r (sl 5 Leader.c a)), (7, .r (sl 5 Leader.c a)), (8, I (a.length : Int)), (9, I (i : Int)), (10, Bo (decide ((i : Int) < (a.length : Int))))] rfl (Le.c rfl <| Le.c rfl <| Le.c rfl <| Le.c rfl <| Le.c rfl <| Le.e) ?_
  refine CW.seq ?_
  refine CW.cond rfl (fun h1 => ?_) (fun h1 => ?_)
  · skip
    have hii : i < a.length := by have := h1; simp at this; first | exact this | (simp; omega)
    obtain ⟨ei, hei⟩ : ∃ e, a[i]? = some e := ⟨_, List.getElem?_eq_getElem hii⟩
    have hdi := drop_get hei
    refine CW.skip ?_
    refine CW.le [(0, .r (sl 5 Leader.c a)), (7, .r (sl 5 Leader.c a)), (8, I (a.length : Int)), (9, I (i : Int))] rfl (Le.c rfl <| Le.c rfl <| Le.c rfl <| Le.c rfl <| Le.e) ?_
    refine CW.seq ?_
    refine CW.block ?_
    refine CW.seq ?_
    refine CW.region ?_
    refine RW.v rfl (V.mv (d := I (i : Int)) rfl rfl) ?_
    refine RW.v rfl (V.indexS rfl rfl rfl rfl rfl rfl Leader.len hei) ?_
    refine RW.v rfl (V.loadAggR rfl rfl rfl rfl (Nat.le_of_ble_eq_true rfl)) ?_
    refine RW.alloc (ds := [I 0, I 0, I 0, I 0, .r (.v (.slice none 0 0))]) rfl rfl rfl rfl fun b2 => ?_
    refine RW.v rfl (V.as (d := I (i : Int)) rfl rfl) ?_
    refine RW.storeAgg (es := ((Leader.c ei).map .r)) rfl rfl rfl rfl rfl rfl rfl rfl (Nat.le_of_ble_eq_true rfl) rfl ?_
    refine RW.nil ?_
    refine CW.le [(0, .r (sl 5 Leader.c a)), (3, I (i : Int)), (4, .obj b2 ((Leader.c ei).map .r)), (7, .r (sl 5 Leader.c a)), (8, I (a.length : Int)), (9, I (i : Int))] rfl (Le.c rfl <| Le.c rfl <| Le.c rfl <| Le.c rfl <| Le.c rfl <| Le.c rfl <| Le.e) ?_
    refine CW.seq ?_
    refine CW.region ?_
    refine RW.v rfl (V.mv (d := .r (sl 5 Leader.c a)) rfl rfl) ?_
    refine RW.v rfl (V.mv (d := I (i : Int)) rfl rfl) ?_
    refine RW.v rfl (V.takeS (m := i) rfl rfl rfl rfl rfl rfl Leader.len (Nat.le_of_lt hii)) ?_
    refine RW.v rfl (V.lenT (n := (a.take i).length) rfl rfl rfl .r) ?_
    refine RW.v rfl (V.mv (d := I 0) rfl rfl) ?_
    refine RW.nil ?_
    refine CW.le [(0, .r (sl 5 Leader.c a)), (4, .obj b2 ((Leader.c ei).map .r)), (7, .r (sl 5 Leader.c a)), (8, I (a.length : Int)), (9, I (i : Int)), (16, .r (sl 5 Leader.c (a.take i))), (17, I ((a.take i).length : Int)), (18, I 0)] rfl (Le.c rfl <| Le.c rfl <| Le.c rfl <| Le.c rfl <| Le.c rfl <| Le.c rfl <| Le.c rfl <| Le.c rfl <| Le.e) ?_
    refine CW.block ?_
    refine CW.loopI 36 (fun (k : Nat) => [(0, .r (sl 5 Leader.c a)), (4, .obj b2 ((Leader.c ei).map .r)), (7, .r (sl 5 Leader.c a)), (8, I (a.length : Int)), (9, I (i : Int)), (16, .r (sl 5 Leader.c (a.take i))), (17, I ((a.take i).length : Int)), (18, I (k : Int))]) (fun (k : Nat) => k ≤ i ∧ ((a.take i).drop k).any (badLeader ei) = (a.take i).any (badLeader ei)) (fun (k : Nat) => i - k) 0 rfl (Le.c rfl <| Le.c rfl <| Le.c rfl <| Le.c rfl <| Le.c rfl <| Le.c rfl <| Le.c rfl <| Le.c rfl <| Le.e) ⟨by omega, by simp⟩ ?_
    rintro k ⟨hc, hs⟩
    refine CW.seq ?_
    refine CW.region ?_
    refine RW.v rfl (V.cmpInt rfl rfl rfl rfl) ?_
    refine RW.nil ?_
    refine CW.le [(0, .r (sl 5 Leader.c a)), (4, .obj b2 ((Leader.c ei).map .r)), (7, .r (sl 5 Leader.c a)), (8, I (a.length : Int)), (9, I (i : Int)), (16, .r (sl 5 Leader.c (a.take i))), (17, I ((a.take i).length : Int)), (18, I (k : Int)), (19, Bo (decide ((k : Int) < ((a.take i).length : Int))))] rfl (Le.c rfl <| Le.c rfl <| Le.c rfl <| Le.c rfl <| Le.c rfl <| Le.c rfl <| Le.c rfl <| Le.c rfl <| Le.c rfl <| Le.e) ?_
    refine CW.seq ?_
    refine CW.cond rfl (fun h3 => ?_) (fun h3 => ?_)
    · skip
      have hik : k < (a.take i).length := by have := h3; simp at this; first | exact this | (simp; omega)
      obtain ⟨ek, hek⟩ : ∃ e, (a.take i)[k]? = some e := ⟨_, List.getElem?_eq_getElem hik⟩
      have hdk := drop_get hek
      have hkl : k < i := by first | exact hik | (simp at hik; omega)
      refine CW.skip ?_
      refine CW.le [(0, .r (sl 5 Leader.c a)), (4, .obj b2 ((Leader.c ei).map .r)), (7, .r (sl 5 Leader.c a)), (8, I (a.length : Int)), (9, I (i : Int)), (16, .r (sl 5 Leader.c (a.take i))), (17, I ((a.take i).length : Int)), (18, I (k : Int))] rfl (Le.c rfl <| Le.c rfl <| Le.c rfl <| Le.c rfl <| Le.c rfl <| Le.c rfl <| Le.c rfl <| Le.c rfl <| Le.e) ?_
      refine CW.seq ?_
      refine CW.block ?_
      refine CW.seq ?_
      refine CW.region ?_
      refine RW.v rfl (V.indexS rfl rfl rfl rfl rfl rfl Leader.len hek) ?_
      refine RW.v rfl (V.loadAggR rfl rfl rfl rfl (Nat.le_of_ble_eq_true rfl)) ?_
      refine RW.alloc (ds := [I 0, I 0, I 0, I 0, .r (.v (.slice none 0 0))]) rfl rfl rfl rfl fun b4 => ?_
      refine RW.storeAgg (es := ((Leader.c ek).map .r)) rfl rfl rfl rfl rfl rfl rfl rfl (Nat.le_of_ble_eq_true rfl) rfl ?_
      refine RW.nil ?_
      refine CW.le [(0, .r (sl 5 Leader.c a)), (4, .obj b2 ((Leader.c ei).map .r)), (6, .obj b4 ((Leader.c ek).map .r)), (7, .r (sl 5 Leader.c a)), (8, I (a.length : Int)), (9, I (i : Int)), (16, .r (sl 5 Leader.c (a.take i))), (17, I ((a.take i).length : Int)), (18, I (k : Int))] rfl (Le.c rfl <| Le.c rfl <| Le.c rfl <| Le.c rfl <| Le.c rfl <| Le.c rfl <| Le.c rfl <| Le.c rfl <| Le.c rfl <| Le.e) ?_
      refine CW.seqJ 36 (fun (v5 : Bool) => [(0, .r (sl 5 Leader.c a)), (4, .obj b2 ((Leader.c ei).map .r)), (7, .r (sl 5 Leader.c a)), (8, I (a.length : Int)), (9, I (i : Int)), (16, .r (sl 5 Leader.c (a.take i))), (17, I ((a.take i).length : Int)), (18, I (k : Int)), (33, Bo v5)]) (fun v5 => v5 = ((ei.term_ == ek.term_) && (ei.node != ek.node))) ?_ ?_
      · refine CW.region ?_
        refine RW.v rfl (V.field rfl rfl rfl rfl (by decide) rfl) ?_
        refine RW.v rfl (V.loadPrim (d := I ei.term_) rfl rfl (.inl rfl) rfl rfl rfl) ?_
        refine RW.v rfl (V.field rfl rfl rfl rfl (by decide) rfl) ?_
        refine RW.v rfl (V.loadPrim (d := I ek.term_) rfl rfl (.inl rfl) rfl rfl rfl) ?_
        refine RW.v rfl (V.cmpInt rfl rfl rfl rfl) ?_
        refine RW.v rfl (V.mv (d := Bo (ei.term_ == ek.term_)) rfl rfl) ?_
        refine RW.gv rfl rfl rfl rfl (fun h6 => V.field rfl rfl rfl rfl (by decide) rfl) (fun h6 => ?_) (fun h6 => ?_)
        · skip
          refine RW.gt rfl rfl rfl rfl (V.loadPrim (d := I ei.node) rfl rfl (.inl rfl) rfl rfl rfl) ?_
          refine RW.gt rfl rfl rfl rfl (V.field rfl rfl rfl rfl (by decide) rfl) ?_
          refine RW.gt rfl rfl rfl rfl (V.loadPrim (d := I ek.node) rfl rfl (.inl rfl) rfl rfl rfl) ?_
          refine RW.gt rfl rfl rfl rfl (V.cmpInt rfl rfl rfl rfl) ?_
          refine RW.v rfl (V.pickT (d := Bo (ei.node != ek.node)) rfl rfl rfl) ?_
          refine RW.nil ?_
          exact ⟨_, by first | rfl | (simp_all; done) | (simp_all; omega) | grind, rfl, Le.c rfl <| Le.c rfl <| Le.c rfl <| Le.c rfl <| Le.c rfl <| Le.c rfl <| Le.c rfl <| Le.c rfl <| Le.c rfl <| Le.e⟩
        · skip
          refine RW.guardF rfl rfl rfl rfl ?_
          refine RW.guardF rfl rfl rfl rfl ?_
          refine RW.guardF rfl rfl rfl rfl ?_
          refine RW.guardF rfl rfl rfl rfl ?_
          refine RW.v rfl (V.pickF (d := Bo false) rfl rfl rfl) ?_
          refine RW.nil ?_
          exact ⟨_, by first | rfl | (simp_all; done) | (simp_all; omega) | grind, rfl, Le.c rfl <| Le.c rfl <| Le.c rfl <| Le.c rfl <| Le.c rfl <| Le.c rfl <| Le.c rfl <| Le.c rfl <| Le.c rfl <| Le.e⟩
      · intro v5 hv7
        refine CW.cond rfl (fun h8 => ?_) (fun h8 => ?_)
        · skip
          refine CW.seq ?_
          refine CW.region ?_
          refine RW.v rfl (V.as (d := Bo false) rfl rfl) ?_
          refine RW.nil ?_
          refine CW.le [(2, Bo false)] rfl (Le.c rfl <| Le.e) ?_
          refine CW.ret ?_
          exact Post.bool rfl (by rw [← hr, hdi, pairs, ← hs, hdk, List.any_cons, show badLeader ei ek = true from by clear hr hs; first | (simp_all [badLeader]; done) | grind [badLeader]]; simp) (AOs.r AOs.e)
        · skip
          refine CW.skip ?_
          refine CW.le [(0, .r (sl 5 Leader.c a)), (4, .obj b2 ((Leader.c ei).map .r)), (7, .r (sl 5 Leader.c a)), (8, I (a.length : Int)), (9, I (i : Int)), (16, .r (sl 5 Leader.c (a.take i))), (17, I ((a.take i).length : Int)), (18, I (k : Int))] rfl (Le.c rfl <| Le.c rfl <| Le.c rfl <| Le.c rfl <| Le.c rfl <| Le.c rfl <| Le.c rfl <| Le.c rfl <| Le.e) ?_
          refine CW.region ?_
          refine RW.v rfl (V.inc rfl rfl rfl hkl (Nat.le_trans (Nat.le_of_lt hii) hl0)) ?_
          refine RW.v rfl (V.mv (d := I ((k + 1 : Nat) : Int)) rfl rfl) ?_
          refine RW.nil ?_
          exact ⟨k + 1, by omega, ⟨by omega, by rw [← hs, hdk, List.any_cons, show badLeader ei ek = false from by clear hr hs; first | (simp_all [badLeader]; done) | grind [badLeader]]; simp⟩, rfl, Le.c rfl <| Le.c rfl <| Le.c rfl <| Le.c rfl <| Le.c rfl <| Le.c rfl <| Le.c rfl <| Le.c rfl <| Le.e⟩
    · skip
      have hik : (a.take i).length ≤ k := by have := h3; simp at this; first | exact this | (simp; omega)
      have hdk : (a.take i).drop k = [] := List.drop_eq_nil_of_le hik
      refine CW.exit ?_
      refine CW.le [(0, .r (sl 5 Leader.c a)), (7, .r (sl 5 Leader.c a)), (8, I (a.length : Int)), (9, I (i : Int))] rfl (Le.c rfl <| Le.c rfl <| Le.c rfl <| Le.c rfl <| Le.e) ?_
      refine CW.region ?_
      refine RW.v rfl (V.inc rfl rfl rfl hii hl0) ?_
      refine RW.v rfl (V.mv (d := I ((i + 1 : Nat) : Int)) rfl rfl) ?_
      refine RW.nil ?_
      exact ⟨i + 1, by omega, ⟨by omega, by rw [← hr, hdi, pairs, ← hs, hdk, take_snoc hei]; simp⟩, rfl, Le.c rfl <| Le.c rfl <| Le.c rfl <| Le.c rfl <| Le.e⟩
  · skip
    have hii : a.length ≤ i := by have := h1; simp at this; first | exact this | (simp; omega)
    have hdi : a.drop i = [] := List.drop_eq_nil_of_le hii
    refine CW.exit ?_
    refine CW.le [] rfl (Le.e) ?_
    refine CW.seq ?_
    refine CW.region ?_
    refine RW.v rfl (V.as (d := Bo true) rfl rfl) ?_
    refine RW.nil ?_
    refine CW.le [(2, Bo true)] rfl (Le.c rfl <| Le.e) ?_
    refine CW.ret ?_
    exact Post.bool rfl (by first | (simp_all [pairs]; done) | grind [pairs]) (AOs.r AOs.e)
theorem laws_FnExactOneLeader_fn (a : List Leader) (hok : okL okLeader a) : Eng.Fn E.P 6 [.one (.r (sl 5 Leader.c a))] (.one (.one (.w (.v (.bool true))))) [.one (.r (sl 5 Leader.c a))] := by
  refine Eng.Fn.intro (E := E) (rvs := [.tmp 2]) Try.func6 rfl rfl rfl (by simp [outSlots, moved, rvSlot]) ?_
  intro B g bo
  refine CW.bound (x := .tmp 0) (n := a.length) (AsT.r) (fun hl0 => ?_)
  refine CW.le [(0, .r (sl 5 Leader.c a))] rfl (Le.c rfl <| Le.e) ?_
  refine CW.seq ?_
  refine CW.region ?_
  refine RW.v rfl (V.as (d := Bo false) rfl rfl) ?_
  refine RW.nil ?_
  refine CW.le [(0, .r (sl 5 Leader.c a))] rfl (Le.c rfl <| Le.e) ?_
  refine CW.seq ?_
  refine CW.region ?_
  refine RW.v rfl (V.as (d := I 1048576) rfl rfl) ?_
  refine RW.nil ?_
  refine CW.le [(0, .r (sl 5 Leader.c a)), (3, I 1048576)] rfl (Le.c rfl <| Le.c rfl <| Le.e) ?_
  refine CW.seq ?_
  refine CW.region ?_
  refine RW.v rfl (V.mv (d := .r (sl 5 Leader.c a)) rfl rfl) ?_
  refine RW.v rfl (V.mv (d := I 1048576) rfl rfl) ?_
  refine RW.call rfl (laws_szLeaderS_fn a 1048576) rfl (.cons (.one (.r .r)) (.cons (.one (.r .r)) (.nil))) fun g1 => ?_
  refine RW.v rfl (V.as (d := I (szS szLeader a 1048576)) rfl rfl) ?_
  refine RW.nil ?_
  refine CW.le [(0, .r (sl 5 Leader.c a)), (3, I (szS szLeader a 1048576))] rfl (Le.c rfl <| Le.c rfl <| Le.e) ?_
  refine CW.seq ?_
  refine CW.seq ?_
  refine CW.region ?_
  refine RW.v rfl (V.mv (d := I (szS szLeader a 1048576)) rfl rfl) ?_
  refine RW.v rfl (V.cmpInt rfl rfl rfl rfl) ?_
  refine RW.nil ?_
  refine CW.le [(0, .r (sl 5 Leader.c a)), (11, Bo (decide ((szS szLeader a 1048576) < 0)))] rfl (Le.c rfl <| Le.c rfl <| Le.e) ?_
  refine CW.cond rfl (fun h2 => ?_) (fun h2 => ?_)
  · skip
    refine CW.seq ?_
    refine CW.region ?_
    refine RW.v rfl (V.as (d := Bo true) rfl rfl) ?_
    refine RW.nil ?_
    refine CW.le [(2, Bo true)] rfl (Le.c rfl <| Le.e) ?_
    refine CW.ret ?_
    exact Post.bool rfl (by first | rfl | simp_all [eqS_refl eqLeader_refl]) (AOs.r AOs.e)
  · skip
    refine CW.skip ?_
    refine CW.le [(0, .r (sl 5 Leader.c a))] rfl (Le.c rfl <| Le.e) ?_
    refine CW.seq ?_
    refine CW.region ?_
    refine RW.v rfl (V.mv (d := .r (sl 5 Leader.c a)) rfl rfl) ?_
    refine RW.call rfl (laws_toLeaderS_fn a (szS_ok szLeader_ok a 1048576 hok (by omega) (by omega) (by simpa using h2)).1.1 (szS_ok szLeader_ok a 1048576 hok (by omega) (by omega) (by simpa using h2)).1.2) rfl (.cons (.one (.r .r)) (.nil)) fun g3 => ?_
    refine RW.callOwn rfl (spec_OneLeader_fn a) rfl (.cons (.one (.r (.al rfl rfl nofun))) (.nil)) rfl fun g4 => ?_
    refine RW.v rfl (V.as (d := Bo (pairs badLeader [] a)) rfl rfl) ?_
    refine RW.nil ?_
    refine CW.le [(0, .r (sl 5 Leader.c a)), (4, Bo (pairs badLeader [] a))] rfl (Le.c rfl <| Le.c rfl <| Le.e) ?_
    refine CW.seq ?_
    refine CW.region ?_
    refine RW.v rfl (V.mv (d := .r (sl 5 Leader.c a)) rfl rfl) ?_
    refine RW.call rfl (laws_toLeaderS_fn a (szS_ok szLeader_ok a 1048576 hok (by omega) (by omega) (by simpa using h2)).1.1 (szS_ok szLeader_ok a 1048576 hok (by omega) (by omega) (by simpa using h2)).1.2) rfl (.cons (.one (.r .r)) (.nil)) fun g5 => ?_
    refine RW.assignMove rfl rfl rfl (by decide) (Nat.le_of_ble_eq_true rfl) (Nat.le_of_ble_eq_true rfl) ?_
    refine RW.nil ?_
    refine CW.le [(0, .r (sl 5 Leader.c a)), (4, Bo (pairs badLeader [] a)), (5, .w (sl 5 Leader.c a) (g5 0 0))] rfl (Le.c rfl <| Le.c rfl <| Le.c rfl <| Le.e) ?_
    refine CW.seq ?_
    refine CW.region ?_
    refine RW.v rfl (V.mv (d := .al 5 none 5 a.length (g5 0 0) 0) rfl rfl) ?_
    refine RW.callOwn rfl (impl_OneLeader_fn a) rfl (.cons (.one (.r (.al rfl rfl nofun))) (.nil)) rfl fun g6 => ?_
    refine RW.v rfl (V.as (d := Bo (pairs badLeader [] a)) rfl rfl) ?_
    refine RW.nil ?_
    refine CW.le [(0, .r (sl 5 Leader.c a)), (4, Bo (pairs badLeader [] a)), (5, .w (sl 5 Leader.c a) (g5 0 0)), (6, Bo (pairs badLeader [] a))] rfl (Le.c rfl <| Le.c rfl <| Le.c rfl <| Le.c rfl <| Le.e) ?_
    refine CW.seq ?_
    refine CW.seq ?_
    refine CW.region ?_
    refine RW.v rfl (V.mv (d := Bo (pairs badLeader [] a)) rfl rfl) ?_
    refine RW.v rfl (V.mv (d := Bo (pairs badLeader [] a)) rfl rfl) ?_
    refine RW.v rfl (V.eqBool rfl rfl rfl (by kernel_rfl) (.inr ⟨rfl, rfl⟩)) ?_
    refine RW.nil ?_
    refine CW.le [(0, .r (sl 5 Leader.c a)), (5, .w (sl 5 Leader.c a) (g5 0 0)), (21, Bo (!((pairs badLeader [] a) == (pairs badLeader [] a))))] rfl (Le.c rfl <| Le.c rfl <| Le.c rfl <| Le.e) ?_
    refine CW.cond rfl (fun h7 => ?_) (fun h7 => ?_)
    · skip
      refine CW.seq ?_
      refine CW.region ?_
      refine RW.v rfl (V.as (d := Bo false) rfl rfl) ?_
      refine RW.nil ?_
      refine CW.le [(2, Bo false)] rfl (Le.c rfl <| Le.e) ?_
      refine CW.ret ?_
      exact Post.bool rfl (by first | rfl | simp_all [eqS_refl eqLeader_refl]) (AOs.r AOs.e)
    · skip
      refine CW.skip ?_
      refine CW.le [(0, .r (sl 5 Leader.c a)), (5, .w (sl 5 Leader.c a) (g5 0 0))] rfl (Le.c rfl <| Le.c rfl <| Le.e) ?_
      refine CW.seq ?_
      refine CW.seq ?_
      refine CW.region ?_
      refine RW.v rfl (V.mv (d := .al 5 none 5 a.length (g5 0 0) 0) rfl rfl) ?_
      refine RW.v rfl (V.mv (d := .r (sl 5 Leader.c a)) rfl rfl) ?_
      refine RW.call rfl (laws_toLeaderS_fn a (szS_ok szLeader_ok a 1048576 hok (by omega) (by omega) (by simpa using h2)).1.1 (szS_ok szLeader_ok a 1048576 hok (by omega) (by omega) (by simpa using h2)).1.2) rfl (.cons (.one (.r .r)) (.nil)) fun g8 => ?_
      refine RW.callOwn rfl (laws_eqLeaderS_fn a a) rfl (.cons (.one (.r (.al rfl rfl nofun))) (.cons (.one (.r (.al rfl rfl nofun))) (.nil))) rfl fun g9 => ?_
      refine RW.v rfl (V.not rfl rfl) ?_
      refine RW.nil ?_
      refine CW.le [(26, Bo (!(eqS eqLeader a a)))] rfl (Le.c rfl <| Le.e) ?_
      refine CW.cond rfl (fun h10 => ?_) (fun h10 => ?_)
      · skip
        refine CW.seq ?_
        refine CW.region ?_
        refine RW.v rfl (V.as (d := Bo false) rfl rfl) ?_
        refine RW.nil ?_
        refine CW.le [(2, Bo false)] rfl (Le.c rfl <| Le.e) ?_
        refine CW.ret ?_
        exact Post.bool rfl (by first | rfl | simp_all [eqS_refl eqLeader_refl]) (AOs.r AOs.e)
      · skip
        refine CW.skip ?_
        refine CW.le [] rfl (Le.e) ?_
        refine CW.seq ?_
        refine CW.region ?_
        refine RW.v rfl (V.as (d := Bo true) rfl rfl) ?_
        refine RW.nil ?_
        refine CW.le [(2, Bo true)] rfl (Le.c rfl <| Le.e) ?_
        refine CW.ret ?_
        exact Post.bool rfl (by first | rfl | simp_all [eqS_refl eqLeader_refl]) (AOs.r AOs.e)
end Go.Proofs.Ythkiegfcahigkaa.Y
