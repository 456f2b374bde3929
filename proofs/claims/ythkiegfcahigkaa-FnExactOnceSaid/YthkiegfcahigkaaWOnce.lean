import Derived.Test.YthkiegfcahigkaaPu
import Derived.Test.YthkiegfcahigkaaProg
namespace Go.Proofs.Ythkiegfcahigkaa.Y
open Go Go.RowKit Go.Eng Go.Proofs
def tl : List (Nat × TyI) := [
(3, ⟨1, 8, [.int .i64 0], .prim⟩),
(4, ⟨1, 1, [.bool false], .prim⟩),
(9, ⟨1, 16, [.string ⟨#[]⟩], .prim⟩),
(29, ⟨1, 24, [.slice none 0 0], .slice 74⟩),
(32, ⟨1, 24, [.slice none 0 0], .slice 76⟩),
(50, ⟨6, 64, [.int .i64 0, .int .i64 0, .int .i64 0, .string ⟨#[]⟩, .string ⟨#[]⟩, .int .i64 0], .agg [(0, 3, 1), (1, 3, 1), (2, 3, 1), (3, 9, 1), (4, 9, 1), (5, 3, 1)]⟩),
(56, ⟨6, 64, [.int .i64 0, .int .i64 0, .int .i64 0, .string ⟨#[]⟩, .string ⟨#[]⟩, .int .i64 0], .agg [(0, 3, 1), (1, 3, 1), (2, 3, 1), (3, 9, 1), (4, 9, 1), (5, 3, 1)]⟩),
(74, ⟨10, 104, [.int .i64 0, .int .i64 0, .int .i64 0, .int .i64 0, .int .i64 0, .int .i64 0, .string ⟨#[]⟩, .string ⟨#[]⟩, .int .i64 0, .string ⟨#[]⟩], .agg [(0, 3, 1), (1, 3, 1), (2, 3, 1), (3, 50, 6), (9, 9, 1)]⟩),
(76, ⟨10, 104, [.int .i64 0, .int .i64 0, .int .i64 0, .int .i64 0, .int .i64 0, .int .i64 0, .string ⟨#[]⟩, .string ⟨#[]⟩, .int .i64 0, .string ⟨#[]⟩], .agg [(0, 3, 1), (1, 3, 1), (2, 3, 1), (3, 56, 6), (9, 9, 1)]⟩)]
theorem tl_ok : ∀ p ∈ tl, tyI Try.prog p.1 = some p.2 := by
  refine List.forall_mem_cons.2 ⟨by kernel_rfl, ?_⟩
  refine List.forall_mem_cons.2 ⟨by kernel_rfl, ?_⟩
  refine List.forall_mem_cons.2 ⟨by kernel_rfl, ?_⟩
  refine List.forall_mem_cons.2 ⟨by kernel_rfl, ?_⟩
  refine List.forall_mem_cons.2 ⟨by kernel_rfl, ?_⟩
  refine List.forall_mem_cons.2 ⟨by kernel_rfl, ?_⟩
  refine List.forall_mem_cons.2 ⟨by kernel_rfl, ?_⟩
  refine List.forall_mem_cons.2 ⟨by kernel_rfl, ?_⟩
  refine List.forall_mem_cons.2 ⟨by kernel_rfl, ?_⟩
  exact fun _ h => by cases h
noncomputable def E : Env := ⟨Try.prog, lk tl, fun t i h => tl_ok (t, i) (lk_mem _ _ _ h), by kernel_rfl⟩
theorem laws_szCommand_fn (a : Command) (left : Int) : Eng.Fn E.P 50 [.agg ((Command.c a).map .r), .one (.r (.v (.int .i64 left)))] (.one (.one (.w (.v (.int .i64 (szCommand a left)))))) [.agg ((Command.c a).map .r), .one (.r (.v (.int .i64 left)))] := by
  refine Eng.Fn.intro (E := E) (rvs := [.tmp 4]) Try.func50 rfl rfl rfl (by simp [outSlots, moved, rvSlot]) ?_
  intro B g bo
  refine CW.le [(0, .agg ((Command.c a).map .r)), (1, I left)] rfl (Le.c rfl <| Le.c rfl <| Le.e) ?_
  refine CW.seq ?_
  refine CW.region ?_
  refine RW.box (ds := ((Command.c a).map .r)) rfl rfl rfl fun b1 => ?_
  refine RW.v rfl (V.as (d := I 0) rfl rfl) ?_
  refine RW.nil ?_
  refine CW.le [(1, I left), (2, .obj b1 ((Command.c a).map .r))] rfl (Le.c rfl <| Le.c rfl <| Le.e) ?_
  refine CW.seq ?_
  refine CW.region ?_
  refine RW.v rfl (V.mv (d := I left) rfl rfl) ?_
  refine RW.v rfl (V.field rfl rfl rfl rfl (by decide) rfl) ?_
  refine RW.v rfl (V.loadPrim (d := S a.key) rfl rfl (.inl rfl) rfl rfl rfl) ?_
  refine RW.v rfl (V.lenStr rfl (by kernel_rfl) rfl) ?_
  refine RW.v rfl (V.arInt rfl rfl rfl rfl) ?_
  refine RW.v rfl (V.as (d := I (IntKind.i64.wrap (left - (a.key.size : Int)))) rfl rfl) ?_
  refine RW.nil ?_
  refine CW.le [(1, I (IntKind.i64.wrap (left - (a.key.size : Int)))), (2, .obj b1 ((Command.c a).map .r))] rfl (Le.c rfl <| Le.c rfl <| Le.e) ?_
  refine CW.seq ?_
  refine CW.seq ?_
  refine CW.region ?_
  refine RW.v rfl (V.mv (d := I (IntKind.i64.wrap (left - (a.key.size : Int)))) rfl rfl) ?_
  refine RW.v rfl (V.cmpInt rfl rfl rfl rfl) ?_
  refine RW.nil ?_
  refine CW.le [(1, I (IntKind.i64.wrap (left - (a.key.size : Int)))), (2, .obj b1 ((Command.c a).map .r)), (11, Bo (decide ((IntKind.i64.wrap (left - (a.key.size : Int))) < 0)))] rfl (Le.c rfl <| Le.c rfl <| Le.c rfl <| Le.e) ?_
  refine CW.cond rfl (fun h2 => ?_) (fun h2 => ?_)
  · skip
    refine CW.seq ?_
    refine CW.region ?_
    refine RW.v rfl (V.as (d := I (-1)) rfl rfl) ?_
    refine RW.nil ?_
    refine CW.le [(4, I (-1))] rfl (Le.c rfl <| Le.e) ?_
    refine CW.ret ?_
    exact Post.int rfl (by first | (simp_all [szCommand]; done) | (simp_all [szCommand]; omega) | grind [szCommand]) (AOs.a rfl (AOs.r AOs.e))
  · skip
    refine CW.skip ?_
    refine CW.le [(1, I (IntKind.i64.wrap (left - (a.key.size : Int)))), (2, .obj b1 ((Command.c a).map .r))] rfl (Le.c rfl <| Le.c rfl <| Le.e) ?_
    refine CW.seq ?_
    refine CW.region ?_
    refine RW.v rfl (V.mv (d := I (IntKind.i64.wrap (left - (a.key.size : Int)))) rfl rfl) ?_
    refine RW.v rfl (V.field rfl rfl rfl rfl (by decide) rfl) ?_
    refine RW.v rfl (V.loadPrim (d := S a.val) rfl rfl (.inl rfl) rfl rfl rfl) ?_
    refine RW.v rfl (V.lenStr rfl (by kernel_rfl) rfl) ?_
    refine RW.v rfl (V.arInt rfl rfl rfl rfl) ?_
    refine RW.v rfl (V.as (d := I (IntKind.i64.wrap ((IntKind.i64.wrap (left - (a.key.size : Int))) - (a.val.size : Int)))) rfl rfl) ?_
    refine RW.nil ?_
    refine CW.le [(1, I (IntKind.i64.wrap ((IntKind.i64.wrap (left - (a.key.size : Int))) - (a.val.size : Int))))] rfl (Le.c rfl <| Le.e) ?_
    refine CW.seq ?_
    refine CW.seq ?_
    refine CW.region ?_
    refine RW.v rfl (V.mv (d := I (IntKind.i64.wrap ((IntKind.i64.wrap (left - (a.key.size : Int))) - (a.val.size : Int)))) rfl rfl) ?_
    refine RW.v rfl (V.cmpInt rfl rfl rfl rfl) ?_
    refine RW.nil ?_
    refine CW.le [(1, I (IntKind.i64.wrap ((IntKind.i64.wrap (left - (a.key.size : Int))) - (a.val.size : Int)))), (18, Bo (decide ((IntKind.i64.wrap ((IntKind.i64.wrap (left - (a.key.size : Int))) - (a.val.size : Int))) < 0)))] rfl (Le.c rfl <| Le.c rfl <| Le.e) ?_
    refine CW.cond rfl (fun h3 => ?_) (fun h3 => ?_)
    · skip
      refine CW.seq ?_
      refine CW.region ?_
      refine RW.v rfl (V.as (d := I (-1)) rfl rfl) ?_
      refine RW.nil ?_
      refine CW.le [(4, I (-1))] rfl (Le.c rfl <| Le.e) ?_
      refine CW.ret ?_
      exact Post.int rfl (by first | (simp_all [szCommand]; done) | (simp_all [szCommand]; omega) | grind [szCommand]) (AOs.a rfl (AOs.r AOs.e))
    · skip
      refine CW.skip ?_
      refine CW.le [(1, I (IntKind.i64.wrap ((IntKind.i64.wrap (left - (a.key.size : Int))) - (a.val.size : Int))))] rfl (Le.c rfl <| Le.e) ?_
      refine CW.seq ?_
      refine CW.region ?_
      refine RW.v rfl (V.mv (d := I (IntKind.i64.wrap ((IntKind.i64.wrap (left - (a.key.size : Int))) - (a.val.size : Int)))) rfl rfl) ?_
      refine RW.v rfl (V.as (d := I (IntKind.i64.wrap ((IntKind.i64.wrap (left - (a.key.size : Int))) - (a.val.size : Int)))) rfl rfl) ?_
      refine RW.nil ?_
      refine CW.le [(4, I (IntKind.i64.wrap ((IntKind.i64.wrap (left - (a.key.size : Int))) - (a.val.size : Int))))] rfl (Le.c rfl <| Le.e) ?_
      refine CW.ret ?_
      exact Post.int rfl (by first | (simp_all [szCommand]; done) | (simp_all [szCommand]; omega) | grind [szCommand]) (AOs.a rfl (AOs.r AOs.e))
theorem laws_szReply_fn (a : Reply) (left : Int) : Eng.Fn E.P 40 [.agg ((Reply.c a).map .r), .one (.r (.v (.int .i64 left)))] (.one (.one (.w (.v (.int .i64 (szReply a left)))))) [.agg ((Reply.c a).map .r), .one (.r (.v (.int .i64 left)))] := by
  refine Eng.Fn.intro (E := E) (rvs := [.tmp 4]) Try.func40 rfl rfl rfl (by simp [outSlots, moved, rvSlot]) ?_
  intro B g bo
  refine CW.le [(0, .agg ((Reply.c a).map .r)), (1, I left)] rfl (Le.c rfl <| Le.c rfl <| Le.e) ?_
  refine CW.seq ?_
  refine CW.region ?_
  refine RW.box (ds := ((Reply.c a).map .r)) rfl rfl rfl fun b1 => ?_
  refine RW.v rfl (V.as (d := I 0) rfl rfl) ?_
  refine RW.nil ?_
  refine CW.le [(1, I left), (2, .obj b1 ((Reply.c a).map .r))] rfl (Le.c rfl <| Le.c rfl <| Le.e) ?_
  refine CW.seq ?_
  refine CW.region ?_
  refine RW.v rfl (V.field rfl rfl rfl rfl (by decide) rfl) ?_
  refine RW.v rfl (V.loadAgg rfl rfl rfl rfl rfl (Nat.le_of_ble_eq_true rfl)) ?_
  refine RW.v rfl (V.mv (d := I left) rfl rfl) ?_
  refine RW.call rfl (laws_szCommand_fn a.command left) rfl (.cons (.agg (.cons (.r .r) (.cons (.r .r) (.cons (.r .r) (.cons (.r .r) (.cons (.r .r) (.cons (.r .r) (.nil)))))))) (.cons (.one (.r .r)) (.nil))) fun g2 => ?_
  refine RW.v rfl (V.as (d := I (szCommand a.command left)) rfl rfl) ?_
  refine RW.nil ?_
  refine CW.le [(1, I (szCommand a.command left)), (2, .obj b1 ((Reply.c a).map .r))] rfl (Le.c rfl <| Le.c rfl <| Le.e) ?_
  refine CW.seq ?_
  refine CW.seq ?_
  refine CW.region ?_
  refine RW.v rfl (V.mv (d := I (szCommand a.command left)) rfl rfl) ?_
  refine RW.v rfl (V.cmpInt rfl rfl rfl rfl) ?_
  refine RW.nil ?_
  refine CW.le [(1, I (szCommand a.command left)), (2, .obj b1 ((Reply.c a).map .r)), (10, Bo (decide ((szCommand a.command left) < 0)))] rfl (Le.c rfl <| Le.c rfl <| Le.c rfl <| Le.e) ?_
  refine CW.cond rfl (fun h3 => ?_) (fun h3 => ?_)
  · skip
    refine CW.seq ?_
    refine CW.region ?_
    refine RW.v rfl (V.as (d := I (-1)) rfl rfl) ?_
    refine RW.nil ?_
    refine CW.le [(4, I (-1))] rfl (Le.c rfl <| Le.e) ?_
    refine CW.ret ?_
    exact Post.int rfl (by first | (simp_all [szReply]; done) | (simp_all [szReply]; omega) | grind [szReply]) (AOs.a rfl (AOs.r AOs.e))
  · skip
    refine CW.skip ?_
    refine CW.le [(1, I (szCommand a.command left)), (2, .obj b1 ((Reply.c a).map .r))] rfl (Le.c rfl <| Le.c rfl <| Le.e) ?_
    refine CW.seq ?_
    refine CW.region ?_
    refine RW.v rfl (V.mv (d := I (szCommand a.command left)) rfl rfl) ?_
    refine RW.v rfl (V.field rfl rfl rfl rfl (by decide) rfl) ?_
    refine RW.v rfl (V.loadPrim (d := S a.text) rfl rfl (.inl rfl) rfl rfl rfl) ?_
    refine RW.v rfl (V.lenStr rfl (by kernel_rfl) rfl) ?_
    refine RW.v rfl (V.arInt rfl rfl rfl rfl) ?_
    refine RW.v rfl (V.as (d := I (IntKind.i64.wrap ((szCommand a.command left) - (a.text.size : Int)))) rfl rfl) ?_
    refine RW.nil ?_
    refine CW.le [(1, I (IntKind.i64.wrap ((szCommand a.command left) - (a.text.size : Int))))] rfl (Le.c rfl <| Le.e) ?_
    refine CW.seq ?_
    refine CW.seq ?_
    refine CW.region ?_
    refine RW.v rfl (V.mv (d := I (IntKind.i64.wrap ((szCommand a.command left) - (a.text.size : Int)))) rfl rfl) ?_
    refine RW.v rfl (V.cmpInt rfl rfl rfl rfl) ?_
    refine RW.nil ?_
    refine CW.le [(1, I (IntKind.i64.wrap ((szCommand a.command left) - (a.text.size : Int)))), (17, Bo (decide ((IntKind.i64.wrap ((szCommand a.command left) - (a.text.size : Int))) < 0)))] rfl (Le.c rfl <| Le.c rfl <| Le.e) ?_
    refine CW.cond rfl (fun h4 => ?_) (fun h4 => ?_)
    · skip
      refine CW.seq ?_
      refine CW.region ?_
      refine RW.v rfl (V.as (d := I (-1)) rfl rfl) ?_
      refine RW.nil ?_
      refine CW.le [(4, I (-1))] rfl (Le.c rfl <| Le.e) ?_
      refine CW.ret ?_
      exact Post.int rfl (by first | (simp_all [szReply]; done) | (simp_all [szReply]; omega) | grind [szReply]) (AOs.a rfl (AOs.r AOs.e))
    · skip
      refine CW.skip ?_
      refine CW.le [(1, I (IntKind.i64.wrap ((szCommand a.command left) - (a.text.size : Int))))] rfl (Le.c rfl <| Le.e) ?_
      refine CW.seq ?_
      refine CW.region ?_
      refine RW.v rfl (V.mv (d := I (IntKind.i64.wrap ((szCommand a.command left) - (a.text.size : Int)))) rfl rfl) ?_
      refine RW.v rfl (V.as (d := I (IntKind.i64.wrap ((szCommand a.command left) - (a.text.size : Int)))) rfl rfl) ?_
      refine RW.nil ?_
      refine CW.le [(4, I (IntKind.i64.wrap ((szCommand a.command left) - (a.text.size : Int))))] rfl (Le.c rfl <| Le.e) ?_
      refine CW.ret ?_
      exact Post.int rfl (by first | (simp_all [szReply]; done) | (simp_all [szReply]; omega) | grind [szReply]) (AOs.a rfl (AOs.r AOs.e))
theorem laws_szReplyS_fn (a : List Reply) (left : Int) : Eng.Fn E.P 14 [.one (.r (sl 10 Reply.c a)), .one (.r (.v (.int .i64 left)))] (.one (.one (.w (.v (.int .i64 (szS szReply a left)))))) [.one (.r (sl 10 Reply.c a)), .one (.r (.v (.int .i64 left)))] := by
  refine Eng.Fn.intro (E := E) (rvs := [.tmp 4]) Try.func14 rfl rfl rfl (by simp [outSlots, moved, rvSlot]) ?_
  intro B g bo
  refine CW.bound (x := .tmp 0) (n := a.length) (AsT.r) (fun hl0 => ?_)
  refine CW.le [(0, .r (sl 10 Reply.c a)), (1, I left)] rfl (Le.c rfl <| Le.c rfl <| Le.e) ?_
  refine CW.seq ?_
  refine CW.region ?_
  refine RW.v rfl (V.as (d := I 0) rfl rfl) ?_
  refine RW.nil ?_
  refine CW.le [(0, .r (sl 10 Reply.c a)), (1, I left)] rfl (Le.c rfl <| Le.c rfl <| Le.e) ?_
  refine CW.seq ?_
  refine CW.region ?_
  refine RW.v rfl (V.mv (d := I left) rfl rfl) ?_
  refine RW.v rfl (V.mv (d := .r (sl 10 Reply.c a)) rfl rfl) ?_
  refine RW.v rfl (V.lenT (n := a.length) rfl rfl rfl .r) ?_
  refine RW.v rfl (V.arInt rfl rfl rfl rfl) ?_
  refine RW.v rfl (V.as (d := I (IntKind.i64.wrap (left - (a.length : Int)))) rfl rfl) ?_
  refine RW.nil ?_
  refine CW.le [(0, .r (sl 10 Reply.c a)), (1, I (IntKind.i64.wrap (left - (a.length : Int))))] rfl (Le.c rfl <| Le.c rfl <| Le.e) ?_
  refine CW.seq ?_
  refine CW.seq ?_
  refine CW.region ?_
  refine RW.v rfl (V.mv (d := I (IntKind.i64.wrap (left - (a.length : Int)))) rfl rfl) ?_
  refine RW.v rfl (V.cmpInt rfl rfl rfl rfl) ?_
  refine RW.nil ?_
  refine CW.le [(0, .r (sl 10 Reply.c a)), (1, I (IntKind.i64.wrap (left - (a.length : Int)))), (11, Bo (decide ((IntKind.i64.wrap (left - (a.length : Int))) < 0)))] rfl (Le.c rfl <| Le.c rfl <| Le.c rfl <| Le.e) ?_
  refine CW.cond rfl (fun h1 => ?_) (fun h1 => ?_)
  · skip
    refine CW.seq ?_
    refine CW.region ?_
    refine RW.v rfl (V.as (d := I (-1)) rfl rfl) ?_
    refine RW.nil ?_
    refine CW.le [(4, I (-1))] rfl (Le.c rfl <| Le.e) ?_
    refine CW.ret ?_
    exact Post.int rfl (by first | (simp_all [szS, szL, szStr, szI]; done) | grind [szS, szL, szStr, szI]) (AOs.r (AOs.r AOs.e))
  · skip
    refine CW.skip ?_
    refine CW.le [(0, .r (sl 10 Reply.c a)), (1, I (IntKind.i64.wrap (left - (a.length : Int))))] rfl (Le.c rfl <| Le.c rfl <| Le.e) ?_
    refine CW.seq ?_
    refine CW.seq ?_
    refine CW.region ?_
    refine RW.v rfl (V.as (d := I 0) rfl rfl) ?_
    refine RW.nil ?_
    refine CW.le [(0, .r (sl 10 Reply.c a)), (1, I (IntKind.i64.wrap (left - (a.length : Int)))), (5, I 0)] rfl (Le.c rfl <| Le.c rfl <| Le.c rfl <| Le.e) ?_
    refine CW.block ?_
    refine CW.loopI 27 (fun (x : Nat × Int) => match x with | (i, l) => [(0, .r (sl 10 Reply.c a)), (1, I l), (5, I (i : Int))]) (fun (x : Nat × Int) => match x with | (i, l) => i ≤ a.length ∧ szL szReply (a.drop i) l = szS szReply a left) (fun (x : Nat × Int) => match x with | (i, l) => a.length - i) (0, _) rfl (Le.c rfl <| Le.c rfl <| Le.c rfl <| Le.e) ⟨by omega, by first | (simp_all [szS]; done) | grind [szS]⟩ ?_
    rintro ⟨i, l⟩ ⟨hb, hr⟩
    refine CW.seq ?_
    refine CW.seq ?_
    refine CW.region ?_
    refine RW.v rfl (V.mv (d := I (i : Int)) rfl rfl) ?_
    refine RW.v rfl (V.mv (d := .r (sl 10 Reply.c a)) rfl rfl) ?_
    refine RW.v rfl (V.lenT (n := a.length) rfl rfl rfl .r) ?_
    refine RW.v rfl (V.cmpInt rfl rfl rfl rfl) ?_
    refine RW.nil ?_
    refine CW.le [(0, .r (sl 10 Reply.c a)), (1, I l), (5, I (i : Int)), (15, Bo (decide ((i : Int) < (a.length : Int))))] rfl (Le.c rfl <| Le.c rfl <| Le.c rfl <| Le.c rfl <| Le.e) ?_
    refine CW.cond rfl (fun h2 => ?_) (fun h2 => ?_)
    · skip
      have hii : i < a.length := by have := h2; simp at this; first | exact this | (simp; omega)
      obtain ⟨ei, hei⟩ : ∃ e, a[i]? = some e := ⟨_, List.getElem?_eq_getElem hii⟩
      have hdi := drop_get hei
      refine CW.skip ?_
      refine CW.le [(0, .r (sl 10 Reply.c a)), (1, I l), (5, I (i : Int))] rfl (Le.c rfl <| Le.c rfl <| Le.c rfl <| Le.e) ?_
      refine CW.seq ?_
      refine CW.block ?_
      refine CW.seq ?_
      refine CW.region ?_
      refine RW.v rfl (V.mv (d := .r (sl 10 Reply.c a)) rfl rfl) ?_
      refine RW.v rfl (V.mv (d := I (i : Int)) rfl rfl) ?_
      refine RW.v rfl (V.indexS rfl rfl rfl rfl rfl rfl Reply.len hei) ?_
      refine RW.v rfl (V.loadAggR rfl rfl rfl rfl (Nat.le_of_ble_eq_true rfl)) ?_
      refine RW.v rfl (V.mv (d := I l) rfl rfl) ?_
      refine RW.call rfl (laws_szReply_fn ei l) rfl (.cons (.agg (.cons (.r .r) (.cons (.r .r) (.cons (.r .r) (.cons (.r .r) (.cons (.r .r) (.cons (.r .r) (.cons (.r .r) (.cons (.r .r) (.cons (.r .r) (.cons (.r .r) (.nil)))))))))))) (.cons (.one (.r .r)) (.nil))) fun g3 => ?_
      refine RW.v rfl (V.as (d := I (szReply ei l)) rfl rfl) ?_
      refine RW.nil ?_
      refine CW.le [(0, .r (sl 10 Reply.c a)), (1, I (szReply ei l)), (5, I (i : Int))] rfl (Le.c rfl <| Le.c rfl <| Le.c rfl <| Le.e) ?_
      refine CW.seq ?_
      refine CW.region ?_
      refine RW.v rfl (V.mv (d := I (szReply ei l)) rfl rfl) ?_
      refine RW.v rfl (V.cmpInt rfl rfl rfl rfl) ?_
      refine RW.nil ?_
      refine CW.le [(0, .r (sl 10 Reply.c a)), (1, I (szReply ei l)), (5, I (i : Int)), (25, Bo (decide ((szReply ei l) < 0)))] rfl (Le.c rfl <| Le.c rfl <| Le.c rfl <| Le.c rfl <| Le.e) ?_
      refine CW.cond rfl (fun h4 => ?_) (fun h4 => ?_)
      · skip
        refine CW.seq ?_
        refine CW.region ?_
        refine RW.v rfl (V.as (d := I (-1)) rfl rfl) ?_
        refine RW.nil ?_
        refine CW.le [(4, I (-1))] rfl (Le.c rfl <| Le.e) ?_
        refine CW.ret ?_
        exact Post.int rfl (by first | (simp_all [szS, szL, szStr, szI]; done) | grind [szS, szL, szStr, szI]) (AOs.r (AOs.r AOs.e))
      · skip
        refine CW.skip ?_
        refine CW.le [(0, .r (sl 10 Reply.c a)), (1, I (szReply ei l)), (5, I (i : Int))] rfl (Le.c rfl <| Le.c rfl <| Le.c rfl <| Le.e) ?_
        refine CW.region ?_
        refine RW.v rfl (V.mv (d := I (i : Int)) rfl rfl) ?_
        refine RW.v rfl (V.inc rfl rfl rfl hii hl0) ?_
        refine RW.v rfl (V.as (d := I ((i + 1 : Nat) : Int)) rfl rfl) ?_
        refine RW.nil ?_
        exact ⟨(i + 1, _), by simp only []; omega, ⟨by omega, by first | (simp_all [szL, szStr, szI]; done) | grind [szL, szStr, szI]⟩, rfl, Le.c rfl <| Le.c rfl <| Le.c rfl <| Le.e⟩
    · skip
      have hii : a.length ≤ i := by have := h2; simp at this; first | exact this | (simp; omega)
      have hdi : a.drop i = [] := List.drop_eq_nil_of_le hii
      refine CW.exit ?_
      refine CW.le [(1, I l)] rfl (Le.c rfl <| Le.e) ?_
      refine CW.seq ?_
      refine CW.region ?_
      refine RW.v rfl (V.mv (d := I l) rfl rfl) ?_
      refine RW.v rfl (V.as (d := I l) rfl rfl) ?_
      refine RW.nil ?_
      refine CW.le [(4, I l)] rfl (Le.c rfl <| Le.e) ?_
      refine CW.ret ?_
      exact Post.int rfl (by first | (simp_all [szS, szL, szStr, szI]; done) | grind [szS, szL, szStr, szI]) (AOs.r (AOs.r AOs.e))
theorem laws_toCommand_fn (a : Command) : Eng.Fn E.P 55 [.agg ((Command.c a).map .r)] (.one (.agg ((Command.c a).map .w))) [.agg ((Command.c a).map .r)] := by
  refine Eng.Fn.intro (E := E) (rvs := [.cell 2 56]) Try.func55 rfl rfl rfl (by simp [outSlots, moved, rvSlot]) ?_
  intro B g bo
  refine CW.le [(0, .agg ((Command.c a).map .r))] rfl (Le.c rfl <| Le.e) ?_
  refine CW.seq ?_
  refine CW.region ?_
  refine RW.box (ds := ((Command.c a).map .r)) rfl rfl rfl fun b1 => ?_
  refine RW.alloc (ds := [I 0, I 0, I 0, S (⟨#[]⟩), S (⟨#[]⟩), I 0]) rfl rfl rfl rfl fun b2 => ?_
  refine RW.nil ?_
  refine CW.le [(1, .obj b1 ((Command.c a).map .r)), (2, .obj b2 [I 0, I 0, I 0, S (⟨#[]⟩), S (⟨#[]⟩), I 0])] rfl (Le.c rfl <| Le.c rfl <| Le.e) ?_
  refine CW.seq ?_
  refine CW.region ?_
  refine RW.alloc (ds := [I 0, I 0, I 0, S (⟨#[]⟩), S (⟨#[]⟩), I 0]) rfl rfl rfl rfl fun b3 => ?_
  refine RW.nil ?_
  refine CW.le [(1, .obj b1 ((Command.c a).map .r)), (2, .obj b2 [I 0, I 0, I 0, S (⟨#[]⟩), S (⟨#[]⟩), I 0]), (3, .obj b3 [I 0, I 0, I 0, S (⟨#[]⟩), S (⟨#[]⟩), I 0])] rfl (Le.c rfl <| Le.c rfl <| Le.c rfl <| Le.e) ?_
  refine CW.seq ?_
  refine CW.region ?_
  refine RW.v rfl (V.field rfl rfl rfl rfl (by decide) rfl) ?_
  refine RW.v rfl (V.loadPrim (d := I a.op) rfl rfl (.inl rfl) rfl rfl rfl) ?_
  refine RW.v rfl (V.field rfl rfl rfl rfl (by decide) rfl) ?_
  refine RW.store (d := I a.op) rfl rfl rfl rfl rfl rfl rfl (Nat.le_of_ble_eq_true rfl) rfl rfl ?_
  refine RW.nil ?_
  refine CW.le [(1, .obj b1 ((Command.c a).map .r)), (2, .obj b2 [I 0, I 0, I 0, S (⟨#[]⟩), S (⟨#[]⟩), I 0]), (3, .obj b3 [I a.op, I 0, I 0, S (⟨#[]⟩), S (⟨#[]⟩), I 0])] rfl (Le.c rfl <| Le.c rfl <| Le.c rfl <| Le.e) ?_
  refine CW.seq ?_
  refine CW.region ?_
  refine RW.v rfl (V.field rfl rfl rfl rfl (by decide) rfl) ?_
  refine RW.v rfl (V.loadPrim (d := I a.token) rfl rfl (.inl rfl) rfl rfl rfl) ?_
  refine RW.v rfl (V.field rfl rfl rfl rfl (by decide) rfl) ?_
  refine RW.store (d := I a.token) rfl rfl rfl rfl rfl rfl rfl (Nat.le_of_ble_eq_true rfl) rfl rfl ?_
  refine RW.nil ?_
  refine CW.le [(1, .obj b1 ((Command.c a).map .r)), (2, .obj b2 [I 0, I 0, I 0, S (⟨#[]⟩), S (⟨#[]⟩), I 0]), (3, .obj b3 [I a.op, I a.token, I 0, S (⟨#[]⟩), S (⟨#[]⟩), I 0])] rfl (Le.c rfl <| Le.c rfl <| Le.c rfl <| Le.e) ?_
  refine CW.seq ?_
  refine CW.region ?_
  refine RW.v rfl (V.field rfl rfl rfl rfl (by decide) rfl) ?_
  refine RW.v rfl (V.loadPrim (d := I a.seq) rfl rfl (.inl rfl) rfl rfl rfl) ?_
  refine RW.v rfl (V.field rfl rfl rfl rfl (by decide) rfl) ?_
  refine RW.store (d := I a.seq) rfl rfl rfl rfl rfl rfl rfl (Nat.le_of_ble_eq_true rfl) rfl rfl ?_
  refine RW.nil ?_
  refine CW.le [(1, .obj b1 ((Command.c a).map .r)), (2, .obj b2 [I 0, I 0, I 0, S (⟨#[]⟩), S (⟨#[]⟩), I 0]), (3, .obj b3 [I a.op, I a.token, I a.seq, S (⟨#[]⟩), S (⟨#[]⟩), I 0])] rfl (Le.c rfl <| Le.c rfl <| Le.c rfl <| Le.e) ?_
  refine CW.seq ?_
  refine CW.region ?_
  refine RW.v rfl (V.field rfl rfl rfl rfl (by decide) rfl) ?_
  refine RW.v rfl (V.loadPrim (d := S a.key) rfl rfl (.inl rfl) rfl rfl rfl) ?_
  refine RW.v rfl (V.field rfl rfl rfl rfl (by decide) rfl) ?_
  refine RW.store (d := S a.key) rfl rfl rfl rfl rfl rfl rfl (Nat.le_of_ble_eq_true rfl) rfl rfl ?_
  refine RW.nil ?_
  refine CW.le [(1, .obj b1 ((Command.c a).map .r)), (2, .obj b2 [I 0, I 0, I 0, S (⟨#[]⟩), S (⟨#[]⟩), I 0]), (3, .obj b3 [I a.op, I a.token, I a.seq, S a.key, S (⟨#[]⟩), I 0])] rfl (Le.c rfl <| Le.c rfl <| Le.c rfl <| Le.e) ?_
  refine CW.seq ?_
  refine CW.region ?_
  refine RW.v rfl (V.field rfl rfl rfl rfl (by decide) rfl) ?_
  refine RW.v rfl (V.loadPrim (d := S a.val) rfl rfl (.inl rfl) rfl rfl rfl) ?_
  refine RW.v rfl (V.field rfl rfl rfl rfl (by decide) rfl) ?_
  refine RW.store (d := S a.val) rfl rfl rfl rfl rfl rfl rfl (Nat.le_of_ble_eq_true rfl) rfl rfl ?_
  refine RW.nil ?_
  refine CW.le [(1, .obj b1 ((Command.c a).map .r)), (2, .obj b2 [I 0, I 0, I 0, S (⟨#[]⟩), S (⟨#[]⟩), I 0]), (3, .obj b3 [I a.op, I a.token, I a.seq, S a.key, S a.val, I 0])] rfl (Le.c rfl <| Le.c rfl <| Le.c rfl <| Le.e) ?_
  refine CW.seq ?_
  refine CW.region ?_
  refine RW.v rfl (V.field rfl rfl rfl rfl (by decide) rfl) ?_
  refine RW.v rfl (V.loadPrim (d := I a.ver) rfl rfl (.inl rfl) rfl rfl rfl) ?_
  refine RW.v rfl (V.field rfl rfl rfl rfl (by decide) rfl) ?_
  refine RW.store (d := I a.ver) rfl rfl rfl rfl rfl rfl rfl (Nat.le_of_ble_eq_true rfl) rfl rfl ?_
  refine RW.nil ?_
  refine CW.le [(2, .obj b2 [I 0, I 0, I 0, S (⟨#[]⟩), S (⟨#[]⟩), I 0]), (3, .obj b3 ((Command.c a).map .r))] rfl (Le.c rfl <| Le.c rfl <| Le.e) ?_
  refine CW.seq ?_
  refine CW.region ?_
  refine RW.v rfl (V.loadAgg rfl rfl rfl rfl rfl (Nat.le_of_ble_eq_true rfl)) ?_
  refine RW.storeAgg (es := ((Command.c a).map .r)) rfl rfl rfl rfl rfl rfl rfl rfl (Nat.le_of_ble_eq_true rfl) rfl ?_
  refine RW.nil ?_
  refine CW.le [(2, .obj b2 ((Command.c a).map .r))] rfl (Le.c rfl <| Le.e) ?_
  refine CW.ret ?_
  exact Post.cell rfl rfl rfl rfl (DT.v (DT.v (DT.v (DT.v (DT.v (DT.v DT.e)))))) (AOs.a rfl AOs.e)
theorem laws_toReply_fn (a : Reply) : Eng.Fn E.P 41 [.agg ((Reply.c a).map .r)] (.one (.agg ((Reply.c a).map .w))) [.agg ((Reply.c a).map .r)] := by
  refine Eng.Fn.intro (E := E) (rvs := [.cell 2 76]) Try.func41 rfl rfl rfl (by simp [outSlots, moved, rvSlot]) ?_
  intro B g bo
  refine CW.le [(0, .agg ((Reply.c a).map .r))] rfl (Le.c rfl <| Le.e) ?_
  refine CW.seq ?_
  refine CW.region ?_
  refine RW.box (ds := ((Reply.c a).map .r)) rfl rfl rfl fun b1 => ?_
  refine RW.alloc (ds := [I 0, I 0, I 0, I 0, I 0, I 0, S (⟨#[]⟩), S (⟨#[]⟩), I 0, S (⟨#[]⟩)]) rfl rfl rfl rfl fun b2 => ?_
  refine RW.nil ?_
  refine CW.le [(1, .obj b1 ((Reply.c a).map .r)), (2, .obj b2 [I 0, I 0, I 0, I 0, I 0, I 0, S (⟨#[]⟩), S (⟨#[]⟩), I 0, S (⟨#[]⟩)])] rfl (Le.c rfl <| Le.c rfl <| Le.e) ?_
  refine CW.seq ?_
  refine CW.region ?_
  refine RW.alloc (ds := [I 0, I 0, I 0, I 0, I 0, I 0, S (⟨#[]⟩), S (⟨#[]⟩), I 0, S (⟨#[]⟩)]) rfl rfl rfl rfl fun b3 => ?_
  refine RW.nil ?_
  refine CW.le [(1, .obj b1 ((Reply.c a).map .r)), (2, .obj b2 [I 0, I 0, I 0, I 0, I 0, I 0, S (⟨#[]⟩), S (⟨#[]⟩), I 0, S (⟨#[]⟩)]), (3, .obj b3 [I 0, I 0, I 0, I 0, I 0, I 0, S (⟨#[]⟩), S (⟨#[]⟩), I 0, S (⟨#[]⟩)])] rfl (Le.c rfl <| Le.c rfl <| Le.c rfl <| Le.e) ?_
  refine CW.seq ?_
  refine CW.region ?_
  refine RW.v rfl (V.field rfl rfl rfl rfl (by decide) rfl) ?_
  refine RW.v rfl (V.loadPrim (d := I a.call) rfl rfl (.inl rfl) rfl rfl rfl) ?_
  refine RW.v rfl (V.field rfl rfl rfl rfl (by decide) rfl) ?_
  refine RW.store (d := I a.call) rfl rfl rfl rfl rfl rfl rfl (Nat.le_of_ble_eq_true rfl) rfl rfl ?_
  refine RW.nil ?_
  refine CW.le [(1, .obj b1 ((Reply.c a).map .r)), (2, .obj b2 [I 0, I 0, I 0, I 0, I 0, I 0, S (⟨#[]⟩), S (⟨#[]⟩), I 0, S (⟨#[]⟩)]), (3, .obj b3 [I a.call, I 0, I 0, I 0, I 0, I 0, S (⟨#[]⟩), S (⟨#[]⟩), I 0, S (⟨#[]⟩)])] rfl (Le.c rfl <| Le.c rfl <| Le.c rfl <| Le.e) ?_
  refine CW.seq ?_
  refine CW.region ?_
  refine RW.v rfl (V.field rfl rfl rfl rfl (by decide) rfl) ?_
  refine RW.v rfl (V.loadPrim (d := I a.when_) rfl rfl (.inl rfl) rfl rfl rfl) ?_
  refine RW.v rfl (V.field rfl rfl rfl rfl (by decide) rfl) ?_
  refine RW.store (d := I a.when_) rfl rfl rfl rfl rfl rfl rfl (Nat.le_of_ble_eq_true rfl) rfl rfl ?_
  refine RW.nil ?_
  refine CW.le [(1, .obj b1 ((Reply.c a).map .r)), (2, .obj b2 [I 0, I 0, I 0, I 0, I 0, I 0, S (⟨#[]⟩), S (⟨#[]⟩), I 0, S (⟨#[]⟩)]), (3, .obj b3 [I a.call, I a.when_, I 0, I 0, I 0, I 0, S (⟨#[]⟩), S (⟨#[]⟩), I 0, S (⟨#[]⟩)])] rfl (Le.c rfl <| Le.c rfl <| Le.c rfl <| Le.e) ?_
  refine CW.seq ?_
  refine CW.region ?_
  refine RW.v rfl (V.field rfl rfl rfl rfl (by decide) rfl) ?_
  refine RW.v rfl (V.loadPrim (d := I a.index) rfl rfl (.inl rfl) rfl rfl rfl) ?_
  refine RW.v rfl (V.field rfl rfl rfl rfl (by decide) rfl) ?_
  refine RW.store (d := I a.index) rfl rfl rfl rfl rfl rfl rfl (Nat.le_of_ble_eq_true rfl) rfl rfl ?_
  refine RW.nil ?_
  refine CW.le [(1, .obj b1 ((Reply.c a).map .r)), (2, .obj b2 [I 0, I 0, I 0, I 0, I 0, I 0, S (⟨#[]⟩), S (⟨#[]⟩), I 0, S (⟨#[]⟩)]), (3, .obj b3 [I a.call, I a.when_, I a.index, I 0, I 0, I 0, S (⟨#[]⟩), S (⟨#[]⟩), I 0, S (⟨#[]⟩)])] rfl (Le.c rfl <| Le.c rfl <| Le.c rfl <| Le.e) ?_
  refine CW.seq ?_
  refine CW.region ?_
  refine RW.v rfl (V.field rfl rfl rfl rfl (by decide) rfl) ?_
  refine RW.v rfl (V.loadAgg rfl rfl rfl rfl rfl (Nat.le_of_ble_eq_true rfl)) ?_
  refine RW.call rfl (laws_toCommand_fn a.command) rfl (.cons (.agg (.cons (.r .r) (.cons (.r .r) (.cons (.r .r) (.cons (.r .r) (.cons (.r .r) (.cons (.r .r) (.nil)))))))) (.nil)) fun g4 => ?_
  refine RW.v rfl (V.field rfl rfl rfl rfl (by decide) rfl) ?_
  refine RW.storeAgg (es := ((Command.c a.command).map .r)) rfl rfl rfl rfl rfl rfl rfl rfl (Nat.le_of_ble_eq_true rfl) rfl ?_
  refine RW.nil ?_
  refine CW.le [(1, .obj b1 ((Reply.c a).map .r)), (2, .obj b2 [I 0, I 0, I 0, I 0, I 0, I 0, S (⟨#[]⟩), S (⟨#[]⟩), I 0, S (⟨#[]⟩)]), (3, .obj b3 [I a.call, I a.when_, I a.index, I a.command.op, I a.command.token, I a.command.seq, S a.command.key, S a.command.val, I a.command.ver, S (⟨#[]⟩)])] rfl (Le.c rfl <| Le.c rfl <| Le.c rfl <| Le.e) ?_
  refine CW.seq ?_
  refine CW.region ?_
  refine RW.v rfl (V.field rfl rfl rfl rfl (by decide) rfl) ?_
  refine RW.v rfl (V.loadPrim (d := S a.text) rfl rfl (.inl rfl) rfl rfl rfl) ?_
  refine RW.v rfl (V.field rfl rfl rfl rfl (by decide) rfl) ?_
  refine RW.store (d := S a.text) rfl rfl rfl rfl rfl rfl rfl (Nat.le_of_ble_eq_true rfl) rfl rfl ?_
  refine RW.nil ?_
  refine CW.le [(2, .obj b2 [I 0, I 0, I 0, I 0, I 0, I 0, S (⟨#[]⟩), S (⟨#[]⟩), I 0, S (⟨#[]⟩)]), (3, .obj b3 ((Reply.c a).map .r))] rfl (Le.c rfl <| Le.c rfl <| Le.e) ?_
  refine CW.seq ?_
  refine CW.region ?_
  refine RW.v rfl (V.loadAgg rfl rfl rfl rfl rfl (Nat.le_of_ble_eq_true rfl)) ?_
  refine RW.storeAgg (es := ((Reply.c a).map .r)) rfl rfl rfl rfl rfl rfl rfl rfl (Nat.le_of_ble_eq_true rfl) rfl ?_
  refine RW.nil ?_
  refine CW.le [(2, .obj b2 ((Reply.c a).map .r))] rfl (Le.c rfl <| Le.e) ?_
  refine CW.ret ?_
  exact Post.cell rfl rfl rfl rfl (DT.v (DT.v (DT.v (DT.v (DT.v (DT.v (DT.v (DT.v (DT.v (DT.v DT.e)))))))))) (AOs.a rfl AOs.e)
theorem laws_toReplyS_fn (a : List Reply) (hm : a.length ≤ 1048576) : Eng.Fn E.P 16 [.one (.r (sl 10 Reply.c a))] (.one (.one (.w (sl 10 Reply.c a)))) [.one (.r (sl 10 Reply.c a))] := by
  refine Eng.Fn.intro (E := E) (rvs := [.tmp 2]) Try.func16 rfl rfl rfl (by simp [outSlots, moved, rvSlot]) ?_
  intro B g bo
  refine CW.bound (x := .tmp 0) (n := a.length) (AsT.r) (fun hl0 => ?_)
  refine CW.le [(0, .r (sl 10 Reply.c a))] rfl (Le.c rfl <| Le.e) ?_
  refine CW.seq ?_
  refine CW.region ?_
  refine RW.v rfl (V.as (d := .r (.v (.slice none 0 0))) rfl rfl) ?_
  refine RW.nil ?_
  refine CW.le [(0, .r (sl 10 Reply.c a))] rfl (Le.c rfl <| Le.e) ?_
  refine CW.seq ?_
  refine CW.region ?_
  refine RW.v rfl (V.mv (d := .r (sl 10 Reply.c a)) rfl rfl) ?_
  refine RW.v rfl (V.lenT (n := a.length) rfl rfl rfl .r) ?_
  refine RW.makeS (n := a.length) (c := Reply.c) Reply.z rfl rfl rfl rfl rfl rfl rfl rfl rfl (by show 104 * a.length ≤ 281474976710656; omega) (by simp only [maxLen]; omega) fun X1 => ?_
  refine RW.assignMove rfl rfl rfl (by decide) (Nat.le_of_ble_eq_true rfl) (Nat.le_of_ble_eq_true rfl) ?_
  refine RW.nil ?_
  refine CW.le [(0, .r (sl 10 Reply.c a)), (3, .w (sl 10 Reply.c (List.replicate a.length Reply.z)) X1)] rfl (Le.c rfl <| Le.c rfl <| Le.e) ?_
  refine CW.seq ?_
  refine CW.seq ?_
  refine CW.region ?_
  refine RW.v rfl (V.as (d := I 0) rfl rfl) ?_
  refine RW.nil ?_
  refine CW.le [(0, .r (sl 10 Reply.c a)), (3, .w (sl 10 Reply.c (List.replicate a.length Reply.z)) X1), (4, I 0)] rfl (Le.c rfl <| Le.c rfl <| Le.c rfl <| Le.e) ?_
  refine CW.block ?_
  refine CW.loopI 23 (fun (i : Nat) => [(0, .r (sl 10 Reply.c a)), (3, .w (sl 10 Reply.c (a.take i ++ List.replicate (a.length - i) Reply.z)) X1), (4, I (i : Int))]) (fun (i : Nat) => i ≤ a.length) (fun (i : Nat) => a.length - i) 0 rfl (Le.c rfl <| Le.c rfl <| Le.c rfl <| Le.e) (by omega) ?_
  rintro i hb
  refine CW.seq ?_
  refine CW.seq ?_
  refine CW.region ?_
  refine RW.v rfl (V.mv (d := I (i : Int)) rfl rfl) ?_
  refine RW.v rfl (V.mv (d := .r (sl 10 Reply.c a)) rfl rfl) ?_
  refine RW.v rfl (V.lenT (n := a.length) rfl rfl rfl .r) ?_
  refine RW.v rfl (V.cmpInt rfl rfl rfl rfl) ?_
  refine RW.nil ?_
  refine CW.le [(0, .r (sl 10 Reply.c a)), (3, .w (sl 10 Reply.c (a.take i ++ List.replicate (a.length - i) Reply.z)) X1), (4, I (i : Int)), (11, Bo (decide ((i : Int) < (a.length : Int))))] rfl (Le.c rfl <| Le.c rfl <| Le.c rfl <| Le.c rfl <| Le.e) ?_
  refine CW.cond rfl (fun h2 => ?_) (fun h2 => ?_)
  · skip
    have hii : i < a.length := by have := h2; simp at this; first | exact this | (simp; omega)
    obtain ⟨ei, hei⟩ : ∃ e, a[i]? = some e := ⟨_, List.getElem?_eq_getElem hii⟩
    have hdi := drop_get hei
    refine CW.skip ?_
    refine CW.le [(0, .r (sl 10 Reply.c a)), (3, .w (sl 10 Reply.c (a.take i ++ List.replicate (a.length - i) Reply.z)) X1), (4, I (i : Int))] rfl (Le.c rfl <| Le.c rfl <| Le.c rfl <| Le.e) ?_
    refine CW.seq ?_
    refine CW.block ?_
    refine CW.region ?_
    refine RW.v rfl (V.mv (d := .al 3 none 10 ((a.take i ++ List.replicate (a.length - i) Reply.z).length) X1 0) rfl rfl) ?_
    refine RW.v rfl (V.mv (d := I (i : Int)) rfl rfl) ?_
    refine RW.v rfl (V.mv (d := .r (sl 10 Reply.c a)) rfl rfl) ?_
    refine RW.v rfl (V.mv (d := I (i : Int)) rfl rfl) ?_
    refine RW.v rfl (V.indexS rfl rfl rfl rfl rfl rfl Reply.len hei) ?_
    refine RW.v rfl (V.loadAggR rfl rfl rfl rfl (Nat.le_of_ble_eq_true rfl)) ?_
    refine RW.call rfl (laws_toReply_fn ei) rfl (.cons (.agg (.cons (.r .r) (.cons (.r .r) (.cons (.r .r) (.cons (.r .r) (.cons (.r .r) (.cons (.r .r) (.cons (.r .r) (.cons (.r .r) (.cons (.r .r) (.cons (.r .r) (.nil)))))))))))) (.nil)) fun g3 => ?_
    refine RW.v rfl (V.indexW rfl rfl rfl rfl rfl rfl rfl (by simp; omega)) ?_
    refine RW.storeS (v := ei) rfl rfl rfl rfl rfl rfl rfl (DW.v (DW.v (DW.v (DW.v (DW.v (DW.v (DW.v (DW.v (DW.v (DW.v DW.e)))))))))) Reply.len (by decide) (by simp; omega) rfl ?_
    refine RW.nil ?_
    refine CW.le [(0, .r (sl 10 Reply.c a)), (3, .w (sl 10 Reply.c ((a.take i ++ List.replicate (a.length - i) Reply.z).set i ei)) X1), (4, I (i : Int))] rfl (Le.c rfl <| Le.c rfl <| Le.c rfl <| Le.e) ?_
    refine CW.region ?_
    refine RW.v rfl (V.mv (d := I (i : Int)) rfl rfl) ?_
    refine RW.v rfl (V.inc rfl rfl rfl hii hl0) ?_
    refine RW.v rfl (V.as (d := I ((i + 1 : Nat) : Int)) rfl rfl) ?_
    refine RW.nil ?_
    exact ⟨i + 1, by omega, by omega, rfl, Le.c rfl <| Le.c (congrArg (fun l => D.w (sl _ Reply.c l) X1) (take_set hei)) <| Le.c rfl <| Le.e⟩
  · skip
    have hii : a.length ≤ i := by have := h2; simp at this; first | exact this | (simp; omega)
    have hdi : a.drop i = [] := List.drop_eq_nil_of_le hii
    refine CW.exit ?_
    refine CW.le [(3, .w (sl 10 Reply.c (a.take i ++ List.replicate (a.length - i) Reply.z)) X1)] rfl (Le.c rfl <| Le.e) ?_
    refine CW.seq ?_
    refine CW.region ?_
    refine RW.v rfl (V.mv (d := .al 3 none 10 ((a.take i ++ List.replicate (a.length - i) Reply.z).length) X1 0) rfl rfl) ?_
    refine RW.v rfl (V.as (d := .al 3 none 10 ((a.take i ++ List.replicate (a.length - i) Reply.z).length) X1 0) rfl rfl) ?_
    refine RW.nil ?_
    refine CW.le [(2, .al 3 none 10 ((a.take i ++ List.replicate (a.length - i) Reply.z).length) X1 0), (3, .w (sl 10 Reply.c (a.take i ++ List.replicate (a.length - i) Reply.z)) X1)] rfl (Le.c rfl <| Le.c rfl <| Le.e) ?_
    refine CW.pull 2 3 (by decide) rfl rfl ?_
    refine CW.ret ?_
    exact Post.own rfl (by rw [List.take_of_length_le hii, show a.length - i = 0 from by omega]; simp) (AOs.r AOs.e)
theorem laws_eqCommand_fn (a : Command) (b : Command) : Eng.Fn E.P 61 [.agg ((Command.c a).map .r), .agg ((Command.c b).map .r)] (.one (.one (.w (.v (.bool (eqCommand a b)))))) [.agg ((Command.c a).map .r), .agg ((Command.c b).map .r)] := by
  refine Eng.Fn.intro (E := E) (rvs := [.tmp 4]) Try.func61 rfl rfl rfl (by simp [outSlots, moved, rvSlot]) ?_
  intro B g bo
  refine CW.le [(0, .agg ((Command.c a).map .r)), (1, .agg ((Command.c b).map .r))] rfl (Le.c rfl <| Le.c rfl <| Le.e) ?_
  refine CW.seq ?_
  refine CW.region ?_
  refine RW.box (ds := ((Command.c a).map .r)) rfl rfl rfl fun b1 => ?_
  refine RW.box (ds := ((Command.c b).map .r)) rfl rfl rfl fun b2 => ?_
  refine RW.v rfl (V.as (d := Bo false) rfl rfl) ?_
  refine RW.nil ?_
  refine CW.le [(2, .obj b1 ((Command.c a).map .r)), (3, .obj b2 ((Command.c b).map .r))] rfl (Le.c rfl <| Le.c rfl <| Le.e) ?_
  refine CW.seq ?_
  refine CW.seq ?_
  refine CW.region ?_
  refine RW.v rfl (V.field rfl rfl rfl rfl (by decide) rfl) ?_
  refine RW.v rfl (V.loadPrim (d := I a.op) rfl rfl (.inl rfl) rfl rfl rfl) ?_
  refine RW.v rfl (V.field rfl rfl rfl rfl (by decide) rfl) ?_
  refine RW.v rfl (V.loadPrim (d := I b.op) rfl rfl (.inl rfl) rfl rfl rfl) ?_
  refine RW.v rfl (V.cmpInt rfl rfl rfl rfl) ?_
  refine RW.nil ?_
  refine CW.le [(2, .obj b1 ((Command.c a).map .r)), (3, .obj b2 ((Command.c b).map .r)), (9, Bo (a.op != b.op))] rfl (Le.c rfl <| Le.c rfl <| Le.c rfl <| Le.e) ?_
  refine CW.cond rfl (fun h3 => ?_) (fun h3 => ?_)
  · skip
    refine CW.seq ?_
    refine CW.region ?_
    refine RW.v rfl (V.as (d := Bo false) rfl rfl) ?_
    refine RW.nil ?_
    refine CW.le [(4, Bo false)] rfl (Le.c rfl <| Le.e) ?_
    refine CW.ret ?_
    exact Post.bool rfl (by simp_all [eqCommand]) (AOs.a rfl (AOs.a rfl AOs.e))
  · skip
    refine CW.skip ?_
    refine CW.le [(2, .obj b1 ((Command.c a).map .r)), (3, .obj b2 ((Command.c b).map .r))] rfl (Le.c rfl <| Le.c rfl <| Le.e) ?_
    refine CW.seq ?_
    refine CW.seq ?_
    refine CW.region ?_
    refine RW.v rfl (V.field rfl rfl rfl rfl (by decide) rfl) ?_
    refine RW.v rfl (V.loadPrim (d := I a.token) rfl rfl (.inl rfl) rfl rfl rfl) ?_
    refine RW.v rfl (V.field rfl rfl rfl rfl (by decide) rfl) ?_
    refine RW.v rfl (V.loadPrim (d := I b.token) rfl rfl (.inl rfl) rfl rfl rfl) ?_
    refine RW.v rfl (V.cmpInt rfl rfl rfl rfl) ?_
    refine RW.nil ?_
    refine CW.le [(2, .obj b1 ((Command.c a).map .r)), (3, .obj b2 ((Command.c b).map .r)), (14, Bo (a.token != b.token))] rfl (Le.c rfl <| Le.c rfl <| Le.c rfl <| Le.e) ?_
    refine CW.cond rfl (fun h4 => ?_) (fun h4 => ?_)
    · skip
      refine CW.seq ?_
      refine CW.region ?_
      refine RW.v rfl (V.as (d := Bo false) rfl rfl) ?_
      refine RW.nil ?_
      refine CW.le [(4, Bo false)] rfl (Le.c rfl <| Le.e) ?_
      refine CW.ret ?_
      exact Post.bool rfl (by simp_all [eqCommand]) (AOs.a rfl (AOs.a rfl AOs.e))
    · skip
      refine CW.skip ?_
      refine CW.le [(2, .obj b1 ((Command.c a).map .r)), (3, .obj b2 ((Command.c b).map .r))] rfl (Le.c rfl <| Le.c rfl <| Le.e) ?_
      refine CW.seq ?_
      refine CW.seq ?_
      refine CW.region ?_
      refine RW.v rfl (V.field rfl rfl rfl rfl (by decide) rfl) ?_
      refine RW.v rfl (V.loadPrim (d := I a.seq) rfl rfl (.inl rfl) rfl rfl rfl) ?_
      refine RW.v rfl (V.field rfl rfl rfl rfl (by decide) rfl) ?_
      refine RW.v rfl (V.loadPrim (d := I b.seq) rfl rfl (.inl rfl) rfl rfl rfl) ?_
      refine RW.v rfl (V.cmpInt rfl rfl rfl rfl) ?_
      refine RW.nil ?_
      refine CW.le [(2, .obj b1 ((Command.c a).map .r)), (3, .obj b2 ((Command.c b).map .r)), (19, Bo (a.seq != b.seq))] rfl (Le.c rfl <| Le.c rfl <| Le.c rfl <| Le.e) ?_
      refine CW.cond rfl (fun h5 => ?_) (fun h5 => ?_)
      · skip
        refine CW.seq ?_
        refine CW.region ?_
        refine RW.v rfl (V.as (d := Bo false) rfl rfl) ?_
        refine RW.nil ?_
        refine CW.le [(4, Bo false)] rfl (Le.c rfl <| Le.e) ?_
        refine CW.ret ?_
        exact Post.bool rfl (by simp_all [eqCommand]) (AOs.a rfl (AOs.a rfl AOs.e))
      · skip
        refine CW.skip ?_
        refine CW.le [(2, .obj b1 ((Command.c a).map .r)), (3, .obj b2 ((Command.c b).map .r))] rfl (Le.c rfl <| Le.c rfl <| Le.e) ?_
        refine CW.seq ?_
        refine CW.seq ?_
        refine CW.region ?_
        refine RW.v rfl (V.field rfl rfl rfl rfl (by decide) rfl) ?_
        refine RW.v rfl (V.loadPrim (d := S a.key) rfl rfl (.inl rfl) rfl rfl rfl) ?_
        refine RW.v rfl (V.field rfl rfl rfl rfl (by decide) rfl) ?_
        refine RW.v rfl (V.loadPrim (d := S b.key) rfl rfl (.inl rfl) rfl rfl rfl) ?_
        refine RW.v rfl (V.strCmp rfl rfl rfl rfl) ?_
        refine RW.nil ?_
        refine CW.le [(2, .obj b1 ((Command.c a).map .r)), (3, .obj b2 ((Command.c b).map .r)), (24, Bo (!(a.key.toList == b.key.toList)))] rfl (Le.c rfl <| Le.c rfl <| Le.c rfl <| Le.e) ?_
        refine CW.cond rfl (fun h6 => ?_) (fun h6 => ?_)
        · skip
          refine CW.seq ?_
          refine CW.region ?_
          refine RW.v rfl (V.as (d := Bo false) rfl rfl) ?_
          refine RW.nil ?_
          refine CW.le [(4, Bo false)] rfl (Le.c rfl <| Le.e) ?_
          refine CW.ret ?_
          exact Post.bool rfl (by simp_all [eqCommand]) (AOs.a rfl (AOs.a rfl AOs.e))
        · skip
          refine CW.skip ?_
          refine CW.le [(2, .obj b1 ((Command.c a).map .r)), (3, .obj b2 ((Command.c b).map .r))] rfl (Le.c rfl <| Le.c rfl <| Le.e) ?_
          refine CW.seq ?_
          refine CW.seq ?_
          refine CW.region ?_
          refine RW.v rfl (V.field rfl rfl rfl rfl (by decide) rfl) ?_
          refine RW.v rfl (V.loadPrim (d := S a.val) rfl rfl (.inl rfl) rfl rfl rfl) ?_
          refine RW.v rfl (V.field rfl rfl rfl rfl (by decide) rfl) ?_
          refine RW.v rfl (V.loadPrim (d := S b.val) rfl rfl (.inl rfl) rfl rfl rfl) ?_
          refine RW.v rfl (V.strCmp rfl rfl rfl rfl) ?_
          refine RW.nil ?_
          refine CW.le [(2, .obj b1 ((Command.c a).map .r)), (3, .obj b2 ((Command.c b).map .r)), (29, Bo (!(a.val.toList == b.val.toList)))] rfl (Le.c rfl <| Le.c rfl <| Le.c rfl <| Le.e) ?_
          refine CW.cond rfl (fun h7 => ?_) (fun h7 => ?_)
          · skip
            refine CW.seq ?_
            refine CW.region ?_
            refine RW.v rfl (V.as (d := Bo false) rfl rfl) ?_
            refine RW.nil ?_
            refine CW.le [(4, Bo false)] rfl (Le.c rfl <| Le.e) ?_
            refine CW.ret ?_
            exact Post.bool rfl (by simp_all [eqCommand]) (AOs.a rfl (AOs.a rfl AOs.e))
          · skip
            refine CW.skip ?_
            refine CW.le [(2, .obj b1 ((Command.c a).map .r)), (3, .obj b2 ((Command.c b).map .r))] rfl (Le.c rfl <| Le.c rfl <| Le.e) ?_
            refine CW.seq ?_
            refine CW.seq ?_
            refine CW.region ?_
            refine RW.v rfl (V.field rfl rfl rfl rfl (by decide) rfl) ?_
            refine RW.v rfl (V.loadPrim (d := I a.ver) rfl rfl (.inl rfl) rfl rfl rfl) ?_
            refine RW.v rfl (V.field rfl rfl rfl rfl (by decide) rfl) ?_
            refine RW.v rfl (V.loadPrim (d := I b.ver) rfl rfl (.inl rfl) rfl rfl rfl) ?_
            refine RW.v rfl (V.cmpInt rfl rfl rfl rfl) ?_
            refine RW.nil ?_
            refine CW.le [(34, Bo (a.ver != b.ver))] rfl (Le.c rfl <| Le.e) ?_
            refine CW.cond rfl (fun h8 => ?_) (fun h8 => ?_)
            · skip
              refine CW.seq ?_
              refine CW.region ?_
              refine RW.v rfl (V.as (d := Bo false) rfl rfl) ?_
              refine RW.nil ?_
              refine CW.le [(4, Bo false)] rfl (Le.c rfl <| Le.e) ?_
              refine CW.ret ?_
              exact Post.bool rfl (by simp_all [eqCommand]) (AOs.a rfl (AOs.a rfl AOs.e))
            · skip
              refine CW.skip ?_
              refine CW.le [] rfl (Le.e) ?_
              refine CW.seq ?_
              refine CW.region ?_
              refine RW.v rfl (V.as (d := Bo true) rfl rfl) ?_
              refine RW.nil ?_
              refine CW.le [(4, Bo true)] rfl (Le.c rfl <| Le.e) ?_
              refine CW.ret ?_
              exact Post.bool rfl (by simp_all [eqCommand]) (AOs.a rfl (AOs.a rfl AOs.e))
theorem laws_eqReply_fn (a : Reply) (b : Reply) : Eng.Fn E.P 42 [.agg ((Reply.c a).map .r), .agg ((Reply.c b).map .r)] (.one (.one (.w (.v (.bool (eqReply a b)))))) [.agg ((Reply.c a).map .r), .agg ((Reply.c b).map .r)] := by
  refine Eng.Fn.intro (E := E) (rvs := [.tmp 4]) Try.func42 rfl rfl rfl (by simp [outSlots, moved, rvSlot]) ?_
  intro B g bo
  refine CW.le [(0, .agg ((Reply.c a).map .r)), (1, .agg ((Reply.c b).map .r))] rfl (Le.c rfl <| Le.c rfl <| Le.e) ?_
  refine CW.seq ?_
  refine CW.region ?_
  refine RW.box (ds := ((Reply.c a).map .r)) rfl rfl rfl fun b1 => ?_
  refine RW.box (ds := ((Reply.c b).map .r)) rfl rfl rfl fun b2 => ?_
  refine RW.v rfl (V.as (d := Bo false) rfl rfl) ?_
  refine RW.nil ?_
  refine CW.le [(2, .obj b1 ((Reply.c a).map .r)), (3, .obj b2 ((Reply.c b).map .r))] rfl (Le.c rfl <| Le.c rfl <| Le.e) ?_
  refine CW.seq ?_
  refine CW.seq ?_
  refine CW.region ?_
  refine RW.v rfl (V.field rfl rfl rfl rfl (by decide) rfl) ?_
  refine RW.v rfl (V.loadPrim (d := I a.call) rfl rfl (.inl rfl) rfl rfl rfl) ?_
  refine RW.v rfl (V.field rfl rfl rfl rfl (by decide) rfl) ?_
  refine RW.v rfl (V.loadPrim (d := I b.call) rfl rfl (.inl rfl) rfl rfl rfl) ?_
  refine RW.v rfl (V.cmpInt rfl rfl rfl rfl) ?_
  refine RW.nil ?_
  refine CW.le [(2, .obj b1 ((Reply.c a).map .r)), (3, .obj b2 ((Reply.c b).map .r)), (9, Bo (a.call != b.call))] rfl (Le.c rfl <| Le.c rfl <| Le.c rfl <| Le.e) ?_
  refine CW.cond rfl (fun h3 => ?_) (fun h3 => ?_)
  · skip
    refine CW.seq ?_
    refine CW.region ?_
    refine RW.v rfl (V.as (d := Bo false) rfl rfl) ?_
    refine RW.nil ?_
    refine CW.le [(4, Bo false)] rfl (Le.c rfl <| Le.e) ?_
    refine CW.ret ?_
    exact Post.bool rfl (by simp_all [eqReply]) (AOs.a rfl (AOs.a rfl AOs.e))
  · skip
    refine CW.skip ?_
    refine CW.le [(2, .obj b1 ((Reply.c a).map .r)), (3, .obj b2 ((Reply.c b).map .r))] rfl (Le.c rfl <| Le.c rfl <| Le.e) ?_
    refine CW.seq ?_
    refine CW.seq ?_
    refine CW.region ?_
    refine RW.v rfl (V.field rfl rfl rfl rfl (by decide) rfl) ?_
    refine RW.v rfl (V.loadPrim (d := I a.when_) rfl rfl (.inl rfl) rfl rfl rfl) ?_
    refine RW.v rfl (V.field rfl rfl rfl rfl (by decide) rfl) ?_
    refine RW.v rfl (V.loadPrim (d := I b.when_) rfl rfl (.inl rfl) rfl rfl rfl) ?_
    refine RW.v rfl (V.cmpInt rfl rfl rfl rfl) ?_
    refine RW.nil ?_
    refine CW.le [(2, .obj b1 ((Reply.c a).map .r)), (3, .obj b2 ((Reply.c b).map .r)), (14, Bo (a.when_ != b.when_))] rfl (Le.c rfl <| Le.c rfl <| Le.c rfl <| Le.e) ?_
    refine CW.cond rfl (fun h4 => ?_) (fun h4 => ?_)
    · skip
      refine CW.seq ?_
      refine CW.region ?_
      refine RW.v rfl (V.as (d := Bo false) rfl rfl) ?_
      refine RW.nil ?_
      refine CW.le [(4, Bo false)] rfl (Le.c rfl <| Le.e) ?_
      refine CW.ret ?_
      exact Post.bool rfl (by simp_all [eqReply]) (AOs.a rfl (AOs.a rfl AOs.e))
    · skip
      refine CW.skip ?_
      refine CW.le [(2, .obj b1 ((Reply.c a).map .r)), (3, .obj b2 ((Reply.c b).map .r))] rfl (Le.c rfl <| Le.c rfl <| Le.e) ?_
      refine CW.seq ?_
      refine CW.seq ?_
      refine CW.region ?_
      refine RW.v rfl (V.field rfl rfl rfl rfl (by decide) rfl) ?_
      refine RW.v rfl (V.loadPrim (d := I a.index) rfl rfl (.inl rfl) rfl rfl rfl) ?_
      refine RW.v rfl (V.field rfl rfl rfl rfl (by decide) rfl) ?_
      refine RW.v rfl (V.loadPrim (d := I b.index) rfl rfl (.inl rfl) rfl rfl rfl) ?_
      refine RW.v rfl (V.cmpInt rfl rfl rfl rfl) ?_
      refine RW.nil ?_
      refine CW.le [(2, .obj b1 ((Reply.c a).map .r)), (3, .obj b2 ((Reply.c b).map .r)), (19, Bo (a.index != b.index))] rfl (Le.c rfl <| Le.c rfl <| Le.c rfl <| Le.e) ?_
      refine CW.cond rfl (fun h5 => ?_) (fun h5 => ?_)
      · skip
        refine CW.seq ?_
        refine CW.region ?_
        refine RW.v rfl (V.as (d := Bo false) rfl rfl) ?_
        refine RW.nil ?_
        refine CW.le [(4, Bo false)] rfl (Le.c rfl <| Le.e) ?_
        refine CW.ret ?_
        exact Post.bool rfl (by simp_all [eqReply]) (AOs.a rfl (AOs.a rfl AOs.e))
      · skip
        refine CW.skip ?_
        refine CW.le [(2, .obj b1 ((Reply.c a).map .r)), (3, .obj b2 ((Reply.c b).map .r))] rfl (Le.c rfl <| Le.c rfl <| Le.e) ?_
        refine CW.seq ?_
        refine CW.seq ?_
        refine CW.region ?_
        refine RW.v rfl (V.field rfl rfl rfl rfl (by decide) rfl) ?_
        refine RW.v rfl (V.loadAgg rfl rfl rfl rfl rfl (Nat.le_of_ble_eq_true rfl)) ?_
        refine RW.v rfl (V.field rfl rfl rfl rfl (by decide) rfl) ?_
        refine RW.v rfl (V.loadAgg rfl rfl rfl rfl rfl (Nat.le_of_ble_eq_true rfl)) ?_
        refine RW.call rfl (laws_eqCommand_fn a.command b.command) rfl (.cons (.agg (.cons (.r .r) (.cons (.r .r) (.cons (.r .r) (.cons (.r .r) (.cons (.r .r) (.cons (.r .r) (.nil)))))))) (.cons (.agg (.cons (.r .r) (.cons (.r .r) (.cons (.r .r) (.cons (.r .r) (.cons (.r .r) (.cons (.r .r) (.nil)))))))) (.nil))) fun g6 => ?_
        refine RW.v rfl (V.not rfl rfl) ?_
        refine RW.nil ?_
        refine CW.le [(2, .obj b1 ((Reply.c a).map .r)), (3, .obj b2 ((Reply.c b).map .r)), (25, Bo (!(eqCommand a.command b.command)))] rfl (Le.c rfl <| Le.c rfl <| Le.c rfl <| Le.e) ?_
        refine CW.cond rfl (fun h7 => ?_) (fun h7 => ?_)
        · skip
          refine CW.seq ?_
          refine CW.region ?_
          refine RW.v rfl (V.as (d := Bo false) rfl rfl) ?_
          refine RW.nil ?_
          refine CW.le [(4, Bo false)] rfl (Le.c rfl <| Le.e) ?_
          refine CW.ret ?_
          exact Post.bool rfl (by simp_all [eqReply]) (AOs.a rfl (AOs.a rfl AOs.e))
        · skip
          refine CW.skip ?_
          refine CW.le [(2, .obj b1 ((Reply.c a).map .r)), (3, .obj b2 ((Reply.c b).map .r))] rfl (Le.c rfl <| Le.c rfl <| Le.e) ?_
          refine CW.seq ?_
          refine CW.seq ?_
          refine CW.region ?_
          refine RW.v rfl (V.field rfl rfl rfl rfl (by decide) rfl) ?_
          refine RW.v rfl (V.loadPrim (d := S a.text) rfl rfl (.inl rfl) rfl rfl rfl) ?_
          refine RW.v rfl (V.field rfl rfl rfl rfl (by decide) rfl) ?_
          refine RW.v rfl (V.loadPrim (d := S b.text) rfl rfl (.inl rfl) rfl rfl rfl) ?_
          refine RW.v rfl (V.strCmp rfl rfl rfl rfl) ?_
          refine RW.nil ?_
          refine CW.le [(30, Bo (!(a.text.toList == b.text.toList)))] rfl (Le.c rfl <| Le.e) ?_
          refine CW.cond rfl (fun h8 => ?_) (fun h8 => ?_)
          · skip
            refine CW.seq ?_
            refine CW.region ?_
            refine RW.v rfl (V.as (d := Bo false) rfl rfl) ?_
            refine RW.nil ?_
            refine CW.le [(4, Bo false)] rfl (Le.c rfl <| Le.e) ?_
            refine CW.ret ?_
            exact Post.bool rfl (by simp_all [eqReply]) (AOs.a rfl (AOs.a rfl AOs.e))
          · skip
            refine CW.skip ?_
            refine CW.le [] rfl (Le.e) ?_
            refine CW.seq ?_
            refine CW.region ?_
            refine RW.v rfl (V.as (d := Bo true) rfl rfl) ?_
            refine RW.nil ?_
            refine CW.le [(4, Bo true)] rfl (Le.c rfl <| Le.e) ?_
            refine CW.ret ?_
            exact Post.bool rfl (by simp_all [eqReply]) (AOs.a rfl (AOs.a rfl AOs.e))
theorem laws_eqReplyS_fn (a : List Reply) (b : List Reply) : Eng.Fn E.P 18 [.one (.r (sl 10 Reply.c a)), .one (.r (sl 10 Reply.c b))] (.one (.one (.w (.v (.bool (eqS eqReply a b)))))) [.one (.r (sl 10 Reply.c a)), .one (.r (sl 10 Reply.c b))] := by
  refine Eng.Fn.intro (E := E) (rvs := [.tmp 4]) Try.func18 rfl rfl rfl (by simp [outSlots, moved, rvSlot]) ?_
  intro B g bo
  refine CW.bound (x := .tmp 0) (n := a.length) (AsT.r) (fun hl0 => ?_)
  refine CW.bound (x := .tmp 1) (n := b.length) (AsT.r) (fun hl1 => ?_)
  refine CW.le [(0, .r (sl 10 Reply.c a)), (1, .r (sl 10 Reply.c b))] rfl (Le.c rfl <| Le.c rfl <| Le.e) ?_
  refine CW.seq ?_
  refine CW.region ?_
  refine RW.v rfl (V.as (d := Bo false) rfl rfl) ?_
  refine RW.nil ?_
  refine CW.le [(0, .r (sl 10 Reply.c a)), (1, .r (sl 10 Reply.c b))] rfl (Le.c rfl <| Le.c rfl <| Le.e) ?_
  refine CW.seq ?_
  refine CW.seq ?_
  refine CW.region ?_
  refine RW.v rfl (V.mv (d := .r (sl 10 Reply.c a)) rfl rfl) ?_
  refine RW.v rfl (V.lenT (n := a.length) rfl rfl rfl .r) ?_
  refine RW.v rfl (V.mv (d := .r (sl 10 Reply.c b)) rfl rfl) ?_
  refine RW.v rfl (V.lenT (n := b.length) rfl rfl rfl .r) ?_
  refine RW.v rfl (V.cmpInt rfl rfl rfl rfl) ?_
  refine RW.nil ?_
  refine CW.le [(0, .r (sl 10 Reply.c a)), (1, .r (sl 10 Reply.c b)), (10, Bo ((a.length : Int) != (b.length : Int)))] rfl (Le.c rfl <| Le.c rfl <| Le.c rfl <| Le.e) ?_
  refine CW.cond rfl (fun h1 => ?_) (fun h1 => ?_)
  · skip
    refine CW.seq ?_
    refine CW.region ?_
    refine RW.v rfl (V.as (d := Bo false) rfl rfl) ?_
    refine RW.nil ?_
    refine CW.le [(4, Bo false)] rfl (Le.c rfl <| Le.e) ?_
    refine CW.ret ?_
    exact Post.bool rfl (by first | (simp_all [eqS, eqI, eqStr, eqB]; done) | exact (eqS_ne (by simp_all; omega)).symm) (AOs.r (AOs.r AOs.e))
  · skip
    refine CW.skip ?_
    refine CW.le [(0, .r (sl 10 Reply.c a)), (1, .r (sl 10 Reply.c b))] rfl (Le.c rfl <| Le.c rfl <| Le.e) ?_
    refine CW.seq ?_
    refine CW.seq ?_
    refine CW.region ?_
    refine RW.v rfl (V.as (d := I 0) rfl rfl) ?_
    refine RW.nil ?_
    refine CW.le [(0, .r (sl 10 Reply.c a)), (1, .r (sl 10 Reply.c b)), (5, I 0)] rfl (Le.c rfl <| Le.c rfl <| Le.c rfl <| Le.e) ?_
    refine CW.block ?_
    refine CW.loopI 27 (fun (i : Nat) => [(0, .r (sl 10 Reply.c a)), (1, .r (sl 10 Reply.c b)), (5, I (i : Int))]) (fun (i : Nat) => i ≤ a.length ∧ eqS eqReply (a.drop i) (b.drop i) = eqS eqReply a b) (fun (i : Nat) => a.length - i) 0 rfl (Le.c rfl <| Le.c rfl <| Le.c rfl <| Le.e) ⟨by omega, by simp⟩ ?_
    rintro i ⟨hb, hr⟩
    have hlen : a.length = b.length := by simp at h1; omega
    refine CW.seq ?_
    refine CW.seq ?_
    refine CW.region ?_
    refine RW.v rfl (V.mv (d := I (i : Int)) rfl rfl) ?_
    refine RW.v rfl (V.mv (d := .r (sl 10 Reply.c a)) rfl rfl) ?_
    refine RW.v rfl (V.lenT (n := a.length) rfl rfl rfl .r) ?_
    refine RW.v rfl (V.cmpInt rfl rfl rfl rfl) ?_
    refine RW.nil ?_
    refine CW.le [(0, .r (sl 10 Reply.c a)), (1, .r (sl 10 Reply.c b)), (5, I (i : Int)), (14, Bo (decide ((i : Int) < (a.length : Int))))] rfl (Le.c rfl <| Le.c rfl <| Le.c rfl <| Le.c rfl <| Le.e) ?_
    refine CW.cond rfl (fun h2 => ?_) (fun h2 => ?_)
    · skip
      have hii : i < a.length := by have := h2; simp at this; first | exact this | (simp; omega)
      obtain ⟨ei, hei⟩ : ∃ e, a[i]? = some e := ⟨_, List.getElem?_eq_getElem hii⟩
      have hdi := drop_get hei
      have hib : i < b.length := by omega
      obtain ⟨eb, heb⟩ : ∃ e, b[i]? = some e := ⟨_, List.getElem?_eq_getElem hib⟩
      have hdb := drop_get heb
      refine CW.skip ?_
      refine CW.le [(0, .r (sl 10 Reply.c a)), (1, .r (sl 10 Reply.c b)), (5, I (i : Int))] rfl (Le.c rfl <| Le.c rfl <| Le.c rfl <| Le.e) ?_
      refine CW.seq ?_
      refine CW.block ?_
      refine CW.seq ?_
      refine CW.drawn (by kernel_rfl) ?_
      refine RQ.v rfl (V.mv (d := .r (sl 10 Reply.c a)) rfl rfl) ?_
      refine RQ.v rfl (V.mv (d := I (i : Int)) rfl rfl) ?_
      refine RQ.v rfl (V.indexS rfl rfl rfl rfl rfl rfl Reply.len hei) ?_
      refine RQ.v rfl (V.loadAggR rfl rfl rfl rfl (Nat.le_of_ble_eq_true rfl)) ?_
      refine RQ.v rfl (V.mv (d := .r (sl 10 Reply.c b)) rfl rfl) ?_
      refine RQ.v rfl (V.mv (d := I (i : Int)) rfl rfl) ?_
      refine RQ.v rfl (V.indexS rfl rfl rfl rfl rfl rfl Reply.len heb) ?_
      refine RQ.v rfl (V.loadAggR rfl rfl rfl rfl (Nat.le_of_ble_eq_true rfl)) ?_
      refine RQ.cons rfl (QOK.call (laws_eqReply_fn ei eb) rfl (.cons (.agg (.cons (.r .r) (.cons (.r .r) (.cons (.r .r) (.cons (.r .r) (.cons (.r .r) (.cons (.r .r) (.cons (.r .r) (.cons (.r .r) (.cons (.r .r) (.cons (.r .r) (.nil)))))))))))) (.cons (.agg (.cons (.r .r) (.cons (.r .r) (.cons (.r .r) (.cons (.r .r) (.cons (.r .r) (.cons (.r .r) (.cons (.r .r) (.cons (.r .r) (.cons (.r .r) (.cons (.r .r) (.nil)))))))))))) (.nil))) ?_)
      refine RQ.v rfl (V.not rfl rfl) ?_
      refine RQ.nil ?_
      refine CW.le [(0, .r (sl 10 Reply.c a)), (1, .r (sl 10 Reply.c b)), (5, I (i : Int)), (26, Bo (!(eqReply ei eb)))] rfl (Le.c rfl <| Le.c rfl <| Le.c rfl <| Le.c rfl <| Le.e) ?_
      refine CW.cond rfl (fun h3 => ?_) (fun h3 => ?_)
      · skip
        refine CW.seq ?_
        refine CW.region ?_
        refine RW.v rfl (V.as (d := Bo false) rfl rfl) ?_
        refine RW.nil ?_
        refine CW.le [(4, Bo false)] rfl (Le.c rfl <| Le.e) ?_
        refine CW.ret ?_
        exact Post.bool rfl (by first | (simp_all [eqS, eqI, eqStr, eqB]; done) | exact (eqS_ne (by simp_all; omega)).symm) (AOs.r (AOs.r AOs.e))
      · skip
        refine CW.skip ?_
        refine CW.le [(0, .r (sl 10 Reply.c a)), (1, .r (sl 10 Reply.c b)), (5, I (i : Int))] rfl (Le.c rfl <| Le.c rfl <| Le.c rfl <| Le.e) ?_
        refine CW.region ?_
        refine RW.v rfl (V.mv (d := I (i : Int)) rfl rfl) ?_
        refine RW.v rfl (V.inc rfl rfl rfl hii hl0) ?_
        refine RW.v rfl (V.as (d := I ((i + 1 : Nat) : Int)) rfl rfl) ?_
        refine RW.nil ?_
        exact ⟨i + 1, by omega, ⟨by omega, by simp_all [eqS, eqI, eqStr, eqB]⟩, rfl, Le.c rfl <| Le.c rfl <| Le.c rfl <| Le.e⟩
    · skip
      have hii : a.length ≤ i := by have := h2; simp at this; first | exact this | (simp; omega)
      have hdi : a.drop i = [] := List.drop_eq_nil_of_le hii
      refine CW.exit ?_
      refine CW.le [] rfl (Le.e) ?_
      refine CW.seq ?_
      refine CW.region ?_
      refine RW.v rfl (V.as (d := Bo true) rfl rfl) ?_
      refine RW.nil ?_
      refine CW.le [(4, Bo true)] rfl (Le.c rfl <| Le.e) ?_
      refine CW.ret ?_
      exact Post.bool rfl (by rw [← hr, hdi, List.drop_eq_nil_of_le (show b.length ≤ i by omega)]; rfl) (AOs.r (AOs.r AOs.e))
theorem spec_l21Plain_fn (a : ByteArray) : Eng.Fn E.P 43 [.one (.r (.v (.string a)))] (.one (.one (.w (.v (.bool (plain a)))))) [.one (.r (.v (.string a)))] := by
  refine Eng.Fn.intro (E := E) (rvs := [.tmp 2]) Try.func43 rfl rfl rfl (by simp [outSlots, moved, rvSlot]) ?_
  intro B g bo
  refine CW.le [(0, S a)] rfl (Le.c rfl <| Le.e) ?_
  refine CW.seq ?_
  refine CW.region ?_
  refine RW.v rfl (V.as (d := Bo false) rfl rfl) ?_
  refine RW.nil ?_
  refine CW.le [(0, S a)] rfl (Le.c rfl <| Le.e) ?_
  refine CW.seqJ 13 (fun (v1 : Bool) => [(2, Bo v1)]) (fun v1 => v1 = (((a.toList == (⟨#[103, 97, 112]⟩ : ByteArray).toList) || (a.toList == (⟨#[110, 111, 110, 101]⟩ : ByteArray).toList)) || (a.toList == (⟨#[111, 108, 100]⟩ : ByteArray).toList))) ?_ ?_
  · refine CW.region ?_
    refine RW.v rfl (V.mv (d := S a) rfl rfl) ?_
    refine RW.v rfl (V.strCmp rfl rfl rfl rfl) ?_
    refine RW.v rfl (V.mv (d := Bo (a.toList == (⟨#[103, 97, 112]⟩ : ByteArray).toList)) rfl rfl) ?_
    refine RW.gv rfl rfl rfl rfl (fun h2 => V.mv (d := S a) rfl rfl) (fun h2 => ?_) (fun h2 => ?_)
    · skip
      refine RW.gt rfl rfl rfl rfl (V.strCmp rfl rfl rfl rfl) ?_
      refine RW.v rfl (V.pickF (d := Bo (a.toList == (⟨#[110, 111, 110, 101]⟩ : ByteArray).toList)) rfl rfl rfl) ?_
      refine RW.v rfl (V.mv (d := Bo (a.toList == (⟨#[110, 111, 110, 101]⟩ : ByteArray).toList)) rfl rfl) ?_
      refine RW.gv rfl rfl rfl rfl (fun h3 => V.mv (d := S a) rfl rfl) (fun h3 => ?_) (fun h3 => ?_)
      · skip
        refine RW.gt rfl rfl rfl rfl (V.strCmp rfl rfl rfl rfl) ?_
        refine RW.v rfl (V.pickF (d := Bo (a.toList == (⟨#[111, 108, 100]⟩ : ByteArray).toList)) rfl rfl rfl) ?_
        refine RW.v rfl (V.as (d := Bo (a.toList == (⟨#[111, 108, 100]⟩ : ByteArray).toList)) rfl rfl) ?_
        refine RW.nil ?_
        exact ⟨_, by first | rfl | (simp_all; done) | (simp_all; omega) | grind, rfl, Le.c rfl <| Le.e⟩
      · skip
        refine RW.guardF rfl rfl rfl rfl ?_
        refine RW.v rfl (V.pickT (d := Bo true) rfl rfl rfl) ?_
        refine RW.v rfl (V.as (d := Bo true) rfl rfl) ?_
        refine RW.nil ?_
        exact ⟨_, by first | rfl | (simp_all; done) | (simp_all; omega) | grind, rfl, Le.c rfl <| Le.e⟩
    · skip
      refine RW.guardF rfl rfl rfl rfl ?_
      refine RW.v rfl (V.pickT (d := Bo true) rfl rfl rfl) ?_
      refine RW.v rfl (V.mv (d := Bo true) rfl rfl) ?_
      refine RW.guardF rfl rfl rfl rfl ?_
      refine RW.guardF rfl rfl rfl rfl ?_
      refine RW.v rfl (V.pickT (d := Bo true) rfl rfl rfl) ?_
      refine RW.v rfl (V.as (d := Bo true) rfl rfl) ?_
      refine RW.nil ?_
      exact ⟨_, by first | rfl | (simp_all; done) | (simp_all; omega) | grind, rfl, Le.c rfl <| Le.e⟩
  · intro v1 hv4
    refine CW.ret ?_
    exact Post.bool rfl (by simp_all [plain, Bool.or_assoc]) (AOs.r AOs.e)
theorem impl_refusal_fn (a : ByteArray) : Eng.Fn E.P 44 [.one (.r (.v (.string a)))] (.one (.one (.w (.v (.bool (plain a)))))) [.one (.r (.v (.string a)))] := by
  refine Eng.Fn.intro (E := E) (rvs := [.tmp 2]) Try.func44 rfl rfl rfl (by simp [outSlots, moved, rvSlot]) ?_
  intro B g bo
  refine CW.le [(0, S a)] rfl (Le.c rfl <| Le.e) ?_
  refine CW.seq ?_
  refine CW.region ?_
  refine RW.v rfl (V.as (d := Bo false) rfl rfl) ?_
  refine RW.nil ?_
  refine CW.le [(0, S a)] rfl (Le.c rfl <| Le.e) ?_
  refine CW.seqJ 13 (fun (v1 : Bool) => [(2, Bo v1)]) (fun v1 => v1 = (((a.toList == (⟨#[103, 97, 112]⟩ : ByteArray).toList) || (a.toList == (⟨#[110, 111, 110, 101]⟩ : ByteArray).toList)) || (a.toList == (⟨#[111, 108, 100]⟩ : ByteArray).toList))) ?_ ?_
  · refine CW.region ?_
    refine RW.v rfl (V.mv (d := S a) rfl rfl) ?_
    refine RW.v rfl (V.strCmp rfl rfl rfl rfl) ?_
    refine RW.v rfl (V.mv (d := Bo (a.toList == (⟨#[103, 97, 112]⟩ : ByteArray).toList)) rfl rfl) ?_
    refine RW.gv rfl rfl rfl rfl (fun h2 => V.mv (d := S a) rfl rfl) (fun h2 => ?_) (fun h2 => ?_)
    · skip
      refine RW.gt rfl rfl rfl rfl (V.strCmp rfl rfl rfl rfl) ?_
      refine RW.v rfl (V.pickF (d := Bo (a.toList == (⟨#[110, 111, 110, 101]⟩ : ByteArray).toList)) rfl rfl rfl) ?_
      refine RW.v rfl (V.mv (d := Bo (a.toList == (⟨#[110, 111, 110, 101]⟩ : ByteArray).toList)) rfl rfl) ?_
      refine RW.gv rfl rfl rfl rfl (fun h3 => V.mv (d := S a) rfl rfl) (fun h3 => ?_) (fun h3 => ?_)
      · skip
        refine RW.gt rfl rfl rfl rfl (V.strCmp rfl rfl rfl rfl) ?_
        refine RW.v rfl (V.pickF (d := Bo (a.toList == (⟨#[111, 108, 100]⟩ : ByteArray).toList)) rfl rfl rfl) ?_
        refine RW.v rfl (V.as (d := Bo (a.toList == (⟨#[111, 108, 100]⟩ : ByteArray).toList)) rfl rfl) ?_
        refine RW.nil ?_
        exact ⟨_, by first | rfl | (simp_all; done) | (simp_all; omega) | grind, rfl, Le.c rfl <| Le.e⟩
      · skip
        refine RW.guardF rfl rfl rfl rfl ?_
        refine RW.v rfl (V.pickT (d := Bo true) rfl rfl rfl) ?_
        refine RW.v rfl (V.as (d := Bo true) rfl rfl) ?_
        refine RW.nil ?_
        exact ⟨_, by first | rfl | (simp_all; done) | (simp_all; omega) | grind, rfl, Le.c rfl <| Le.e⟩
    · skip
      refine RW.guardF rfl rfl rfl rfl ?_
      refine RW.v rfl (V.pickT (d := Bo true) rfl rfl rfl) ?_
      refine RW.v rfl (V.mv (d := Bo true) rfl rfl) ?_
      refine RW.guardF rfl rfl rfl rfl ?_
      refine RW.guardF rfl rfl rfl rfl ?_
      refine RW.v rfl (V.pickT (d := Bo true) rfl rfl rfl) ?_
      refine RW.v rfl (V.as (d := Bo true) rfl rfl) ?_
      refine RW.nil ?_
      exact ⟨_, by first | rfl | (simp_all; done) | (simp_all; omega) | grind, rfl, Le.c rfl <| Le.e⟩
  · intro v1 hv4
    refine CW.ret ?_
    exact Post.bool rfl (by simp_all [plain, Bool.or_assoc]) (AOs.r AOs.e)
theorem spec_Once_fn (a : List Reply) : Eng.Fn E.P 19 [.one (.r (sl 10 Reply.c a))] (.one (.one (.w (.v (.bool (pairs badOnce [] a)))))) [.one (.r (sl 10 Reply.c a))] := by
  refine Eng.Fn.intro (E := E) (rvs := [.tmp 2]) Try.func19 rfl rfl rfl (by simp [outSlots, moved, rvSlot]) ?_
  intro B g bo
  refine CW.bound (x := .tmp 0) (n := a.length) (AsT.r) (fun hl0 => ?_)
  refine CW.le [(0, .r (sl 10 Reply.c a))] rfl (Le.c rfl <| Le.e) ?_
  refine CW.seq ?_
  refine CW.region ?_
  refine RW.v rfl (V.as (d := Bo false) rfl rfl) ?_
  refine RW.nil ?_
  refine CW.le [(0, .r (sl 10 Reply.c a))] rfl (Le.c rfl <| Le.e) ?_
  refine CW.seq ?_
  refine CW.seq ?_
  refine CW.region ?_
  refine RW.v rfl (V.as (d := I 0) rfl rfl) ?_
  refine RW.nil ?_
  refine CW.le [(0, .r (sl 10 Reply.c a)), (3, I 0)] rfl (Le.c rfl <| Le.c rfl <| Le.e) ?_
  refine CW.block ?_
  refine CW.loopI 67 (fun (i : Nat) => [(0, .r (sl 10 Reply.c a)), (3, I (i : Int))]) (fun (i : Nat) => i ≤ a.length ∧ pairs badOnce (a.take i) (a.drop i) = pairs badOnce [] a) (fun (i : Nat) => a.length - i) 0 rfl (Le.c rfl <| Le.c rfl <| Le.e) ⟨by omega, by simp⟩ ?_
  rintro i ⟨hb, hr⟩
  refine CW.seq ?_
  refine CW.seq ?_
  refine CW.region ?_
  refine RW.v rfl (V.mv (d := I (i : Int)) rfl rfl) ?_
  refine RW.v rfl (V.mv (d := .r (sl 10 Reply.c a)) rfl rfl) ?_
  refine RW.v rfl (V.lenT (n := a.length) rfl rfl rfl .r) ?_
  refine RW.v rfl (V.cmpInt rfl rfl rfl rfl) ?_
  refine RW.nil ?_
  refine CW.le [(0, .r (sl 10 Reply.c a)), (3, I (i : Int)), (10, Bo (decide ((i : Int) < (a.length : Int))))] rfl (Le.c rfl <| Le.c rfl <| Le.c rfl <| Le.e) ?_
  refine CW.cond rfl (fun h1 => ?_) (fun h1 => ?_)
  · skip
    have hii : i < a.length := by have := h1; simp at this; first | exact this | (simp; omega)
    obtain ⟨ei, hei⟩ : ∃ e, a[i]? = some e := ⟨_, List.getElem?_eq_getElem hii⟩
    have hdi := drop_get hei
    refine CW.skip ?_
    refine CW.le [(0, .r (sl 10 Reply.c a)), (3, I (i : Int))] rfl (Le.c rfl <| Le.c rfl <| Le.e) ?_
    refine CW.seq ?_
    refine CW.block ?_
    refine CW.seq ?_
    refine CW.region ?_
    refine RW.v rfl (V.as (d := I 0) rfl rfl) ?_
    refine RW.nil ?_
    refine CW.le [(0, .r (sl 10 Reply.c a)), (3, I (i : Int)), (4, I 0)] rfl (Le.c rfl <| Le.c rfl <| Le.c rfl <| Le.e) ?_
    refine CW.block ?_
    refine CW.loopI 67 (fun (k : Nat) => [(0, .r (sl 10 Reply.c a)), (3, I (i : Int)), (4, I (k : Int))]) (fun (k : Nat) => k ≤ i ∧ ((a.take i).drop k).any (badOnce ei) = (a.take i).any (badOnce ei)) (fun (k : Nat) => i - k) 0 rfl (Le.c rfl <| Le.c rfl <| Le.c rfl <| Le.e) ⟨by omega, by simp⟩ ?_
    rintro k ⟨hc, hs⟩
    refine CW.seq ?_
    refine CW.seq ?_
    refine CW.region ?_
    refine RW.v rfl (V.mv (d := I (k : Int)) rfl rfl) ?_
    refine RW.v rfl (V.mv (d := I (i : Int)) rfl rfl) ?_
    refine RW.v rfl (V.cmpInt rfl rfl rfl rfl) ?_
    refine RW.nil ?_
    refine CW.le [(0, .r (sl 10 Reply.c a)), (3, I (i : Int)), (4, I (k : Int)), (15, Bo (decide ((k : Int) < (i : Int))))] rfl (Le.c rfl <| Le.c rfl <| Le.c rfl <| Le.c rfl <| Le.e) ?_
    refine CW.cond rfl (fun h2 => ?_) (fun h2 => ?_)
    · skip
      have hik : k < (a.take i).length := by have := h2; simp at this; first | exact this | (simp; omega)
      obtain ⟨ek, hek⟩ : ∃ e, (a.take i)[k]? = some e := ⟨_, List.getElem?_eq_getElem hik⟩
      have hdk := drop_get hek
      have hkl : k < i := by first | exact hik | (simp at hik; omega)
      have hek2 : a[k]? = some ek := by rw [← hek]; exact (List.getElem?_take_of_lt hkl).symm
      refine CW.skip ?_
      refine CW.le [(0, .r (sl 10 Reply.c a)), (3, I (i : Int)), (4, I (k : Int))] rfl (Le.c rfl <| Le.c rfl <| Le.c rfl <| Le.e) ?_
      refine CW.seq ?_
      refine CW.block ?_
      refine CW.seq ?_
      refine CW.region ?_
      refine RW.v rfl (V.mv (d := .r (sl 10 Reply.c a)) rfl rfl) ?_
      refine RW.v rfl (V.mv (d := I (i : Int)) rfl rfl) ?_
      refine RW.v rfl (V.indexS rfl rfl rfl rfl rfl rfl Reply.len hei) ?_
      refine RW.v rfl (V.loadAggR rfl rfl rfl rfl (Nat.le_of_ble_eq_true rfl)) ?_
      refine RW.alloc (ds := [I 0, I 0, I 0, I 0, I 0, I 0, S (⟨#[]⟩), S (⟨#[]⟩), I 0, S (⟨#[]⟩)]) rfl rfl rfl rfl fun b3 => ?_
      refine RW.storeAgg (es := ((Reply.c ei).map .r)) rfl rfl rfl rfl rfl rfl rfl rfl (Nat.le_of_ble_eq_true rfl) rfl ?_
      refine RW.nil ?_
      refine CW.le [(0, .r (sl 10 Reply.c a)), (3, I (i : Int)), (4, I (k : Int)), (5, .obj b3 ((Reply.c ei).map .r))] rfl (Le.c rfl <| Le.c rfl <| Le.c rfl <| Le.c rfl <| Le.e) ?_
      refine CW.seq ?_
      refine CW.region ?_
      refine RW.v rfl (V.mv (d := .r (sl 10 Reply.c a)) rfl rfl) ?_
      refine RW.v rfl (V.mv (d := I (k : Int)) rfl rfl) ?_
      refine RW.v rfl (V.indexS rfl rfl rfl rfl rfl rfl Reply.len hek2) ?_
      refine RW.v rfl (V.loadAggR rfl rfl rfl rfl (Nat.le_of_ble_eq_true rfl)) ?_
      refine RW.alloc (ds := [I 0, I 0, I 0, I 0, I 0, I 0, S (⟨#[]⟩), S (⟨#[]⟩), I 0, S (⟨#[]⟩)]) rfl rfl rfl rfl fun b4 => ?_
      refine RW.storeAgg (es := ((Reply.c ek).map .r)) rfl rfl rfl rfl rfl rfl rfl rfl (Nat.le_of_ble_eq_true rfl) rfl ?_
      refine RW.nil ?_
      refine CW.le [(0, .r (sl 10 Reply.c a)), (3, I (i : Int)), (4, I (k : Int)), (5, .obj b3 ((Reply.c ei).map .r)), (6, .obj b4 ((Reply.c ek).map .r))] rfl (Le.c rfl <| Le.c rfl <| Le.c rfl <| Le.c rfl <| Le.c rfl <| Le.e) ?_
      refine CW.seqJ 67 (fun (v5 : Bool) => [(0, .r (sl 10 Reply.c a)), (3, I (i : Int)), (4, I (k : Int)), (66, Bo v5)]) (fun v5 => v5 = ((((((ei.command.token != 0) && (ei.command.token == ek.command.token)) && (ei.command.seq == ek.command.seq)) && (!(ei.text.toList == ek.text.toList))) && (!(plain ei.text))) && (!(plain ek.text)))) ?_ ?_
      · refine CW.region ?_
        refine RW.v rfl (V.field rfl rfl rfl rfl (by decide) rfl) ?_
        refine RW.v rfl (V.field rfl rfl rfl rfl (by decide) rfl) ?_
        refine RW.v rfl (V.loadPrim (d := I ei.command.token) rfl rfl (.inl rfl) rfl rfl rfl) ?_
        refine RW.v rfl (V.cmpInt rfl rfl rfl rfl) ?_
        refine RW.v rfl (V.mv (d := Bo (ei.command.token != 0)) rfl rfl) ?_
        refine RW.gv rfl rfl rfl rfl (fun h6 => V.field rfl rfl rfl rfl (by decide) rfl) (fun h6 => ?_) (fun h6 => ?_)
        · skip
          refine RW.gt rfl rfl rfl rfl (V.field rfl rfl rfl rfl (by decide) rfl) ?_
          refine RW.gt rfl rfl rfl rfl (V.loadPrim (d := I ei.command.token) rfl rfl (.inl rfl) rfl rfl rfl) ?_
          refine RW.gt rfl rfl rfl rfl (V.field rfl rfl rfl rfl (by decide) rfl) ?_
          refine RW.gt rfl rfl rfl rfl (V.field rfl rfl rfl rfl (by decide) rfl) ?_
          refine RW.gt rfl rfl rfl rfl (V.loadPrim (d := I ek.command.token) rfl rfl (.inl rfl) rfl rfl rfl) ?_
          refine RW.gt rfl rfl rfl rfl (V.cmpInt rfl rfl rfl rfl) ?_
          refine RW.v rfl (V.pickT (d := Bo (ei.command.token == ek.command.token)) rfl rfl rfl) ?_
          refine RW.v rfl (V.mv (d := Bo (ei.command.token == ek.command.token)) rfl rfl) ?_
          refine RW.gv rfl rfl rfl rfl (fun h7 => V.field rfl rfl rfl rfl (by decide) rfl) (fun h7 => ?_) (fun h7 => ?_)
          · skip
            refine RW.gt rfl rfl rfl rfl (V.field rfl rfl rfl rfl (by decide) rfl) ?_
            refine RW.gt rfl rfl rfl rfl (V.loadPrim (d := I ei.command.seq) rfl rfl (.inl rfl) rfl rfl rfl) ?_
            refine RW.gt rfl rfl rfl rfl (V.field rfl rfl rfl rfl (by decide) rfl) ?_
            refine RW.gt rfl rfl rfl rfl (V.field rfl rfl rfl rfl (by decide) rfl) ?_
            refine RW.gt rfl rfl rfl rfl (V.loadPrim (d := I ek.command.seq) rfl rfl (.inl rfl) rfl rfl rfl) ?_
            refine RW.gt rfl rfl rfl rfl (V.cmpInt rfl rfl rfl rfl) ?_
            refine RW.v rfl (V.pickT (d := Bo (ei.command.seq == ek.command.seq)) rfl rfl rfl) ?_
            refine RW.v rfl (V.mv (d := Bo (ei.command.seq == ek.command.seq)) rfl rfl) ?_
            refine RW.gv rfl rfl rfl rfl (fun h8 => V.field rfl rfl rfl rfl (by decide) rfl) (fun h8 => ?_) (fun h8 => ?_)
            · skip
              refine RW.gt rfl rfl rfl rfl (V.loadPrim (d := S ei.text) rfl rfl (.inl rfl) rfl rfl rfl) ?_
              refine RW.gt rfl rfl rfl rfl (V.field rfl rfl rfl rfl (by decide) rfl) ?_
              refine RW.gt rfl rfl rfl rfl (V.loadPrim (d := S ek.text) rfl rfl (.inl rfl) rfl rfl rfl) ?_
              refine RW.gt rfl rfl rfl rfl (V.strCmp rfl rfl rfl rfl) ?_
              refine RW.v rfl (V.pickT (d := Bo (!(ei.text.toList == ek.text.toList))) rfl rfl rfl) ?_
              refine RW.v rfl (V.mv (d := Bo (!(ei.text.toList == ek.text.toList))) rfl rfl) ?_
              refine RW.gv rfl rfl rfl rfl (fun h9 => V.field rfl rfl rfl rfl (by decide) rfl) (fun h9 => ?_) (fun h9 => ?_)
              · skip
                refine RW.gt rfl rfl rfl rfl (V.loadPrim (d := S ei.text) rfl rfl (.inl rfl) rfl rfl rfl) ?_
                refine RW.gcall rfl rfl rfl rfl (spec_l21Plain_fn ei.text) rfl (.cons (.one (.r .r)) (.nil)) fun g10 => ?_
                refine RW.gt rfl rfl rfl rfl (V.not rfl rfl) ?_
                refine RW.v rfl (V.pickT (d := Bo (!(plain ei.text))) rfl rfl rfl) ?_
                refine RW.v rfl (V.mv (d := Bo (!(plain ei.text))) rfl rfl) ?_
                refine RW.gv rfl rfl rfl rfl (fun h11 => V.field rfl rfl rfl rfl (by decide) rfl) (fun h11 => ?_) (fun h11 => ?_)
                · skip
                  refine RW.gt rfl rfl rfl rfl (V.loadPrim (d := S ek.text) rfl rfl (.inl rfl) rfl rfl rfl) ?_
                  refine RW.gcall rfl rfl rfl rfl (spec_l21Plain_fn ek.text) rfl (.cons (.one (.r .r)) (.nil)) fun g12 => ?_
                  refine RW.gt rfl rfl rfl rfl (V.not rfl rfl) ?_
                  refine RW.v rfl (V.pickT (d := Bo (!(plain ek.text))) rfl rfl rfl) ?_
                  refine RW.nil ?_
                  exact ⟨_, by first | rfl | (simp_all; done) | (simp_all; omega) | grind, rfl, Le.c rfl <| Le.c rfl <| Le.c rfl <| Le.c rfl <| Le.e⟩
                · skip
                  refine RW.guardF rfl rfl rfl rfl ?_
                  refine RW.guardF rfl rfl rfl rfl ?_
                  refine RW.guardF rfl rfl rfl rfl ?_
                  refine RW.v rfl (V.pickF (d := Bo false) rfl rfl rfl) ?_
                  refine RW.nil ?_
                  exact ⟨_, by first | rfl | (simp_all; done) | (simp_all; omega) | grind, rfl, Le.c rfl <| Le.c rfl <| Le.c rfl <| Le.c rfl <| Le.e⟩
              · skip
                refine RW.guardF rfl rfl rfl rfl ?_
                refine RW.guardF rfl rfl rfl rfl ?_
                refine RW.guardF rfl rfl rfl rfl ?_
                refine RW.v rfl (V.pickF (d := Bo false) rfl rfl rfl) ?_
                refine RW.v rfl (V.mv (d := Bo false) rfl rfl) ?_
                refine RW.guardF rfl rfl rfl rfl ?_
                refine RW.guardF rfl rfl rfl rfl ?_
                refine RW.guardF rfl rfl rfl rfl ?_
                refine RW.guardF rfl rfl rfl rfl ?_
                refine RW.v rfl (V.pickF (d := Bo false) rfl rfl rfl) ?_
                refine RW.nil ?_
                exact ⟨_, by first | rfl | (simp_all; done) | (simp_all; omega) | grind, rfl, Le.c rfl <| Le.c rfl <| Le.c rfl <| Le.c rfl <| Le.e⟩
            · skip
              refine RW.guardF rfl rfl rfl rfl ?_
              refine RW.guardF rfl rfl rfl rfl ?_
              refine RW.guardF rfl rfl rfl rfl ?_
              refine RW.guardF rfl rfl rfl rfl ?_
              refine RW.v rfl (V.pickF (d := Bo false) rfl rfl rfl) ?_
              refine RW.v rfl (V.mv (d := Bo false) rfl rfl) ?_
              refine RW.guardF rfl rfl rfl rfl ?_
              refine RW.guardF rfl rfl rfl rfl ?_
              refine RW.guardF rfl rfl rfl rfl ?_
              refine RW.guardF rfl rfl rfl rfl ?_
              refine RW.v rfl (V.pickF (d := Bo false) rfl rfl rfl) ?_
              refine RW.v rfl (V.mv (d := Bo false) rfl rfl) ?_
              refine RW.guardF rfl rfl rfl rfl ?_
              refine RW.guardF rfl rfl rfl rfl ?_
              refine RW.guardF rfl rfl rfl rfl ?_
              refine RW.guardF rfl rfl rfl rfl ?_
              refine RW.v rfl (V.pickF (d := Bo false) rfl rfl rfl) ?_
              refine RW.nil ?_
              exact ⟨_, by first | rfl | (simp_all; done) | (simp_all; omega) | grind, rfl, Le.c rfl <| Le.c rfl <| Le.c rfl <| Le.c rfl <| Le.e⟩
          · skip
            refine RW.guardF rfl rfl rfl rfl ?_
            refine RW.guardF rfl rfl rfl rfl ?_
            refine RW.guardF rfl rfl rfl rfl ?_
            refine RW.guardF rfl rfl rfl rfl ?_
            refine RW.guardF rfl rfl rfl rfl ?_
            refine RW.guardF rfl rfl rfl rfl ?_
            refine RW.v rfl (V.pickF (d := Bo false) rfl rfl rfl) ?_
            refine RW.v rfl (V.mv (d := Bo false) rfl rfl) ?_
            refine RW.guardF rfl rfl rfl rfl ?_
            refine RW.guardF rfl rfl rfl rfl ?_
            refine RW.guardF rfl rfl rfl rfl ?_
            refine RW.guardF rfl rfl rfl rfl ?_
            refine RW.guardF rfl rfl rfl rfl ?_
            refine RW.v rfl (V.pickF (d := Bo false) rfl rfl rfl) ?_
            refine RW.v rfl (V.mv (d := Bo false) rfl rfl) ?_
            refine RW.guardF rfl rfl rfl rfl ?_
            refine RW.guardF rfl rfl rfl rfl ?_
            refine RW.guardF rfl rfl rfl rfl ?_
            refine RW.guardF rfl rfl rfl rfl ?_
            refine RW.v rfl (V.pickF (d := Bo false) rfl rfl rfl) ?_
            refine RW.v rfl (V.mv (d := Bo false) rfl rfl) ?_
            refine RW.guardF rfl rfl rfl rfl ?_
            refine RW.guardF rfl rfl rfl rfl ?_
            refine RW.guardF rfl rfl rfl rfl ?_
            refine RW.guardF rfl rfl rfl rfl ?_
            refine RW.v rfl (V.pickF (d := Bo false) rfl rfl rfl) ?_
            refine RW.nil ?_
            exact ⟨_, by first | rfl | (simp_all; done) | (simp_all; omega) | grind, rfl, Le.c rfl <| Le.c rfl <| Le.c rfl <| Le.c rfl <| Le.e⟩
        · skip
          refine RW.guardF rfl rfl rfl rfl ?_
          refine RW.guardF rfl rfl rfl rfl ?_
          refine RW.guardF rfl rfl rfl rfl ?_
          refine RW.guardF rfl rfl rfl rfl ?_
          refine RW.guardF rfl rfl rfl rfl ?_
          refine RW.guardF rfl rfl rfl rfl ?_
          refine RW.v rfl (V.pickF (d := Bo false) rfl rfl rfl) ?_
          refine RW.v rfl (V.mv (d := Bo false) rfl rfl) ?_
          refine RW.guardF rfl rfl rfl rfl ?_
          refine RW.guardF rfl rfl rfl rfl ?_
          refine RW.guardF rfl rfl rfl rfl ?_
          refine RW.guardF rfl rfl rfl rfl ?_
          refine RW.guardF rfl rfl rfl rfl ?_
          refine RW.guardF rfl rfl rfl rfl ?_
          refine RW.guardF rfl rfl rfl rfl ?_
          refine RW.v rfl (V.pickF (d := Bo false) rfl rfl rfl) ?_
          refine RW.v rfl (V.mv (d := Bo false) rfl rfl) ?_
          refine RW.guardF rfl rfl rfl rfl ?_
          refine RW.guardF rfl rfl rfl rfl ?_
          refine RW.guardF rfl rfl rfl rfl ?_
          refine RW.guardF rfl rfl rfl rfl ?_
          refine RW.guardF rfl rfl rfl rfl ?_
          refine RW.v rfl (V.pickF (d := Bo false) rfl rfl rfl) ?_
          refine RW.v rfl (V.mv (d := Bo false) rfl rfl) ?_
          refine RW.guardF rfl rfl rfl rfl ?_
          refine RW.guardF rfl rfl rfl rfl ?_
          refine RW.guardF rfl rfl rfl rfl ?_
          refine RW.guardF rfl rfl rfl rfl ?_
          refine RW.v rfl (V.pickF (d := Bo false) rfl rfl rfl) ?_
          refine RW.v rfl (V.mv (d := Bo false) rfl rfl) ?_
          refine RW.guardF rfl rfl rfl rfl ?_
          refine RW.guardF rfl rfl rfl rfl ?_
          refine RW.guardF rfl rfl rfl rfl ?_
          refine RW.guardF rfl rfl rfl rfl ?_
          refine RW.v rfl (V.pickF (d := Bo false) rfl rfl rfl) ?_
          refine RW.nil ?_
          exact ⟨_, by first | rfl | (simp_all; done) | (simp_all; omega) | grind, rfl, Le.c rfl <| Le.c rfl <| Le.c rfl <| Le.c rfl <| Le.e⟩
      · intro v5 hv13
        refine CW.cond rfl (fun h14 => ?_) (fun h14 => ?_)
        · skip
          refine CW.seq ?_
          refine CW.region ?_
          refine RW.v rfl (V.as (d := Bo false) rfl rfl) ?_
          refine RW.nil ?_
          refine CW.le [(2, Bo false)] rfl (Le.c rfl <| Le.e) ?_
          refine CW.ret ?_
          exact Post.bool rfl (by rw [← hr, hdi, pairs, ← hs, hdk, List.any_cons, show badOnce ei ek = true from by clear hr hs; first | (simp_all [badOnce]; done) | grind [badOnce]]; simp) (AOs.r AOs.e)
        · skip
          refine CW.skip ?_
          refine CW.le [(0, .r (sl 10 Reply.c a)), (3, I (i : Int)), (4, I (k : Int))] rfl (Le.c rfl <| Le.c rfl <| Le.c rfl <| Le.e) ?_
          refine CW.region ?_
          refine RW.v rfl (V.mv (d := I (k : Int)) rfl rfl) ?_
          refine RW.v rfl (V.inc rfl rfl rfl hkl (Nat.le_trans (Nat.le_of_lt hii) hl0)) ?_
          refine RW.v rfl (V.as (d := I ((k + 1 : Nat) : Int)) rfl rfl) ?_
          refine RW.nil ?_
          exact ⟨k + 1, by omega, ⟨by omega, by rw [← hs, hdk, List.any_cons, show badOnce ei ek = false from by clear hr hs; first | (simp_all [badOnce]; done) | grind [badOnce]]; simp⟩, rfl, Le.c rfl <| Le.c rfl <| Le.c rfl <| Le.e⟩
    · skip
      have hik : (a.take i).length ≤ k := by have := h2; simp at this; first | exact this | (simp; omega)
      have hdk : (a.take i).drop k = [] := List.drop_eq_nil_of_le hik
      refine CW.exit ?_
      refine CW.le [(0, .r (sl 10 Reply.c a)), (3, I (i : Int))] rfl (Le.c rfl <| Le.c rfl <| Le.e) ?_
      refine CW.region ?_
      refine RW.v rfl (V.mv (d := I (i : Int)) rfl rfl) ?_
      refine RW.v rfl (V.inc rfl rfl rfl hii hl0) ?_
      refine RW.v rfl (V.as (d := I ((i + 1 : Nat) : Int)) rfl rfl) ?_
      refine RW.nil ?_
      exact ⟨i + 1, by omega, ⟨by omega, by rw [← hr, hdi, pairs, ← hs, hdk, take_snoc hei]; simp⟩, rfl, Le.c rfl <| Le.c rfl <| Le.e⟩
  · skip
    have hii : a.length ≤ i := by have := h1; simp at this; first | exact this | (simp; omega)
    have hdi : a.drop i = [] := List.drop_eq_nil_of_le hii
    refine CW.exit ?_
    refine CW.le [] rfl (Le.e) ?_
    refine CW.seq ?_
    refine CW.region ?_
    refine RW.v rfl (V.as (d := Bo true) rfl rfl) ?_
    refine RW.nil ?_
    refine CW.le [(2, Bo true)] rfl (Le.c rfl <| Le.e) ?_
    refine CW.ret ?_
    exact Post.bool rfl (by first | (simp_all [pairs]; done) | grind [pairs]) (AOs.r AOs.e)
theorem impl_Once_fn (a : List Reply) : Eng.Fn E.P 20 [.one (.r (sl 10 Reply.c a))] (.one (.one (.w (.v (.bool (pairs badOnce [] a)))))) [.one (.r (sl 10 Reply.c a))] := by
  refine Eng.Fn.intro (E := E) (rvs := [.tmp 2]) Try.func20 rfl rfl rfl (by simp [outSlots, moved, rvSlot]) ?_
  intro B g bo
  refine CW.bound (x := .tmp 0) (n := a.length) (AsT.r) (fun hl0 => ?_)
  refine CW.le [(0, .r (sl 10 Reply.c a))] rfl (Le.c rfl <| Le.e) ?_
  refine CW.seq ?_
  refine CW.region ?_
  refine RW.v rfl (V.as (d := Bo false) rfl rfl) ?_
  refine RW.nil ?_
  refine CW.le [(0, .r (sl 10 Reply.c a))] rfl (Le.c rfl <| Le.e) ?_
  refine CW.seq ?_
  refine CW.seq ?_
  refine CW.region ?_
  refine RW.v rfl (V.mv (d := .r (sl 10 Reply.c a)) rfl rfl) ?_
  refine RW.v rfl (V.lenT (n := a.length) rfl rfl rfl .r) ?_
  refine RW.v rfl (V.mv (d := I 0) rfl rfl) ?_
  refine RW.nil ?_
  refine CW.le [(0, .r (sl 10 Reply.c a)), (8, .r (sl 10 Reply.c a)), (9, I (a.length : Int)), (10, I 0)] rfl (Le.c rfl <| Le.c rfl <| Le.c rfl <| Le.c rfl <| Le.e) ?_
  refine CW.block ?_
  refine CW.loopI 67 (fun (i : Nat) => [(0, .r (sl 10 Reply.c a)), (8, .r (sl 10 Reply.c a)), (9, I (a.length : Int)), (10, I (i : Int))]) (fun (i : Nat) => i ≤ a.length ∧ pairs badOnce (a.take i) (a.drop i) = pairs badOnce [] a) (fun (i : Nat) => a.length - i) 0 rfl (Le.c rfl <| Le.c rfl <| Le.c rfl <| Le.c rfl <| Le.e) ⟨by omega, by simp⟩ ?_
  rintro i ⟨hb, hr⟩
  refine CW.seq ?_
  refine CW.region ?_
  refine RW.v rfl (V.cmpInt rfl rfl rfl rfl) ?_
  refine RW.nil ?_
  refine CW.le [(0, .r (sl 10 Reply.c a)), (8, .r (sl 10 Reply.c a)), (9, I (a.length : Int)), (10, I (i : Int)), (11, Bo (decide ((i : Int) < (a.length : Int))))] rfl (Le.c rfl <| Le.c rfl <| Le.c rfl <| Le.c rfl <| Le.c rfl <| Le.e) ?_
  refine CW.seq ?_
  refine CW.cond rfl (fun h1 => ?_) (fun h1 => ?_)
  · skip
    have hii : i < a.length := by have := h1; simp at this; first | exact this | (simp; omega)
    obtain ⟨ei, hei⟩ : ∃ e, a[i]? = some e := ⟨_, List.getElem?_eq_getElem hii⟩
    have hdi := drop_get hei
    refine CW.skip ?_
    refine CW.le [(0, .r (sl 10 Reply.c a)), (8, .r (sl 10 Reply.c a)), (9, I (a.length : Int)), (10, I (i : Int))] rfl (Le.c rfl <| Le.c rfl <| Le.c rfl <| Le.c rfl <| Le.e) ?_
    refine CW.seq ?_
    refine CW.block ?_
    refine CW.seq ?_
    refine CW.region ?_
    refine RW.v rfl (V.mv (d := I (i : Int)) rfl rfl) ?_
    refine RW.v rfl (V.indexS rfl rfl rfl rfl rfl rfl Reply.len hei) ?_
    refine RW.v rfl (V.loadAggR rfl rfl rfl rfl (Nat.le_of_ble_eq_true rfl)) ?_
    refine RW.alloc (ds := [I 0, I 0, I 0, I 0, I 0, I 0, S (⟨#[]⟩), S (⟨#[]⟩), I 0, S (⟨#[]⟩)]) rfl rfl rfl rfl fun b2 => ?_
    refine RW.v rfl (V.as (d := I (i : Int)) rfl rfl) ?_
    refine RW.storeAgg (es := ((Reply.c ei).map .r)) rfl rfl rfl rfl rfl rfl rfl rfl (Nat.le_of_ble_eq_true rfl) rfl ?_
    refine RW.nil ?_
    refine CW.le [(0, .r (sl 10 Reply.c a)), (3, I (i : Int)), (4, .obj b2 ((Reply.c ei).map .r)), (8, .r (sl 10 Reply.c a)), (9, I (a.length : Int)), (10, I (i : Int))] rfl (Le.c rfl <| Le.c rfl <| Le.c rfl <| Le.c rfl <| Le.c rfl <| Le.c rfl <| Le.e) ?_
    refine CW.seq ?_
    refine CW.region ?_
    refine RW.v rfl (V.mv (d := .r (sl 10 Reply.c a)) rfl rfl) ?_
    refine RW.v rfl (V.mv (d := I (i : Int)) rfl rfl) ?_
    refine RW.v rfl (V.takeS (m := i) rfl rfl rfl rfl rfl rfl Reply.len (Nat.le_of_lt hii)) ?_
    refine RW.v rfl (V.lenT (n := (a.take i).length) rfl rfl rfl .r) ?_
    refine RW.v rfl (V.mv (d := I 0) rfl rfl) ?_
    refine RW.nil ?_
    refine CW.le [(0, .r (sl 10 Reply.c a)), (4, .obj b2 ((Reply.c ei).map .r)), (8, .r (sl 10 Reply.c a)), (9, I (a.length : Int)), (10, I (i : Int)), (17, .r (sl 10 Reply.c (a.take i))), (18, I ((a.take i).length : Int)), (19, I 0)] rfl (Le.c rfl <| Le.c rfl <| Le.c rfl <| Le.c rfl <| Le.c rfl <| Le.c rfl <| Le.c rfl <| Le.c rfl <| Le.e) ?_
    refine CW.block ?_
    refine CW.loopI 67 (fun (k : Nat) => [(0, .r (sl 10 Reply.c a)), (4, .obj b2 ((Reply.c ei).map .r)), (8, .r (sl 10 Reply.c a)), (9, I (a.length : Int)), (10, I (i : Int)), (17, .r (sl 10 Reply.c (a.take i))), (18, I ((a.take i).length : Int)), (19, I (k : Int))]) (fun (k : Nat) => k ≤ i ∧ ((a.take i).drop k).any (badOnce ei) = (a.take i).any (badOnce ei)) (fun (k : Nat) => i - k) 0 rfl (Le.c rfl <| Le.c rfl <| Le.c rfl <| Le.c rfl <| Le.c rfl <| Le.c rfl <| Le.c rfl <| Le.c rfl <| Le.e) ⟨by omega, by simp⟩ ?_
    rintro k ⟨hc, hs⟩
    refine CW.seq ?_
    refine CW.region ?_
    refine RW.v rfl (V.cmpInt rfl rfl rfl rfl) ?_
    refine RW.nil ?_
    refine CW.le [(0, .r (sl 10 Reply.c a)), (4, .obj b2 ((Reply.c ei).map .r)), (8, .r (sl 10 Reply.c a)), (9, I (a.length : Int)), (10, I (i : Int)), (17, .r (sl 10 Reply.c (a.take i))), (18, I ((a.take i).length : Int)), (19, I (k : Int)), (20, Bo (decide ((k : Int) < ((a.take i).length : Int))))] rfl (Le.c rfl <| Le.c rfl <| Le.c rfl <| Le.c rfl <| Le.c rfl <| Le.c rfl <| Le.c rfl <| Le.c rfl <| Le.c rfl <| Le.e) ?_
    refine CW.seq ?_
    refine CW.cond rfl (fun h3 => ?_) (fun h3 => ?_)
    · skip
      have hik : k < (a.take i).length := by have := h3; simp at this; first | exact this | (simp; omega)
      obtain ⟨ek, hek⟩ : ∃ e, (a.take i)[k]? = some e := ⟨_, List.getElem?_eq_getElem hik⟩
      have hdk := drop_get hek
      have hkl : k < i := by first | exact hik | (simp at hik; omega)
      refine CW.skip ?_
      refine CW.le [(0, .r (sl 10 Reply.c a)), (4, .obj b2 ((Reply.c ei).map .r)), (8, .r (sl 10 Reply.c a)), (9, I (a.length : Int)), (10, I (i : Int)), (17, .r (sl 10 Reply.c (a.take i))), (18, I ((a.take i).length : Int)), (19, I (k : Int))] rfl (Le.c rfl <| Le.c rfl <| Le.c rfl <| Le.c rfl <| Le.c rfl <| Le.c rfl <| Le.c rfl <| Le.c rfl <| Le.e) ?_
      refine CW.seq ?_
      refine CW.block ?_
      refine CW.seq ?_
      refine CW.region ?_
      refine RW.v rfl (V.indexS rfl rfl rfl rfl rfl rfl Reply.len hek) ?_
      refine RW.v rfl (V.loadAggR rfl rfl rfl rfl (Nat.le_of_ble_eq_true rfl)) ?_
      refine RW.alloc (ds := [I 0, I 0, I 0, I 0, I 0, I 0, S (⟨#[]⟩), S (⟨#[]⟩), I 0, S (⟨#[]⟩)]) rfl rfl rfl rfl fun b4 => ?_
      refine RW.storeAgg (es := ((Reply.c ek).map .r)) rfl rfl rfl rfl rfl rfl rfl rfl (Nat.le_of_ble_eq_true rfl) rfl ?_
      refine RW.nil ?_
      refine CW.le [(0, .r (sl 10 Reply.c a)), (4, .obj b2 ((Reply.c ei).map .r)), (6, .obj b4 ((Reply.c ek).map .r)), (8, .r (sl 10 Reply.c a)), (9, I (a.length : Int)), (10, I (i : Int)), (17, .r (sl 10 Reply.c (a.take i))), (18, I ((a.take i).length : Int)), (19, I (k : Int))] rfl (Le.c rfl <| Le.c rfl <| Le.c rfl <| Le.c rfl <| Le.c rfl <| Le.c rfl <| Le.c rfl <| Le.c rfl <| Le.c rfl <| Le.e) ?_
      refine CW.seqJ 67 (fun (v5 : Bool) => [(0, .r (sl 10 Reply.c a)), (4, .obj b2 ((Reply.c ei).map .r)), (6, .obj b4 ((Reply.c ek).map .r)), (7, Bo v5), (8, .r (sl 10 Reply.c a)), (9, I (a.length : Int)), (10, I (i : Int)), (17, .r (sl 10 Reply.c (a.take i))), (18, I ((a.take i).length : Int)), (19, I (k : Int))]) (fun v5 => v5 = (((ei.command.token == ek.command.token) && (ei.command.seq == ek.command.seq)) && (ei.command.token != 0))) ?_ ?_
      · refine CW.region ?_
        refine RW.v rfl (V.field rfl rfl rfl rfl (by decide) rfl) ?_
        refine RW.v rfl (V.field rfl rfl rfl rfl (by decide) rfl) ?_
        refine RW.v rfl (V.loadPrim (d := I ei.command.token) rfl rfl (.inl rfl) rfl rfl rfl) ?_
        refine RW.v rfl (V.field rfl rfl rfl rfl (by decide) rfl) ?_
        refine RW.v rfl (V.field rfl rfl rfl rfl (by decide) rfl) ?_
        refine RW.v rfl (V.loadPrim (d := I ek.command.token) rfl rfl (.inl rfl) rfl rfl rfl) ?_
        refine RW.v rfl (V.cmpInt rfl rfl rfl rfl) ?_
        refine RW.v rfl (V.mv (d := Bo (ei.command.token == ek.command.token)) rfl rfl) ?_
        refine RW.gv rfl rfl rfl rfl (fun h6 => V.field rfl rfl rfl rfl (by decide) rfl) (fun h6 => ?_) (fun h6 => ?_)
        · skip
          refine RW.gt rfl rfl rfl rfl (V.field rfl rfl rfl rfl (by decide) rfl) ?_
          refine RW.gt rfl rfl rfl rfl (V.loadPrim (d := I ei.command.seq) rfl rfl (.inl rfl) rfl rfl rfl) ?_
          refine RW.gt rfl rfl rfl rfl (V.field rfl rfl rfl rfl (by decide) rfl) ?_
          refine RW.gt rfl rfl rfl rfl (V.field rfl rfl rfl rfl (by decide) rfl) ?_
          refine RW.gt rfl rfl rfl rfl (V.loadPrim (d := I ek.command.seq) rfl rfl (.inl rfl) rfl rfl rfl) ?_
          refine RW.gt rfl rfl rfl rfl (V.cmpInt rfl rfl rfl rfl) ?_
          refine RW.v rfl (V.pickT (d := Bo (ei.command.seq == ek.command.seq)) rfl rfl rfl) ?_
          refine RW.v rfl (V.mv (d := Bo (ei.command.seq == ek.command.seq)) rfl rfl) ?_
          refine RW.gv rfl rfl rfl rfl (fun h7 => V.field rfl rfl rfl rfl (by decide) rfl) (fun h7 => ?_) (fun h7 => ?_)
          · skip
            refine RW.gt rfl rfl rfl rfl (V.field rfl rfl rfl rfl (by decide) rfl) ?_
            refine RW.gt rfl rfl rfl rfl (V.loadPrim (d := I ei.command.token) rfl rfl (.inl rfl) rfl rfl rfl) ?_
            refine RW.gt rfl rfl rfl rfl (V.cmpInt rfl rfl rfl rfl) ?_
            refine RW.v rfl (V.pickT (d := Bo (ei.command.token != 0)) rfl rfl rfl) ?_
            refine RW.v rfl (V.as (d := Bo (ei.command.token != 0)) rfl rfl) ?_
            refine RW.nil ?_
            exact ⟨_, by first | rfl | (simp_all; done) | (simp_all; omega) | grind, rfl, Le.c rfl <| Le.c rfl <| Le.c rfl <| Le.c rfl <| Le.c rfl <| Le.c rfl <| Le.c rfl <| Le.c rfl <| Le.c rfl <| Le.c rfl <| Le.e⟩
          · skip
            refine RW.guardF rfl rfl rfl rfl ?_
            refine RW.guardF rfl rfl rfl rfl ?_
            refine RW.guardF rfl rfl rfl rfl ?_
            refine RW.v rfl (V.pickF (d := Bo false) rfl rfl rfl) ?_
            refine RW.v rfl (V.as (d := Bo false) rfl rfl) ?_
            refine RW.nil ?_
            exact ⟨_, by first | rfl | (simp_all; done) | (simp_all; omega) | grind, rfl, Le.c rfl <| Le.c rfl <| Le.c rfl <| Le.c rfl <| Le.c rfl <| Le.c rfl <| Le.c rfl <| Le.c rfl <| Le.c rfl <| Le.c rfl <| Le.e⟩
        · skip
          refine RW.guardF rfl rfl rfl rfl ?_
          refine RW.guardF rfl rfl rfl rfl ?_
          refine RW.guardF rfl rfl rfl rfl ?_
          refine RW.guardF rfl rfl rfl rfl ?_
          refine RW.guardF rfl rfl rfl rfl ?_
          refine RW.guardF rfl rfl rfl rfl ?_
          refine RW.v rfl (V.pickF (d := Bo false) rfl rfl rfl) ?_
          refine RW.v rfl (V.mv (d := Bo false) rfl rfl) ?_
          refine RW.guardF rfl rfl rfl rfl ?_
          refine RW.guardF rfl rfl rfl rfl ?_
          refine RW.guardF rfl rfl rfl rfl ?_
          refine RW.guardF rfl rfl rfl rfl ?_
          refine RW.v rfl (V.pickF (d := Bo false) rfl rfl rfl) ?_
          refine RW.v rfl (V.as (d := Bo false) rfl rfl) ?_
          refine RW.nil ?_
          exact ⟨_, by first | rfl | (simp_all; done) | (simp_all; omega) | grind, rfl, Le.c rfl <| Le.c rfl <| Le.c rfl <| Le.c rfl <| Le.c rfl <| Le.c rfl <| Le.c rfl <| Le.c rfl <| Le.c rfl <| Le.c rfl <| Le.e⟩
      · intro v5 hv8
        refine CW.seqJ 67 (fun (v9 : Bool) => [(0, .r (sl 10 Reply.c a)), (4, .obj b2 ((Reply.c ei).map .r)), (8, .r (sl 10 Reply.c a)), (9, I (a.length : Int)), (10, I (i : Int)), (17, .r (sl 10 Reply.c (a.take i))), (18, I ((a.take i).length : Int)), (19, I (k : Int)), (64, Bo v9)]) (fun v9 => v9 = (((v5 && (!(plain ei.text))) && (!(plain ek.text))) && (!(ei.text.toList == ek.text.toList)))) ?_ ?_
        · refine CW.region ?_
          refine RW.v rfl (V.mv (d := Bo v5) rfl rfl) ?_
          refine RW.v rfl (V.mv (d := Bo v5) rfl rfl) ?_
          refine RW.gv rfl rfl rfl rfl (fun h10 => V.field rfl rfl rfl rfl (by decide) rfl) (fun h10 => ?_) (fun h10 => ?_)
          · skip
            refine RW.gt rfl rfl rfl rfl (V.loadPrim (d := S ei.text) rfl rfl (.inl rfl) rfl rfl rfl) ?_
            refine RW.gcall rfl rfl rfl rfl (impl_refusal_fn ei.text) rfl (.cons (.one (.r .r)) (.nil)) fun g11 => ?_
            refine RW.gt rfl rfl rfl rfl (V.not rfl rfl) ?_
            refine RW.v rfl (V.pickT (d := Bo (!(plain ei.text))) rfl rfl rfl) ?_
            refine RW.v rfl (V.mv (d := Bo (!(plain ei.text))) rfl rfl) ?_
            refine RW.gv rfl rfl rfl rfl (fun h12 => V.field rfl rfl rfl rfl (by decide) rfl) (fun h12 => ?_) (fun h12 => ?_)
            · skip
              refine RW.gt rfl rfl rfl rfl (V.loadPrim (d := S ek.text) rfl rfl (.inl rfl) rfl rfl rfl) ?_
              refine RW.gcall rfl rfl rfl rfl (impl_refusal_fn ek.text) rfl (.cons (.one (.r .r)) (.nil)) fun g13 => ?_
              refine RW.gt rfl rfl rfl rfl (V.not rfl rfl) ?_
              refine RW.v rfl (V.pickT (d := Bo (!(plain ek.text))) rfl rfl rfl) ?_
              refine RW.v rfl (V.mv (d := Bo (!(plain ek.text))) rfl rfl) ?_
              refine RW.gv rfl rfl rfl rfl (fun h14 => V.field rfl rfl rfl rfl (by decide) rfl) (fun h14 => ?_) (fun h14 => ?_)
              · skip
                refine RW.gt rfl rfl rfl rfl (V.loadPrim (d := S ei.text) rfl rfl (.inl rfl) rfl rfl rfl) ?_
                refine RW.gt rfl rfl rfl rfl (V.field rfl rfl rfl rfl (by decide) rfl) ?_
                refine RW.gt rfl rfl rfl rfl (V.loadPrim (d := S ek.text) rfl rfl (.inl rfl) rfl rfl rfl) ?_
                refine RW.gt rfl rfl rfl rfl (V.strCmp rfl rfl rfl rfl) ?_
                refine RW.v rfl (V.pickT (d := Bo (!(ei.text.toList == ek.text.toList))) rfl rfl rfl) ?_
                refine RW.nil ?_
                exact ⟨_, by first | rfl | (simp_all; done) | (simp_all; omega) | grind, rfl, Le.c rfl <| Le.c rfl <| Le.c rfl <| Le.c rfl <| Le.c rfl <| Le.c rfl <| Le.c rfl <| Le.c rfl <| Le.c rfl <| Le.e⟩
              · skip
                refine RW.guardF rfl rfl rfl rfl ?_
                refine RW.guardF rfl rfl rfl rfl ?_
                refine RW.guardF rfl rfl rfl rfl ?_
                refine RW.guardF rfl rfl rfl rfl ?_
                refine RW.v rfl (V.pickF (d := Bo false) rfl rfl rfl) ?_
                refine RW.nil ?_
                exact ⟨_, by first | rfl | (simp_all; done) | (simp_all; omega) | grind, rfl, Le.c rfl <| Le.c rfl <| Le.c rfl <| Le.c rfl <| Le.c rfl <| Le.c rfl <| Le.c rfl <| Le.c rfl <| Le.c rfl <| Le.e⟩
            · skip
              refine RW.guardF rfl rfl rfl rfl ?_
              refine RW.guardF rfl rfl rfl rfl ?_
              refine RW.guardF rfl rfl rfl rfl ?_
              refine RW.v rfl (V.pickF (d := Bo false) rfl rfl rfl) ?_
              refine RW.v rfl (V.mv (d := Bo false) rfl rfl) ?_
              refine RW.guardF rfl rfl rfl rfl ?_
              refine RW.guardF rfl rfl rfl rfl ?_
              refine RW.guardF rfl rfl rfl rfl ?_
              refine RW.guardF rfl rfl rfl rfl ?_
              refine RW.guardF rfl rfl rfl rfl ?_
              refine RW.v rfl (V.pickF (d := Bo false) rfl rfl rfl) ?_
              refine RW.nil ?_
              exact ⟨_, by first | rfl | (simp_all; done) | (simp_all; omega) | grind, rfl, Le.c rfl <| Le.c rfl <| Le.c rfl <| Le.c rfl <| Le.c rfl <| Le.c rfl <| Le.c rfl <| Le.c rfl <| Le.c rfl <| Le.e⟩
          · skip
            refine RW.guardF rfl rfl rfl rfl ?_
            refine RW.guardF rfl rfl rfl rfl ?_
            refine RW.guardF rfl rfl rfl rfl ?_
            refine RW.v rfl (V.pickF (d := Bo false) rfl rfl rfl) ?_
            refine RW.v rfl (V.mv (d := Bo false) rfl rfl) ?_
            refine RW.guardF rfl rfl rfl rfl ?_
            refine RW.guardF rfl rfl rfl rfl ?_
            refine RW.guardF rfl rfl rfl rfl ?_
            refine RW.guardF rfl rfl rfl rfl ?_
            refine RW.v rfl (V.pickF (d := Bo false) rfl rfl rfl) ?_
            refine RW.v rfl (V.mv (d := Bo false) rfl rfl) ?_
            refine RW.guardF rfl rfl rfl rfl ?_
            refine RW.guardF rfl rfl rfl rfl ?_
            refine RW.guardF rfl rfl rfl rfl ?_
            refine RW.guardF rfl rfl rfl rfl ?_
            refine RW.guardF rfl rfl rfl rfl ?_
            refine RW.v rfl (V.pickF (d := Bo false) rfl rfl rfl) ?_
            refine RW.nil ?_
            exact ⟨_, by first | rfl | (simp_all; done) | (simp_all; omega) | grind, rfl, Le.c rfl <| Le.c rfl <| Le.c rfl <| Le.c rfl <| Le.c rfl <| Le.c rfl <| Le.c rfl <| Le.c rfl <| Le.c rfl <| Le.e⟩
        · intro v9 hv15
          refine CW.cond rfl (fun h16 => ?_) (fun h16 => ?_)
          · skip
            refine CW.seq ?_
            refine CW.region ?_
            refine RW.v rfl (V.as (d := Bo false) rfl rfl) ?_
            refine RW.nil ?_
            refine CW.le [(2, Bo false)] rfl (Le.c rfl <| Le.e) ?_
            refine CW.ret ?_
            exact Post.bool rfl (by rw [← hr, hdi, pairs, ← hs, hdk, List.any_cons, show badOnce ei ek = true from by clear hr hs; first | (simp_all [badOnce]; done) | grind [badOnce]]; simp) (AOs.r AOs.e)
          · skip
            refine CW.skip ?_
            refine CW.le [(0, .r (sl 10 Reply.c a)), (4, .obj b2 ((Reply.c ei).map .r)), (8, .r (sl 10 Reply.c a)), (9, I (a.length : Int)), (10, I (i : Int)), (17, .r (sl 10 Reply.c (a.take i))), (18, I ((a.take i).length : Int)), (19, I (k : Int))] rfl (Le.c rfl <| Le.c rfl <| Le.c rfl <| Le.c rfl <| Le.c rfl <| Le.c rfl <| Le.c rfl <| Le.c rfl <| Le.e) ?_
            refine CW.region ?_
            refine RW.v rfl (V.inc rfl rfl rfl hkl (Nat.le_trans (Nat.le_of_lt hii) hl0)) ?_
            refine RW.v rfl (V.mv (d := I ((k + 1 : Nat) : Int)) rfl rfl) ?_
            refine RW.nil ?_
            exact ⟨k + 1, by omega, ⟨by omega, by rw [← hs, hdk, List.any_cons, show badOnce ei ek = false from by clear hr hs; first | (simp_all [badOnce]; done) | grind [badOnce]]; simp⟩, rfl, Le.c rfl <| Le.c rfl <| Le.c rfl <| Le.c rfl <| Le.c rfl <| Le.c rfl <| Le.c rfl <| Le.c rfl <| Le.e⟩
    · skip
      have hik : (a.take i).length ≤ k := by have := h3; simp at this; first | exact this | (simp; omega)
      have hdk : (a.take i).drop k = [] := List.drop_eq_nil_of_le hik
      refine CW.exit ?_
      refine CW.le [(0, .r (sl 10 Reply.c a)), (8, .r (sl 10 Reply.c a)), (9, I (a.length : Int)), (10, I (i : Int))] rfl (Le.c rfl <| Le.c rfl <| Le.c rfl <| Le.c rfl <| Le.e) ?_
      refine CW.region ?_
      refine RW.v rfl (V.inc rfl rfl rfl hii hl0) ?_
      refine RW.v rfl (V.mv (d := I ((i + 1 : Nat) : Int)) rfl rfl) ?_
      refine RW.nil ?_
      exact ⟨i + 1, by omega, ⟨by omega, by rw [← hr, hdi, pairs, ← hs, hdk, take_snoc hei]; simp⟩, rfl, Le.c rfl <| Le.c rfl <| Le.c rfl <| Le.c rfl <| Le.e⟩
  · skip
    have hii : a.length ≤ i := by have := h1; simp at this; first | exact this | (simp; omega)
    have hdi : a.drop i = [] := List.drop_eq_nil_of_le hii
    refine CW.exit ?_
    refine CW.le [] rfl (Le.e) ?_
    refine CW.seq ?_
    refine CW.region ?_
    refine RW.v rfl (V.as (d := Bo true) rfl rfl) ?_
    refine RW.nil ?_
    refine CW.le [(2, Bo true)] rfl (Le.c rfl <| Le.e) ?_
    refine CW.ret ?_
    exact Post.bool rfl (by first | (simp_all [pairs]; done) | grind [pairs]) (AOs.r AOs.e)
theorem laws_FnExactOnce_fn (a : List Reply) : Eng.Fn E.P 5 [.one (.r (sl 10 Reply.c a))] (.one (.one (.w (.v (.bool true))))) [.one (.r (sl 10 Reply.c a))] := by
  refine Eng.Fn.intro (E := E) (rvs := [.tmp 2]) Try.func5 rfl rfl rfl (by simp [outSlots, moved, rvSlot]) ?_
  intro B g bo
  refine CW.bound (x := .tmp 0) (n := a.length) (AsT.r) (fun hl0 => ?_)
  refine CW.le [(0, .r (sl 10 Reply.c a))] rfl (Le.c rfl <| Le.e) ?_
  refine CW.seq ?_
  refine CW.region ?_
  refine RW.v rfl (V.as (d := Bo false) rfl rfl) ?_
  refine RW.nil ?_
  refine CW.le [(0, .r (sl 10 Reply.c a))] rfl (Le.c rfl <| Le.e) ?_
  refine CW.seq ?_
  refine CW.region ?_
  refine RW.v rfl (V.as (d := I 1048576) rfl rfl) ?_
  refine RW.nil ?_
  refine CW.le [(0, .r (sl 10 Reply.c a)), (3, I 1048576)] rfl (Le.c rfl <| Le.c rfl <| Le.e) ?_
  refine CW.seq ?_
  refine CW.region ?_
  refine RW.v rfl (V.mv (d := .r (sl 10 Reply.c a)) rfl rfl) ?_
  refine RW.v rfl (V.mv (d := I 1048576) rfl rfl) ?_
  refine RW.call rfl (laws_szReplyS_fn a 1048576) rfl (.cons (.one (.r .r)) (.cons (.one (.r .r)) (.nil))) fun g1 => ?_
  refine RW.v rfl (V.as (d := I (szS szReply a 1048576)) rfl rfl) ?_
  refine RW.nil ?_
  refine CW.le [(0, .r (sl 10 Reply.c a)), (3, I (szS szReply a 1048576))] rfl (Le.c rfl <| Le.c rfl <| Le.e) ?_
  refine CW.seq ?_
  refine CW.seq ?_
  refine CW.region ?_
  refine RW.v rfl (V.mv (d := I (szS szReply a 1048576)) rfl rfl) ?_
  refine RW.v rfl (V.cmpInt rfl rfl rfl rfl) ?_
  refine RW.nil ?_
  refine CW.le [(0, .r (sl 10 Reply.c a)), (11, Bo (decide ((szS szReply a 1048576) < 0)))] rfl (Le.c rfl <| Le.c rfl <| Le.e) ?_
  refine CW.cond rfl (fun h2 => ?_) (fun h2 => ?_)
  · skip
    refine CW.seq ?_
    refine CW.region ?_
    refine RW.v rfl (V.as (d := Bo true) rfl rfl) ?_
    refine RW.nil ?_
    refine CW.le [(2, Bo true)] rfl (Le.c rfl <| Le.e) ?_
    refine CW.ret ?_
    exact Post.bool rfl (by first | rfl | simp_all [eqS_refl eqReply_refl]) (AOs.r AOs.e)
  · skip
    refine CW.skip ?_
    refine CW.le [(0, .r (sl 10 Reply.c a))] rfl (Le.c rfl <| Le.e) ?_
    refine CW.seq ?_
    refine CW.region ?_
    refine RW.v rfl (V.mv (d := .r (sl 10 Reply.c a)) rfl rfl) ?_
    refine RW.call rfl (laws_toReplyS_fn a (szS_len hl0 (by simpa using h2))) rfl (.cons (.one (.r .r)) (.nil)) fun g3 => ?_
    refine RW.callOwn rfl (spec_Once_fn a) rfl (.cons (.one (.r (.al rfl rfl nofun))) (.nil)) rfl fun g4 => ?_
    refine RW.v rfl (V.as (d := Bo (pairs badOnce [] a)) rfl rfl) ?_
    refine RW.nil ?_
    refine CW.le [(0, .r (sl 10 Reply.c a)), (4, Bo (pairs badOnce [] a))] rfl (Le.c rfl <| Le.c rfl <| Le.e) ?_
    refine CW.seq ?_
    refine CW.region ?_
    refine RW.v rfl (V.mv (d := .r (sl 10 Reply.c a)) rfl rfl) ?_
    refine RW.call rfl (laws_toReplyS_fn a (szS_len hl0 (by simpa using h2))) rfl (.cons (.one (.r .r)) (.nil)) fun g5 => ?_
    refine RW.assignMove rfl rfl rfl (by decide) (Nat.le_of_ble_eq_true rfl) (Nat.le_of_ble_eq_true rfl) ?_
    refine RW.nil ?_
    refine CW.le [(0, .r (sl 10 Reply.c a)), (4, Bo (pairs badOnce [] a)), (5, .w (sl 10 Reply.c a) (g5 0 0))] rfl (Le.c rfl <| Le.c rfl <| Le.c rfl <| Le.e) ?_
    refine CW.seq ?_
    refine CW.region ?_
    refine RW.v rfl (V.mv (d := .al 5 none 10 a.length (g5 0 0) 0) rfl rfl) ?_
    refine RW.callOwn rfl (impl_Once_fn a) rfl (.cons (.one (.r (.al rfl rfl nofun))) (.nil)) rfl fun g6 => ?_
    refine RW.v rfl (V.as (d := Bo (pairs badOnce [] a)) rfl rfl) ?_
    refine RW.nil ?_
    refine CW.le [(0, .r (sl 10 Reply.c a)), (4, Bo (pairs badOnce [] a)), (5, .w (sl 10 Reply.c a) (g5 0 0)), (6, Bo (pairs badOnce [] a))] rfl (Le.c rfl <| Le.c rfl <| Le.c rfl <| Le.c rfl <| Le.e) ?_
    refine CW.seq ?_
    refine CW.seq ?_
    refine CW.region ?_
    refine RW.v rfl (V.mv (d := Bo (pairs badOnce [] a)) rfl rfl) ?_
    refine RW.v rfl (V.mv (d := Bo (pairs badOnce [] a)) rfl rfl) ?_
    refine RW.v rfl (V.eqBool rfl rfl rfl (by kernel_rfl) (.inr ⟨rfl, rfl⟩)) ?_
    refine RW.nil ?_
    refine CW.le [(0, .r (sl 10 Reply.c a)), (5, .w (sl 10 Reply.c a) (g5 0 0)), (21, Bo (!((pairs badOnce [] a) == (pairs badOnce [] a))))] rfl (Le.c rfl <| Le.c rfl <| Le.c rfl <| Le.e) ?_
    refine CW.cond rfl (fun h7 => ?_) (fun h7 => ?_)
    · skip
      refine CW.seq ?_
      refine CW.region ?_
      refine RW.v rfl (V.as (d := Bo false) rfl rfl) ?_
      refine RW.nil ?_
      refine CW.le [(2, Bo false)] rfl (Le.c rfl <| Le.e) ?_
      refine CW.ret ?_
      exact Post.bool rfl (by first | rfl | simp_all [eqS_refl eqReply_refl]) (AOs.r AOs.e)
    · skip
      refine CW.skip ?_
      refine CW.le [(0, .r (sl 10 Reply.c a)), (5, .w (sl 10 Reply.c a) (g5 0 0))] rfl (Le.c rfl <| Le.c rfl <| Le.e) ?_
      refine CW.seq ?_
      refine CW.seq ?_
      refine CW.region ?_
      refine RW.v rfl (V.mv (d := .al 5 none 10 a.length (g5 0 0) 0) rfl rfl) ?_
      refine RW.v rfl (V.mv (d := .r (sl 10 Reply.c a)) rfl rfl) ?_
      refine RW.call rfl (laws_toReplyS_fn a (szS_len hl0 (by simpa using h2))) rfl (.cons (.one (.r .r)) (.nil)) fun g8 => ?_
      refine RW.callOwn rfl (laws_eqReplyS_fn a a) rfl (.cons (.one (.r (.al rfl rfl nofun))) (.cons (.one (.r (.al rfl rfl nofun))) (.nil))) rfl fun g9 => ?_
      refine RW.v rfl (V.not rfl rfl) ?_
      refine RW.nil ?_
      refine CW.le [(26, Bo (!(eqS eqReply a a)))] rfl (Le.c rfl <| Le.e) ?_
      refine CW.cond rfl (fun h10 => ?_) (fun h10 => ?_)
      · skip
        refine CW.seq ?_
        refine CW.region ?_
        refine RW.v rfl (V.as (d := Bo false) rfl rfl) ?_
        refine RW.nil ?_
        refine CW.le [(2, Bo false)] rfl (Le.c rfl <| Le.e) ?_
        refine CW.ret ?_
        exact Post.bool rfl (by first | rfl | simp_all [eqS_refl eqReply_refl]) (AOs.r AOs.e)
      · skip
        refine CW.skip ?_
        refine CW.le [] rfl (Le.e) ?_
        refine CW.seq ?_
        refine CW.region ?_
        refine RW.v rfl (V.as (d := Bo true) rfl rfl) ?_
        refine RW.nil ?_
        refine CW.le [(2, Bo true)] rfl (Le.c rfl <| Le.e) ?_
        refine CW.ret ?_
        exact Post.bool rfl (by first | rfl | simp_all [eqS_refl eqReply_refl]) (AOs.r AOs.e)
end Go.Proofs.Ythkiegfcahigkaa.Y
