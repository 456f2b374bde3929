import Derived.Test.YtaeagpakloggfaaDoorPu
import Derived.Test.YtaeagpakloggfaaDoorProg
namespace Go.Proofs.YtaeagpakloggfaaDoor.Y
open Go Go.RowKit Go.Eng Go.Proofs
set_option maxRecDepth 10000
def tl : List (Nat × TyI) := [
(3, ⟨1, 8, [.int .i64 0], .prim⟩),
(4, ⟨1, 1, [.bool false], .prim⟩),
(5, ⟨1, 1, [.int .u8 0], .prim⟩),
(9, ⟨1, 16, [.string ⟨#[]⟩], .prim⟩),
(22, ⟨1, 24, [.slice none 0 0], .slice 101⟩),
(23, ⟨1, 24, [.slice none 0 0], .slice 103⟩),
(25, ⟨2, 48, [.slice none 0 0, .slice none 0 0], .agg [(0, 22, 1), (1, 23, 1)]⟩),
(28, ⟨1, 24, [.slice none 0 0], .slice 48⟩),
(29, ⟨1, 24, [.slice none 0 0], .slice 42⟩),
(31, ⟨2, 48, [.slice none 0 0, .slice none 0 0], .agg [(0, 28, 1), (1, 29, 1)]⟩),
(35, ⟨1, 24, [.slice none 0 0], .slice 5⟩),
(38, ⟨6, 64, [.int .i64 0, .int .i64 0, .int .i64 0, .string ⟨#[]⟩, .string ⟨#[]⟩, .int .i64 0], .agg [(0, 3, 1), (1, 3, 1), (2, 3, 1), (3, 9, 1), (4, 9, 1), (5, 3, 1)]⟩),
(42, ⟨3, 40, [.string ⟨#[]⟩, .string ⟨#[]⟩, .int .i64 0], .agg [(0, 9, 1), (1, 9, 1), (2, 3, 1)]⟩),
(48, ⟨3, 32, [.int .i64 0, .int .i64 0, .string ⟨#[]⟩], .agg [(0, 3, 1), (1, 3, 1), (2, 9, 1)]⟩),
(56, ⟨6, 64, [.int .i64 0, .int .i64 0, .int .i64 0, .string ⟨#[]⟩, .string ⟨#[]⟩, .int .i64 0], .agg [(0, 3, 1), (1, 3, 1), (2, 3, 1), (3, 9, 1), (4, 9, 1), (5, 3, 1)]⟩),
(101, ⟨3, 32, [.int .i64 0, .int .i64 0, .string ⟨#[]⟩], .agg [(0, 3, 1), (1, 3, 1), (2, 9, 1)]⟩),
(103, ⟨3, 40, [.string ⟨#[]⟩, .string ⟨#[]⟩, .int .i64 0], .agg [(0, 9, 1), (1, 9, 1), (2, 3, 1)]⟩)]
theorem tl_ok : ∀ p ∈ tl, tyI Tryd.prog p.1 = some p.2 := by
  refine List.forall_mem_cons.2 ⟨by kernel_rfl, ?_⟩
  refine List.forall_mem_cons.2 ⟨by kernel_rfl, ?_⟩
  refine List.forall_mem_cons.2 ⟨by kernel_rfl, ?_⟩
  refine List.forall_mem_cons.2 ⟨by kernel_rfl, ?_⟩
  refine List.forall_mem_cons.2 ⟨by kernel_rfl, ?_⟩
  refine List.forall_mem_cons.2 ⟨by kernel_rfl, ?_⟩
  refine List.forall_mem_cons.2 ⟨by kernel_rfl, ?_⟩
  refine List.forall_mem_cons.2 ⟨by kernel_rfl, ?_⟩
  refine List.forall_mem_cons.2 ⟨by kernel_rfl, ?_⟩
  refine List.forall_mem_cons.2 ⟨by kernel_rfl, ?_⟩
  refine List.forall_mem_cons.2 ⟨by kernel_rfl, ?_⟩
  refine List.forall_mem_cons.2 ⟨by kernel_rfl, ?_⟩
  refine List.forall_mem_cons.2 ⟨by kernel_rfl, ?_⟩
  refine List.forall_mem_cons.2 ⟨by kernel_rfl, ?_⟩
  refine List.forall_mem_cons.2 ⟨by kernel_rfl, ?_⟩
  refine List.forall_mem_cons.2 ⟨by kernel_rfl, ?_⟩
  refine List.forall_mem_cons.2 ⟨by kernel_rfl, ?_⟩
  exact fun _ h => by cases h
noncomputable def E : Env := ⟨Tryd.prog, lk tl, fun t i h => tl_ok (t, i) (lk_mem _ _ _ h), by kernel_rfl⟩
def kl : List (Nat × TypeDesc) := [(3, .int .i64), (4, .bool), (5, .int .u8), (9, .string)]
theorem kl_ok : ∀ p ∈ kl, Tryd.prog.underlying p.1 = some p.2 := by
  refine List.forall_mem_cons.2 ⟨by kernel_rfl, ?_⟩
  refine List.forall_mem_cons.2 ⟨by kernel_rfl, ?_⟩
  refine List.forall_mem_cons.2 ⟨by kernel_rfl, ?_⟩
  refine List.forall_mem_cons.2 ⟨by kernel_rfl, ?_⟩
  exact fun _ h => by cases h
noncomputable def XK : Kd E.P := ⟨lk kl, fun t d h => kl_ok (t, d) (lk_mem _ _ _ h)⟩
theorem eq38_in (x y : Command) (n : Nat) (w : World) : (Op.equalIn (n + 2) 38 (.agg x.vs.toArray) (.agg y.vs.toArray)).run Tryd.prog w = .ok (eqCommand x y) w := by
  refine eqA_of Tryd.underlying38 (by kernel_rfl) ?_
  refine eqF_cons (by rfl) (by go_simp; rfl) (by go_simp; rfl) (by go_simp) ?_
  refine eqF_cons (by rfl) (by go_simp; rfl) (by go_simp; rfl) (by go_simp) ?_
  refine eqF_cons (by rfl) (by go_simp; rfl) (by go_simp; rfl) (by go_simp) ?_
  refine eqF_cons (by rfl) (by go_simp; rfl) (by go_simp; rfl) (by go_simp) ?_
  refine eqF_cons (by rfl) (by go_simp; rfl) (by go_simp; rfl) (by go_simp) ?_
  exact eqF_last (by rfl) (by go_simp; rfl) (by go_simp; rfl) (by go_simp)
theorem eq38 (x y : Command) (w : World) : (Op.equal 38 (.agg x.vs.toArray) (.agg y.vs.toArray)).run E.P w = .ok (eqCommand x y) w := eq38_in x y 9998 w
set_option maxHeartbeats 4000000 in
theorem laws_szSession_fn (a : Session) (left : Int) : Eng.Fn E.P 69 [.agg ((Session.c a).map .r), .one (.r (.v (.int .i64 left)))] (.one (.one (.w (.v (.int .i64 (szSession a left)))))) [.agg ((Session.c a).map .r), .one (.r (.v (.int .i64 left)))] := by
 refine Eng.Fn.intro (E := E) (rvs := [.tmp 4]) Tryd.func69 rfl rfl rfl (by simp [outSlots, moved, rvSlot, sl]) ?_
 intro B g bo
 refine CW.keep 13 [0,1] rfl ?_;(conv=>whnf);refine ⟨?_⟩
 refine CW.seq ?_
 refine CW.region ?_
 refine RW.k XK 13 1 rfl ?_
 (conv=>whnf);intro b1;(conv=>whnf);refine ⟨rfl,?_⟩
 refine RW.freezeB (ts := (Session.c a)) 2 rfl (DRd.r (DRd.r (DRd.r DRd.e))) ?_
 refine RW.k XK 13 1 rfl ?_
 (conv=>whnf);refine ⟨rfl,?_⟩
 refine RW.nil ?_
 refine CW.keep 13 [1,2] rfl ?_;(conv=>whnf);refine ⟨?_⟩
 refine CW.k XK 13 1 [1] rfl ?_
 (conv=>whnf);refine ⟨rfl,?_⟩
 refine CW.seq ?_
 refine CW.k XK 13 1 [1,11] rfl ?_
 (conv=>whnf);refine ⟨rfl,?_⟩
 refine CW.cond rfl (fun h2 => ?_) (fun h2 => ?_)
 ·skip
  refine CW.k XK 13 1 [4] rfl ?_
  (conv=>whnf);refine ⟨rfl,?_⟩
  refine CW.ret ?_
  exact Post.one (RV.i rfl (by first | (simp_all [szSession]; done) | (simp_all [szSession]; omega) | grind [szSession])) (AOs.a rfl (AOs.r AOs.e))
 ·skip
  refine CW.skip ?_
  refine CW.keep 13 [1] rfl ?_;(conv=>whnf);refine ⟨?_⟩
  refine CW.k XK 13 1 [4] rfl ?_
  (conv=>whnf);refine ⟨rfl,?_⟩
  refine CW.ret ?_
  exact Post.one (RV.i rfl (by first | (simp_all [szSession]; done) | (simp_all [szSession]; omega) | grind [szSession])) (AOs.a rfl (AOs.r AOs.e))
set_option maxHeartbeats 4000000 in
theorem laws_szSessionS_fn (a : List Session) (left : Int) : Eng.Fn E.P 34 [.one (.r (sl 3 Session.c a)), .one (.r (.v (.int .i64 left)))] (.one (.one (.w (.v (.int .i64 (szS szSession a left)))))) [.one (.r (sl 3 Session.c a)), .one (.r (.v (.int .i64 left)))] := by
 refine Eng.Fn.intro (E := E) (rvs := [.tmp 4]) Tryd.func34 rfl rfl rfl (by simp [outSlots, moved, rvSlot, sl]) ?_
 intro B g bo
 refine CW.bound (x := .tmp 0) (n := a.length) (AsT.r) (fun hl0 => ?_)
 refine CW.keep 27 [0,1] rfl ?_;(conv=>whnf);refine ⟨?_⟩
 refine CW.k XK 27 2 [0,1] rfl ?_
 (conv=>whnf);refine ⟨rfl,?_⟩
 refine CW.seq ?_
 refine CW.k XK 27 1 [0,1,11] rfl ?_
 (conv=>whnf);refine ⟨rfl,?_⟩
 refine CW.cond rfl (fun h1 => ?_) (fun h1 => ?_)
 ·skip
  refine CW.k XK 27 1 [4] rfl ?_
  (conv=>whnf);refine ⟨rfl,?_⟩
  refine CW.ret ?_
  exact Post.one (RV.i rfl (by first | (simp_all [szS, szL, szStr, szI]; done) | grind [szS, szL, szStr, szI])) (AOs.r (AOs.r AOs.e))
 ·skip
  refine CW.skip ?_
  refine CW.keep 27 [0,1] rfl ?_;(conv=>whnf);refine ⟨?_⟩
  refine CW.seq ?_
  refine CW.k XK 27 1 [0,1,5] rfl ?_
  (conv=>whnf);refine ⟨rfl,?_⟩
  refine CW.block ?_
  refine CW.loopI 27 (fun (zz : Nat × Int) => match zz with | (i, l) => [(0, .r (sl 3 Session.c a)), (1, I l), (5, I (i : Int))]) (fun (zz : Nat × Int) => match zz with | (i, l) => i ≤ a.length ∧ szL szSession (a.drop i) l = szS szSession a left) (fun (zz : Nat × Int) => match zz with | (i, l) => a.length - i) (0, _) rfl (Le.c rfl <| Le.c rfl <| Le.c rfl <| Le.e) ⟨by omega, by first | (simp_all [szS]; done) | grind [szS]⟩ ?_
  rintro ⟨i, l⟩ ⟨hb, hr⟩
  refine CW.seq ?_
  refine CW.k XK 27 1 [0,1,5,15] rfl ?_
  (conv=>whnf);refine ⟨rfl,?_⟩
  refine CW.cond rfl (fun h2 => ?_) (fun h2 => ?_)
  ·skip
   have hii : i < a.length := by have := h2; simp at this; first | exact this | omega | (simp; done) | (simp; omega)
   obtain ⟨ei, hei⟩ : ∃ e, a[i]? = some e := ⟨_, List.getElem?_eq_getElem hii⟩
   have hdi := drop_get hei
   refine CW.skip ?_
   refine CW.keep 27 [0,1,5] rfl ?_;(conv=>whnf);refine ⟨?_⟩
   refine CW.seq ?_
   refine CW.block ?_
   refine CW.seq ?_
   refine CW.region ?_
   refine RW.k XK 27 2 rfl ?_
   (conv=>whnf);refine ⟨rfl,?_⟩
   refine RW.v rfl (V.indexS rfl rfl rfl rfl rfl rfl Session.len hei) ?_
   refine RW.k XK 27 2 rfl ?_
   (conv=>whnf);refine ⟨rfl,?_⟩
   refine RW.call rfl (laws_szSession_fn ei l) rfl (.cons (.agg (.cons (.r .r) (.cons (.r .r) (.cons (.r .r) (.nil))))) (.cons (.one (.r .r)) (.nil))) fun g3 => ?_
   refine RW.k XK 27 1 rfl ?_
   (conv=>whnf);refine ⟨rfl,?_⟩
   refine RW.nil ?_
   refine CW.keep 27 [0,1,5] rfl ?_;(conv=>whnf);refine ⟨?_⟩
   refine CW.k XK 27 1 [0,1,5,25] rfl ?_
   (conv=>whnf);refine ⟨rfl,?_⟩
   refine CW.cond rfl (fun h4 => ?_) (fun h4 => ?_)
   ·skip
    refine CW.k XK 27 1 [4] rfl ?_
    (conv=>whnf);refine ⟨rfl,?_⟩
    refine CW.ret ?_
    exact Post.one (RV.i rfl (by first | (simp_all [szS, szL, szStr, szI]; done) | grind [szS, szL, szStr, szI])) (AOs.r (AOs.r AOs.e))
   ·skip
    refine CW.skip ?_
    refine CW.keep 27 [0,1,5] rfl ?_;(conv=>whnf);refine ⟨?_⟩
    refine CW.region ?_
    refine RW.k XK 27 1 rfl ?_
    (conv=>whnf);refine ⟨rfl,?_⟩
    refine RW.v rfl (V.inc rfl rfl rfl hii hl0) ?_
    refine RW.k XK 27 1 rfl ?_
    (conv=>whnf);refine ⟨rfl,?_⟩
    refine RW.nil ?_
    exact ⟨(i + 1, _), by simp only []; omega, ⟨by omega, by first | (simp_all [szL, szStr, szI]; done) | grind [szL, szStr, szI]⟩, rfl, Le.c rfl <| Le.c rfl <| Le.c rfl <| Le.e⟩
  ·skip
   have hii : a.length ≤ i := by have := h2; simp at this; first | exact this | omega | (simp; done) | (simp; omega)
   have hdi : a.drop i = [] := List.drop_eq_nil_of_le hii
   refine CW.exit ?_
   refine CW.keep 27 [1] rfl ?_;(conv=>whnf);refine ⟨?_⟩
   refine CW.k XK 27 1 [4] rfl ?_
   (conv=>whnf);refine ⟨rfl,?_⟩
   refine CW.ret ?_
   exact Post.one (RV.i rfl (by first | (simp_all [szS, szL, szStr, szI]; done) | grind [szS, szL, szStr, szI])) (AOs.r (AOs.r AOs.e))
set_option maxHeartbeats 4000000 in
theorem laws_szItem_fn (a : Item) (left : Int) : Eng.Fn E.P 70 [.agg ((Item.c a).map .r), .one (.r (.v (.int .i64 left)))] (.one (.one (.w (.v (.int .i64 (szItem a left)))))) [.agg ((Item.c a).map .r), .one (.r (.v (.int .i64 left)))] := by
 refine Eng.Fn.intro (E := E) (rvs := [.tmp 4]) Tryd.func70 rfl rfl rfl (by simp [outSlots, moved, rvSlot, sl]) ?_
 intro B g bo
 refine CW.keep 20 [0,1] rfl ?_;(conv=>whnf);refine ⟨?_⟩
 refine CW.seq ?_
 refine CW.region ?_
 refine RW.k XK 20 1 rfl ?_
 (conv=>whnf);intro b1;(conv=>whnf);refine ⟨rfl,?_⟩
 refine RW.freezeB (ts := (Item.c a)) 2 rfl (DRd.r (DRd.r (DRd.r DRd.e))) ?_
 refine RW.k XK 20 1 rfl ?_
 (conv=>whnf);refine ⟨rfl,?_⟩
 refine RW.nil ?_
 refine CW.keep 20 [1,2] rfl ?_;(conv=>whnf);refine ⟨?_⟩
 refine CW.k XK 20 1 [1,2] rfl ?_
 (conv=>whnf);refine ⟨rfl,?_⟩
 refine CW.seq ?_
 refine CW.k XK 20 1 [1,2,11] rfl ?_
 (conv=>whnf);refine ⟨rfl,?_⟩
 refine CW.cond rfl (fun h2 => ?_) (fun h2 => ?_)
 ·skip
  refine CW.k XK 20 1 [4] rfl ?_
  (conv=>whnf);refine ⟨rfl,?_⟩
  refine CW.ret ?_
  exact Post.one (RV.i rfl (by first | (simp_all [szItem]; done) | (simp_all [szItem]; omega) | grind [szItem])) (AOs.a rfl (AOs.r AOs.e))
 ·skip
  refine CW.skip ?_
  refine CW.keep 20 [1,2] rfl ?_;(conv=>whnf);refine ⟨?_⟩
  refine CW.k XK 20 1 [1] rfl ?_
  (conv=>whnf);refine ⟨rfl,?_⟩
  refine CW.seq ?_
  refine CW.k XK 20 1 [1,18] rfl ?_
  (conv=>whnf);refine ⟨rfl,?_⟩
  refine CW.cond rfl (fun h3 => ?_) (fun h3 => ?_)
  ·skip
   refine CW.k XK 20 1 [4] rfl ?_
   (conv=>whnf);refine ⟨rfl,?_⟩
   refine CW.ret ?_
   exact Post.one (RV.i rfl (by first | (simp_all [szItem]; done) | (simp_all [szItem]; omega) | grind [szItem])) (AOs.a rfl (AOs.r AOs.e))
  ·skip
   refine CW.skip ?_
   refine CW.keep 20 [1] rfl ?_;(conv=>whnf);refine ⟨?_⟩
   refine CW.k XK 20 1 [4] rfl ?_
   (conv=>whnf);refine ⟨rfl,?_⟩
   refine CW.ret ?_
   exact Post.one (RV.i rfl (by first | (simp_all [szItem]; done) | (simp_all [szItem]; omega) | grind [szItem])) (AOs.a rfl (AOs.r AOs.e))
set_option maxHeartbeats 4000000 in
theorem laws_szItemS_fn (a : List Item) (left : Int) : Eng.Fn E.P 35 [.one (.r (sl 3 Item.c a)), .one (.r (.v (.int .i64 left)))] (.one (.one (.w (.v (.int .i64 (szS szItem a left)))))) [.one (.r (sl 3 Item.c a)), .one (.r (.v (.int .i64 left)))] := by
 refine Eng.Fn.intro (E := E) (rvs := [.tmp 4]) Tryd.func35 rfl rfl rfl (by simp [outSlots, moved, rvSlot, sl]) ?_
 intro B g bo
 refine CW.bound (x := .tmp 0) (n := a.length) (AsT.r) (fun hl0 => ?_)
 refine CW.keep 27 [0,1] rfl ?_;(conv=>whnf);refine ⟨?_⟩
 refine CW.k XK 27 2 [0,1] rfl ?_
 (conv=>whnf);refine ⟨rfl,?_⟩
 refine CW.seq ?_
 refine CW.k XK 27 1 [0,1,11] rfl ?_
 (conv=>whnf);refine ⟨rfl,?_⟩
 refine CW.cond rfl (fun h1 => ?_) (fun h1 => ?_)
 ·skip
  refine CW.k XK 27 1 [4] rfl ?_
  (conv=>whnf);refine ⟨rfl,?_⟩
  refine CW.ret ?_
  exact Post.one (RV.i rfl (by first | (simp_all [szS, szL, szStr, szI]; done) | grind [szS, szL, szStr, szI])) (AOs.r (AOs.r AOs.e))
 ·skip
  refine CW.skip ?_
  refine CW.keep 27 [0,1] rfl ?_;(conv=>whnf);refine ⟨?_⟩
  refine CW.seq ?_
  refine CW.k XK 27 1 [0,1,5] rfl ?_
  (conv=>whnf);refine ⟨rfl,?_⟩
  refine CW.block ?_
  refine CW.loopI 27 (fun (zz : Nat × Int) => match zz with | (i, l) => [(0, .r (sl 3 Item.c a)), (1, I l), (5, I (i : Int))]) (fun (zz : Nat × Int) => match zz with | (i, l) => i ≤ a.length ∧ szL szItem (a.drop i) l = szS szItem a left) (fun (zz : Nat × Int) => match zz with | (i, l) => a.length - i) (0, _) rfl (Le.c rfl <| Le.c rfl <| Le.c rfl <| Le.e) ⟨by omega, by first | (simp_all [szS]; done) | grind [szS]⟩ ?_
  rintro ⟨i, l⟩ ⟨hb, hr⟩
  refine CW.seq ?_
  refine CW.k XK 27 1 [0,1,5,15] rfl ?_
  (conv=>whnf);refine ⟨rfl,?_⟩
  refine CW.cond rfl (fun h2 => ?_) (fun h2 => ?_)
  ·skip
   have hii : i < a.length := by have := h2; simp at this; first | exact this | omega | (simp; done) | (simp; omega)
   obtain ⟨ei, hei⟩ : ∃ e, a[i]? = some e := ⟨_, List.getElem?_eq_getElem hii⟩
   have hdi := drop_get hei
   refine CW.skip ?_
   refine CW.keep 27 [0,1,5] rfl ?_;(conv=>whnf);refine ⟨?_⟩
   refine CW.seq ?_
   refine CW.block ?_
   refine CW.seq ?_
   refine CW.region ?_
   refine RW.k XK 27 2 rfl ?_
   (conv=>whnf);refine ⟨rfl,?_⟩
   refine RW.v rfl (V.indexS rfl rfl rfl rfl rfl rfl Item.len hei) ?_
   refine RW.k XK 27 2 rfl ?_
   (conv=>whnf);refine ⟨rfl,?_⟩
   refine RW.call rfl (laws_szItem_fn ei l) rfl (.cons (.agg (.cons (.r .r) (.cons (.r .r) (.cons (.r .r) (.nil))))) (.cons (.one (.r .r)) (.nil))) fun g3 => ?_
   refine RW.k XK 27 1 rfl ?_
   (conv=>whnf);refine ⟨rfl,?_⟩
   refine RW.nil ?_
   refine CW.keep 27 [0,1,5] rfl ?_;(conv=>whnf);refine ⟨?_⟩
   refine CW.k XK 27 1 [0,1,5,25] rfl ?_
   (conv=>whnf);refine ⟨rfl,?_⟩
   refine CW.cond rfl (fun h4 => ?_) (fun h4 => ?_)
   ·skip
    refine CW.k XK 27 1 [4] rfl ?_
    (conv=>whnf);refine ⟨rfl,?_⟩
    refine CW.ret ?_
    exact Post.one (RV.i rfl (by first | (simp_all [szS, szL, szStr, szI]; done) | grind [szS, szL, szStr, szI])) (AOs.r (AOs.r AOs.e))
   ·skip
    refine CW.skip ?_
    refine CW.keep 27 [0,1,5] rfl ?_;(conv=>whnf);refine ⟨?_⟩
    refine CW.region ?_
    refine RW.k XK 27 1 rfl ?_
    (conv=>whnf);refine ⟨rfl,?_⟩
    refine RW.v rfl (V.inc rfl rfl rfl hii hl0) ?_
    refine RW.k XK 27 1 rfl ?_
    (conv=>whnf);refine ⟨rfl,?_⟩
    refine RW.nil ?_
    exact ⟨(i + 1, _), by simp only []; omega, ⟨by omega, by first | (simp_all [szL, szStr, szI]; done) | grind [szL, szStr, szI]⟩, rfl, Le.c rfl <| Le.c rfl <| Le.c rfl <| Le.e⟩
  ·skip
   have hii : a.length ≤ i := by have := h2; simp at this; first | exact this | omega | (simp; done) | (simp; omega)
   have hdi : a.drop i = [] := List.drop_eq_nil_of_le hii
   refine CW.exit ?_
   refine CW.keep 27 [1] rfl ?_;(conv=>whnf);refine ⟨?_⟩
   refine CW.k XK 27 1 [4] rfl ?_
   (conv=>whnf);refine ⟨rfl,?_⟩
   refine CW.ret ?_
   exact Post.one (RV.i rfl (by first | (simp_all [szS, szL, szStr, szI]; done) | grind [szS, szL, szStr, szI])) (AOs.r (AOs.r AOs.e))
set_option maxHeartbeats 4000000 in
theorem laws_szKeep_fn (a : Keep) (left : Int) : Eng.Fn E.P 9 [.agg ((Keep.c a).map .r), .one (.r (.v (.int .i64 left)))] (.one (.one (.w (.v (.int .i64 (szKeep a left)))))) [.agg ((Keep.c a).map .r), .one (.r (.v (.int .i64 left)))] := by
 refine Eng.Fn.intro (E := E) (rvs := [.tmp 4]) Tryd.func9 rfl rfl rfl (by simp [outSlots, moved, rvSlot, sl]) ?_
 intro B g bo
 refine CW.keep 18 [0,1] rfl ?_;(conv=>whnf);refine ⟨?_⟩
 refine CW.seq ?_
 refine CW.region ?_
 refine RW.k XK 18 1 rfl ?_
 (conv=>whnf);intro b1;(conv=>whnf);refine ⟨rfl,?_⟩
 refine RW.freezeB (ts := (Keep.c a)) 2 rfl (DRd.r (DRd.r DRd.e)) ?_
 refine RW.k XK 18 1 rfl ?_
 (conv=>whnf);refine ⟨rfl,?_⟩
 refine RW.nil ?_
 refine CW.keep 18 [1,2] rfl ?_;(conv=>whnf);refine ⟨?_⟩
 refine CW.seq ?_
 refine CW.region ?_
 refine RW.k XK 18 3 rfl ?_
 (conv=>whnf);refine ⟨rfl,?_⟩
 refine RW.call rfl (laws_szSessionS_fn a.sessions left) rfl (.cons (.one (.r .r)) (.cons (.one (.r .r)) (.nil))) fun g2 => ?_
 refine RW.k XK 18 1 rfl ?_
 (conv=>whnf);refine ⟨rfl,?_⟩
 refine RW.nil ?_
 refine CW.keep 18 [1,2] rfl ?_;(conv=>whnf);refine ⟨?_⟩
 refine CW.seq ?_
 refine CW.k XK 18 1 [1,2,10] rfl ?_
 (conv=>whnf);refine ⟨rfl,?_⟩
 refine CW.cond rfl (fun h3 => ?_) (fun h3 => ?_)
 ·skip
  refine CW.k XK 18 1 [4] rfl ?_
  (conv=>whnf);refine ⟨rfl,?_⟩
  refine CW.ret ?_
  exact Post.one (RV.i rfl (by first | (simp_all [szKeep]; done) | (simp_all [szKeep]; omega) | grind [szKeep])) (AOs.a rfl (AOs.r AOs.e))
 ·skip
  refine CW.skip ?_
  refine CW.keep 18 [1,2] rfl ?_;(conv=>whnf);refine ⟨?_⟩
  refine CW.seq ?_
  refine CW.region ?_
  refine RW.k XK 18 3 rfl ?_
  (conv=>whnf);refine ⟨rfl,?_⟩
  refine RW.call rfl (laws_szItemS_fn a.items (szS szSession a.sessions left)) rfl (.cons (.one (.r .r)) (.cons (.one (.r .r)) (.nil))) fun g4 => ?_
  refine RW.k XK 18 1 rfl ?_
  (conv=>whnf);refine ⟨rfl,?_⟩
  refine RW.nil ?_
  refine CW.keep 18 [1] rfl ?_;(conv=>whnf);refine ⟨?_⟩
  refine CW.seq ?_
  refine CW.k XK 18 1 [1,16] rfl ?_
  (conv=>whnf);refine ⟨rfl,?_⟩
  refine CW.cond rfl (fun h5 => ?_) (fun h5 => ?_)
  ·skip
   refine CW.k XK 18 1 [4] rfl ?_
   (conv=>whnf);refine ⟨rfl,?_⟩
   refine CW.ret ?_
   exact Post.one (RV.i rfl (by first | (simp_all [szKeep]; done) | (simp_all [szKeep]; omega) | grind [szKeep])) (AOs.a rfl (AOs.r AOs.e))
  ·skip
   refine CW.skip ?_
   refine CW.keep 18 [1] rfl ?_;(conv=>whnf);refine ⟨?_⟩
   refine CW.k XK 18 1 [4] rfl ?_
   (conv=>whnf);refine ⟨rfl,?_⟩
   refine CW.ret ?_
   exact Post.one (RV.i rfl (by first | (simp_all [szKeep]; done) | (simp_all [szKeep]; omega) | grind [szKeep])) (AOs.a rfl (AOs.r AOs.e))
set_option maxHeartbeats 4000000 in
theorem laws_szCommand_fn (a : Command) (left : Int) : Eng.Fn E.P 26 [.agg ((Command.c a).map .r), .one (.r (.v (.int .i64 left)))] (.one (.one (.w (.v (.int .i64 (szCommand a left)))))) [.agg ((Command.c a).map .r), .one (.r (.v (.int .i64 left)))] := by
 refine Eng.Fn.intro (E := E) (rvs := [.tmp 4]) Tryd.func26 rfl rfl rfl (by simp [outSlots, moved, rvSlot, sl]) ?_
 intro B g bo
 refine CW.keep 20 [0,1] rfl ?_;(conv=>whnf);refine ⟨?_⟩
 refine CW.seq ?_
 refine CW.region ?_
 refine RW.k XK 20 1 rfl ?_
 (conv=>whnf);intro b1;(conv=>whnf);refine ⟨rfl,?_⟩
 refine RW.freezeB (ts := (Command.c a)) 2 rfl (DRd.r (DRd.r (DRd.r (DRd.r (DRd.r (DRd.r DRd.e)))))) ?_
 refine RW.k XK 20 1 rfl ?_
 (conv=>whnf);refine ⟨rfl,?_⟩
 refine RW.nil ?_
 refine CW.keep 20 [1,2] rfl ?_;(conv=>whnf);refine ⟨?_⟩
 refine CW.k XK 20 1 [1,2] rfl ?_
 (conv=>whnf);refine ⟨rfl,?_⟩
 refine CW.seq ?_
 refine CW.k XK 20 1 [1,2,11] rfl ?_
 (conv=>whnf);refine ⟨rfl,?_⟩
 refine CW.cond rfl (fun h2 => ?_) (fun h2 => ?_)
 ·skip
  refine CW.k XK 20 1 [4] rfl ?_
  (conv=>whnf);refine ⟨rfl,?_⟩
  refine CW.ret ?_
  exact Post.one (RV.i rfl (by first | (simp_all [szCommand]; done) | (simp_all [szCommand]; omega) | grind [szCommand])) (AOs.a rfl (AOs.r AOs.e))
 ·skip
  refine CW.skip ?_
  refine CW.keep 20 [1,2] rfl ?_;(conv=>whnf);refine ⟨?_⟩
  refine CW.k XK 20 1 [1] rfl ?_
  (conv=>whnf);refine ⟨rfl,?_⟩
  refine CW.seq ?_
  refine CW.k XK 20 1 [1,18] rfl ?_
  (conv=>whnf);refine ⟨rfl,?_⟩
  refine CW.cond rfl (fun h3 => ?_) (fun h3 => ?_)
  ·skip
   refine CW.k XK 20 1 [4] rfl ?_
   (conv=>whnf);refine ⟨rfl,?_⟩
   refine CW.ret ?_
   exact Post.one (RV.i rfl (by first | (simp_all [szCommand]; done) | (simp_all [szCommand]; omega) | grind [szCommand])) (AOs.a rfl (AOs.r AOs.e))
  ·skip
   refine CW.skip ?_
   refine CW.keep 20 [1] rfl ?_;(conv=>whnf);refine ⟨?_⟩
   refine CW.k XK 20 1 [4] rfl ?_
   (conv=>whnf);refine ⟨rfl,?_⟩
   refine CW.ret ?_
   exact Post.one (RV.i rfl (by first | (simp_all [szCommand]; done) | (simp_all [szCommand]; omega) | grind [szCommand])) (AOs.a rfl (AOs.r AOs.e))
set_option maxHeartbeats 4000000 in
theorem laws_toSession_fn (a : Session) (hs : okToSession a) : Eng.Fn E.P 73 [.agg ((Session.c a).map .r)] (.one (.agg ((Session.c a).map .w))) [.agg ((Session.c a).map .r)] := by
 refine Eng.Fn.intro (E := E) (rvs := [.cell 2 48]) Tryd.func73 rfl rfl rfl (by simp [outSlots, moved, rvSlot, sl]) ?_
 intro B g bo
 refine CW.keep 14 [0] rfl ?_;(conv=>whnf);refine ⟨?_⟩
 refine CW.seq ?_
 refine CW.region ?_
 refine RW.k XK 14 1 rfl ?_
 (conv=>whnf);intro b1;(conv=>whnf);refine ⟨rfl,?_⟩
 refine RW.freezeB (ts := (Session.c a)) 1 rfl (DRd.r (DRd.r (DRd.r DRd.e))) ?_
 refine RW.k XK 14 1 rfl ?_
 (conv=>whnf);intro b2;(conv=>whnf);refine ⟨rfl,?_⟩
 refine RW.nil ?_
 refine CW.keep 14 [1,2] rfl ?_;(conv=>whnf);refine ⟨?_⟩
 refine CW.k XK 14 5 [2] rfl ?_
 (conv=>whnf);intro b3;(conv=>whnf);refine ⟨rfl,?_⟩
 refine CW.ret ?_
 exact Post.one (RV.c (f := fun e => (Session.c e).map .w) (e' := a) rfl rfl rfl rfl (DT.v (DT.v (DT.v DT.e))) (by simp_all)) (AOs.a rfl AOs.e)
set_option maxHeartbeats 4000000 in
theorem laws_toSessionS_fn (a : List Session) (hm : a.length ≤ 1048576) (hs : ∀ x ∈ a, okToSession x) : Eng.Fn E.P 38 [.one (.r (sl 3 Session.c a))] (.one (.one (.w (sl 3 Session.c a)))) [.one (.r (sl 3 Session.c a))] := by
 refine Eng.Fn.intro (E := E) (rvs := [.tmp 2]) Tryd.func38 rfl rfl rfl (by simp [outSlots, moved, rvSlot, sl]) ?_
 intro B g bo
 refine CW.bound (x := .tmp 0) (n := a.length) (AsT.r) (fun hl0 => ?_)
 refine CW.keep 23 [0] rfl ?_;(conv=>whnf);refine ⟨?_⟩
 refine CW.k XK 23 1 [0] rfl ?_
 (conv=>whnf);refine ⟨rfl,?_⟩
 refine CW.seq ?_
 refine CW.region ?_
 refine RW.k XK 23 2 rfl ?_
 (conv=>whnf);refine ⟨rfl,?_⟩
 refine RW.makeS (n := a.length) (c := Session.c) Session.z rfl rfl rfl rfl rfl rfl rfl rfl (ZT.v (ZT.v (ZT.v ZT.e))) (by show 32 * a.length ≤ 281474976710656; omega) (by simp only [maxLen]; omega) fun X1 => ?_
 refine RW.assignMove rfl rfl rfl (by decide) (Nat.le_of_ble_eq_true rfl) (Nat.le_of_ble_eq_true rfl) ?_
 refine RW.nil ?_
 refine CW.keep 23 [0,3] rfl ?_;(conv=>whnf);refine ⟨?_⟩
 refine CW.seq ?_
 refine CW.k XK 23 1 [0,3,4] rfl ?_
 (conv=>whnf);refine ⟨rfl,?_⟩
 refine CW.block ?_
 refine CW.loopI 23 (fun (i : Nat) => [(0, .r (sl 3 Session.c a)), (3, .w (sl 3 Session.c (a.take i ++ List.replicate (a.length - i) Session.z)) X1), (4, I (i : Int))]) (fun (i : Nat) => i ≤ a.length) (fun (i : Nat) => a.length - i) 0 rfl (Le.c rfl <| Le.c rfl <| Le.c rfl <| Le.e) (by omega) ?_
 rintro i hb
 refine CW.seq ?_
 refine CW.k XK 23 1 [0,3,4,11] rfl ?_
 (conv=>whnf);refine ⟨rfl,?_⟩
 refine CW.cond rfl (fun h2 => ?_) (fun h2 => ?_)
 ·skip
  have hii : i < a.length := by have := h2; simp at this; first | exact this | omega | (simp; done) | (simp; omega)
  obtain ⟨ei, hei⟩ : ∃ e, a[i]? = some e := ⟨_, List.getElem?_eq_getElem hii⟩
  have hdi := drop_get hei
  refine CW.skip ?_
  refine CW.keep 23 [0,3,4] rfl ?_;(conv=>whnf);refine ⟨?_⟩
  refine CW.seq ?_
  refine CW.block ?_
  refine CW.region ?_
  refine RW.k XK 23 4 rfl ?_
  (conv=>whnf);refine ⟨rfl,?_⟩
  refine RW.v rfl (V.indexS rfl rfl rfl rfl rfl rfl Session.len hei) ?_
  refine RW.k XK 23 1 rfl ?_
  (conv=>whnf);refine ⟨rfl,?_⟩
  refine RW.call rfl (laws_toSession_fn ei (hs ei (List.mem_of_getElem? hei))) rfl (.cons (.agg (.cons (.r .r) (.cons (.r .r) (.cons (.r .r) (.nil))))) (.nil)) fun g3 => ?_
  refine RW.v rfl (V.indexW rfl rfl rfl rfl rfl rfl rfl (by simp; omega)) ?_
  refine RW.storeS (v := ei) rfl rfl rfl rfl rfl rfl rfl (DW.v (DW.v (DW.v DW.e))) Session.len (by decide) (by simp; omega) rfl ?_
  refine RW.nil ?_
  refine CW.keep 23 [0,3,4] rfl ?_;(conv=>whnf);refine ⟨?_⟩
  refine CW.region ?_
  refine RW.k XK 23 1 rfl ?_
  (conv=>whnf);refine ⟨rfl,?_⟩
  refine RW.v rfl (V.inc rfl rfl rfl hii hl0) ?_
  refine RW.k XK 23 1 rfl ?_
  (conv=>whnf);refine ⟨rfl,?_⟩
  refine RW.nil ?_
  exact ⟨i + 1, by omega, by omega, rfl, Le.c rfl <| Le.c (congrArg (fun l => D.w (sl _ Session.c l) X1) (take_set hei)) <| Le.c rfl <| Le.e⟩
 ·skip
  have hii : a.length ≤ i := by have := h2; simp at this; first | exact this | omega | (simp; done) | (simp; omega)
  have hdi : a.drop i = [] := List.drop_eq_nil_of_le hii
  refine CW.exit ?_
  refine CW.keep 23 [3] rfl ?_;(conv=>whnf);refine ⟨?_⟩
  refine CW.seq ?_
  refine CW.region ?_
  refine RW.k XK 23 2 rfl ?_
  (conv=>whnf);refine ⟨rfl,?_⟩
  refine RW.pullS 2 3 (by decide) rfl rfl ?_
  refine RW.nil ?_
  refine CW.keep 23 [2] rfl ?_;(conv=>whnf);refine ⟨?_⟩
  refine CW.ret ?_
  exact Post.one (RV.w rfl (by rw [List.take_of_length_le hii, show a.length - i = 0 from by omega]; simp)) (AOs.r AOs.e)
set_option maxHeartbeats 4000000 in
theorem laws_toItem_fn (a : Item) (hs : okToItem a) : Eng.Fn E.P 74 [.agg ((Item.c a).map .r)] (.one (.agg ((Item.c a).map .w))) [.agg ((Item.c a).map .r)] := by
 refine Eng.Fn.intro (E := E) (rvs := [.cell 2 42]) Tryd.func74 rfl rfl rfl (by simp [outSlots, moved, rvSlot, sl]) ?_
 intro B g bo
 refine CW.keep 14 [0] rfl ?_;(conv=>whnf);refine ⟨?_⟩
 refine CW.seq ?_
 refine CW.region ?_
 refine RW.k XK 14 1 rfl ?_
 (conv=>whnf);intro b1;(conv=>whnf);refine ⟨rfl,?_⟩
 refine RW.freezeB (ts := (Item.c a)) 1 rfl (DRd.r (DRd.r (DRd.r DRd.e))) ?_
 refine RW.k XK 14 1 rfl ?_
 (conv=>whnf);intro b2;(conv=>whnf);refine ⟨rfl,?_⟩
 refine RW.nil ?_
 refine CW.keep 14 [1,2] rfl ?_;(conv=>whnf);refine ⟨?_⟩
 refine CW.k XK 14 5 [2] rfl ?_
 (conv=>whnf);intro b3;(conv=>whnf);refine ⟨rfl,?_⟩
 refine CW.ret ?_
 exact Post.one (RV.c (f := fun e => (Item.c e).map .w) (e' := a) rfl rfl rfl rfl (DT.v (DT.v (DT.v DT.e))) (by simp_all)) (AOs.a rfl AOs.e)
set_option maxHeartbeats 4000000 in
theorem laws_toItemS_fn (a : List Item) (hm : a.length ≤ 1048576) (hs : ∀ x ∈ a, okToItem x) : Eng.Fn E.P 39 [.one (.r (sl 3 Item.c a))] (.one (.one (.w (sl 3 Item.c a)))) [.one (.r (sl 3 Item.c a))] := by
 refine Eng.Fn.intro (E := E) (rvs := [.tmp 2]) Tryd.func39 rfl rfl rfl (by simp [outSlots, moved, rvSlot, sl]) ?_
 intro B g bo
 refine CW.bound (x := .tmp 0) (n := a.length) (AsT.r) (fun hl0 => ?_)
 refine CW.keep 23 [0] rfl ?_;(conv=>whnf);refine ⟨?_⟩
 refine CW.k XK 23 1 [0] rfl ?_
 (conv=>whnf);refine ⟨rfl,?_⟩
 refine CW.seq ?_
 refine CW.region ?_
 refine RW.k XK 23 2 rfl ?_
 (conv=>whnf);refine ⟨rfl,?_⟩
 refine RW.makeS (n := a.length) (c := Item.c) Item.z rfl rfl rfl rfl rfl rfl rfl rfl (ZT.v (ZT.v (ZT.v ZT.e))) (by show 40 * a.length ≤ 281474976710656; omega) (by simp only [maxLen]; omega) fun X1 => ?_
 refine RW.assignMove rfl rfl rfl (by decide) (Nat.le_of_ble_eq_true rfl) (Nat.le_of_ble_eq_true rfl) ?_
 refine RW.nil ?_
 refine CW.keep 23 [0,3] rfl ?_;(conv=>whnf);refine ⟨?_⟩
 refine CW.seq ?_
 refine CW.k XK 23 1 [0,3,4] rfl ?_
 (conv=>whnf);refine ⟨rfl,?_⟩
 refine CW.block ?_
 refine CW.loopI 23 (fun (i : Nat) => [(0, .r (sl 3 Item.c a)), (3, .w (sl 3 Item.c (a.take i ++ List.replicate (a.length - i) Item.z)) X1), (4, I (i : Int))]) (fun (i : Nat) => i ≤ a.length) (fun (i : Nat) => a.length - i) 0 rfl (Le.c rfl <| Le.c rfl <| Le.c rfl <| Le.e) (by omega) ?_
 rintro i hb
 refine CW.seq ?_
 refine CW.k XK 23 1 [0,3,4,11] rfl ?_
 (conv=>whnf);refine ⟨rfl,?_⟩
 refine CW.cond rfl (fun h2 => ?_) (fun h2 => ?_)
 ·skip
  have hii : i < a.length := by have := h2; simp at this; first | exact this | omega | (simp; done) | (simp; omega)
  obtain ⟨ei, hei⟩ : ∃ e, a[i]? = some e := ⟨_, List.getElem?_eq_getElem hii⟩
  have hdi := drop_get hei
  refine CW.skip ?_
  refine CW.keep 23 [0,3,4] rfl ?_;(conv=>whnf);refine ⟨?_⟩
  refine CW.seq ?_
  refine CW.block ?_
  refine CW.region ?_
  refine RW.k XK 23 4 rfl ?_
  (conv=>whnf);refine ⟨rfl,?_⟩
  refine RW.v rfl (V.indexS rfl rfl rfl rfl rfl rfl Item.len hei) ?_
  refine RW.k XK 23 1 rfl ?_
  (conv=>whnf);refine ⟨rfl,?_⟩
  refine RW.call rfl (laws_toItem_fn ei (hs ei (List.mem_of_getElem? hei))) rfl (.cons (.agg (.cons (.r .r) (.cons (.r .r) (.cons (.r .r) (.nil))))) (.nil)) fun g3 => ?_
  refine RW.v rfl (V.indexW rfl rfl rfl rfl rfl rfl rfl (by simp; omega)) ?_
  refine RW.storeS (v := ei) rfl rfl rfl rfl rfl rfl rfl (DW.v (DW.v (DW.v DW.e))) Item.len (by decide) (by simp; omega) rfl ?_
  refine RW.nil ?_
  refine CW.keep 23 [0,3,4] rfl ?_;(conv=>whnf);refine ⟨?_⟩
  refine CW.region ?_
  refine RW.k XK 23 1 rfl ?_
  (conv=>whnf);refine ⟨rfl,?_⟩
  refine RW.v rfl (V.inc rfl rfl rfl hii hl0) ?_
  refine RW.k XK 23 1 rfl ?_
  (conv=>whnf);refine ⟨rfl,?_⟩
  refine RW.nil ?_
  exact ⟨i + 1, by omega, by omega, rfl, Le.c rfl <| Le.c (congrArg (fun l => D.w (sl _ Item.c l) X1) (take_set hei)) <| Le.c rfl <| Le.e⟩
 ·skip
  have hii : a.length ≤ i := by have := h2; simp at this; first | exact this | omega | (simp; done) | (simp; omega)
  have hdi : a.drop i = [] := List.drop_eq_nil_of_le hii
  refine CW.exit ?_
  refine CW.keep 23 [3] rfl ?_;(conv=>whnf);refine ⟨?_⟩
  refine CW.seq ?_
  refine CW.region ?_
  refine RW.k XK 23 2 rfl ?_
  (conv=>whnf);refine ⟨rfl,?_⟩
  refine RW.pullS 2 3 (by decide) rfl rfl ?_
  refine RW.nil ?_
  refine CW.keep 23 [2] rfl ?_;(conv=>whnf);refine ⟨?_⟩
  refine CW.ret ?_
  exact Post.one (RV.w rfl (by rw [List.take_of_length_le hii, show a.length - i = 0 from by omega]; simp)) (AOs.r AOs.e)
set_option maxHeartbeats 4000000 in
theorem laws_toKeep_fn (a : Keep) (hs : okToKeep a) : Eng.Fn E.P 11 [.agg ((Keep.c a).map .r)] (.one (.agg ((Keep.c a).map .w))) [.agg ((Keep.c a).map .r)] := by
 refine Eng.Fn.intro (E := E) (rvs := [.cell 2 31]) Tryd.func11 rfl rfl rfl (by simp [outSlots, moved, rvSlot, sl]) ?_
 intro B g bo
 refine CW.keep 13 [0] rfl ?_;(conv=>whnf);refine ⟨?_⟩
 refine CW.seq ?_
 refine CW.region ?_
 refine RW.k XK 13 1 rfl ?_
 (conv=>whnf);intro b1;(conv=>whnf);refine ⟨rfl,?_⟩
 refine RW.freezeB (ts := (Keep.c a)) 1 rfl (DRd.r (DRd.r DRd.e)) ?_
 refine RW.k XK 13 1 rfl ?_
 (conv=>whnf);intro b2;(conv=>whnf);refine ⟨rfl,?_⟩
 refine RW.nil ?_
 refine CW.keep 13 [1,2] rfl ?_;(conv=>whnf);refine ⟨?_⟩
 refine CW.k XK 13 1 [1,2,3] rfl ?_
 (conv=>whnf);intro b3;(conv=>whnf);refine ⟨rfl,?_⟩
 refine CW.seq ?_
 refine CW.region ?_
 refine RW.k XK 13 2 rfl ?_
 (conv=>whnf);refine ⟨rfl,?_⟩
 refine RW.call rfl (laws_toSessionS_fn a.sessions hs.1.1 hs.1.2) rfl (.cons (.one (.r .r)) (.nil)) fun g4 => ?_
 refine RW.k XK 13 2 rfl ?_
 (conv=>whnf);refine ⟨rfl,?_⟩
 refine RW.keep 13 [1,2,3,6] rfl ?_;(conv=>whnf);refine ⟨?_⟩
 refine RW.pullT (k := 3) (l := 6) (j := 0) 3 6 0 rfl rfl rfl (by decide) rfl rfl rfl ?_
 refine RW.keep 13 [1,2,3] rfl ?_;(conv=>whnf);refine ⟨?_⟩
 refine RW.nil ?_
 refine CW.keep 13 [1,2,3] rfl ?_;(conv=>whnf);refine ⟨?_⟩
 refine CW.seq ?_
 refine CW.region ?_
 refine RW.k XK 13 2 rfl ?_
 (conv=>whnf);refine ⟨rfl,?_⟩
 refine RW.call rfl (laws_toItemS_fn a.items hs.2.1 hs.2.2) rfl (.cons (.one (.r .r)) (.nil)) fun g5 => ?_
 refine RW.k XK 13 2 rfl ?_
 (conv=>whnf);refine ⟨rfl,?_⟩
 refine RW.keep 13 [2,3,10] rfl ?_;(conv=>whnf);refine ⟨?_⟩
 refine RW.pullT (k := 3) (l := 10) (j := 1) 3 10 1 rfl rfl rfl (by decide) rfl rfl rfl ?_
 refine RW.keep 13 [2,3] rfl ?_;(conv=>whnf);refine ⟨?_⟩
 refine RW.nil ?_
 refine CW.keep 13 [2,3] rfl ?_;(conv=>whnf);refine ⟨?_⟩
 refine CW.seq ?_
 refine CW.region ?_
 refine RW.k XK 13 2 rfl ?_
 (conv=>whnf);refine ⟨rfl,?_⟩
 refine RW.keep 13 [2,3] rfl ?_;(conv=>whnf);refine ⟨?_⟩
 refine RW.pullO (k := 2) (l := 3) (j := 0) 2 3 0 rfl rfl rfl (by decide) rfl rfl rfl rfl ?_
 refine RW.keep 13 [2,3] rfl ?_;(conv=>whnf);refine ⟨?_⟩
 refine RW.pullO (k := 2) (l := 3) (j := 1) 2 3 1 rfl rfl rfl (by decide) rfl rfl rfl rfl ?_
 refine RW.keep 13 [2] rfl ?_;(conv=>whnf);refine ⟨?_⟩
 refine RW.nil ?_
 refine CW.keep 13 [2] rfl ?_;(conv=>whnf);refine ⟨?_⟩
 refine CW.ret ?_
 exact Post.one (RV.c (f := fun e => (Keep.c e).map .w) (e' := a) rfl rfl rfl rfl (DT.w (DT.w DT.e)) (by simp_all)) (AOs.a rfl AOs.e)
set_option maxHeartbeats 4000000 in
theorem laws_toCommand_fn (a : Command) (hs : okToCommand a) : Eng.Fn E.P 27 [.agg ((Command.c a).map .r)] (.one (.agg ((Command.c a).map .w))) [.agg ((Command.c a).map .r)] := by
 refine Eng.Fn.intro (E := E) (rvs := [.cell 2 38]) Tryd.func27 rfl rfl rfl (by simp [outSlots, moved, rvSlot, sl]) ?_
 intro B g bo
 refine CW.keep 23 [0] rfl ?_;(conv=>whnf);refine ⟨?_⟩
 refine CW.seq ?_
 refine CW.region ?_
 refine RW.k XK 23 1 rfl ?_
 (conv=>whnf);intro b1;(conv=>whnf);refine ⟨rfl,?_⟩
 refine RW.freezeB (ts := (Command.c a)) 1 rfl (DRd.r (DRd.r (DRd.r (DRd.r (DRd.r (DRd.r DRd.e)))))) ?_
 refine RW.k XK 23 1 rfl ?_
 (conv=>whnf);intro b2;(conv=>whnf);refine ⟨rfl,?_⟩
 refine RW.nil ?_
 refine CW.keep 23 [1,2] rfl ?_;(conv=>whnf);refine ⟨?_⟩
 refine CW.k XK 23 8 [2] rfl ?_
 (conv=>whnf);intro b3;(conv=>whnf);refine ⟨rfl,?_⟩
 refine CW.ret ?_
 exact Post.one (RV.c (f := fun e => (Command.c e).map .w) (e' := a) rfl rfl rfl rfl (DT.v (DT.v (DT.v (DT.v (DT.v (DT.v DT.e)))))) (by simp_all)) (AOs.a rfl AOs.e)
set_option maxHeartbeats 4000000 in
theorem laws_eqSession_fn (a : Session) (b : Session) : Eng.Fn E.P 76 [.agg ((Session.c a).map .r), .agg ((Session.c b).map .r)] (.one (.one (.w (.v (.bool (eqSession a b)))))) [.agg ((Session.c a).map .r), .agg ((Session.c b).map .r)] := by
 refine Eng.Fn.intro (E := E) (rvs := [.tmp 4]) Tryd.func76 rfl rfl rfl (by simp [outSlots, moved, rvSlot, sl]) ?_
 intro B g bo
 refine CW.keep 20 [0,1] rfl ?_;(conv=>whnf);refine ⟨?_⟩
 refine CW.seq ?_
 refine CW.region ?_
 refine RW.k XK 20 1 rfl ?_
 (conv=>whnf);intro b1;(conv=>whnf);refine ⟨rfl,?_⟩
 refine RW.freezeB (ts := (Session.c a)) 2 rfl (DRd.r (DRd.r (DRd.r DRd.e))) ?_
 refine RW.k XK 20 1 rfl ?_
 (conv=>whnf);intro b2;(conv=>whnf);refine ⟨rfl,?_⟩
 refine RW.freezeB (ts := (Session.c b)) 3 rfl (DRd.r (DRd.r (DRd.r DRd.e))) ?_
 refine RW.k XK 20 1 rfl ?_
 (conv=>whnf);refine ⟨rfl,?_⟩
 refine RW.nil ?_
 refine CW.keep 20 [2,3] rfl ?_;(conv=>whnf);refine ⟨?_⟩
 refine CW.seq ?_
 refine CW.k XK 20 1 [2,3,9] rfl ?_
 (conv=>whnf);refine ⟨rfl,?_⟩
 refine CW.cond rfl (fun h3 => ?_) (fun h3 => ?_)
 ·skip
  refine CW.k XK 20 1 [4] rfl ?_
  (conv=>whnf);refine ⟨rfl,?_⟩
  refine CW.ret ?_
  exact Post.one (RV.b rfl (by simp_all [eqSession])) (AOs.a rfl (AOs.a rfl AOs.e))
 ·skip
  refine CW.skip ?_
  refine CW.keep 20 [2,3] rfl ?_;(conv=>whnf);refine ⟨?_⟩
  refine CW.seq ?_
  refine CW.k XK 20 1 [2,3,14] rfl ?_
  (conv=>whnf);refine ⟨rfl,?_⟩
  refine CW.cond rfl (fun h4 => ?_) (fun h4 => ?_)
  ·skip
   refine CW.k XK 20 1 [4] rfl ?_
   (conv=>whnf);refine ⟨rfl,?_⟩
   refine CW.ret ?_
   exact Post.one (RV.b rfl (by simp_all [eqSession])) (AOs.a rfl (AOs.a rfl AOs.e))
  ·skip
   refine CW.skip ?_
   refine CW.keep 20 [2,3] rfl ?_;(conv=>whnf);refine ⟨?_⟩
   refine CW.seq ?_
   refine CW.k XK 20 1 [19] rfl ?_
   (conv=>whnf);refine ⟨rfl,?_⟩
   refine CW.cond rfl (fun h5 => ?_) (fun h5 => ?_)
   ·skip
    refine CW.k XK 20 1 [4] rfl ?_
    (conv=>whnf);refine ⟨rfl,?_⟩
    refine CW.ret ?_
    exact Post.one (RV.b rfl (by simp_all [eqSession])) (AOs.a rfl (AOs.a rfl AOs.e))
   ·skip
    refine CW.skip ?_
    refine CW.keep 20 [] rfl ?_;(conv=>whnf);refine ⟨?_⟩
    refine CW.k XK 20 1 [4] rfl ?_
    (conv=>whnf);refine ⟨rfl,?_⟩
    refine CW.ret ?_
    exact Post.one (RV.b rfl (by simp_all [eqSession])) (AOs.a rfl (AOs.a rfl AOs.e))
set_option maxHeartbeats 4000000 in
theorem laws_eqSessionS_fn (a : List Session) (b : List Session) : Eng.Fn E.P 41 [.one (.r (sl 3 Session.c a)), .one (.r (sl 3 Session.c b))] (.one (.one (.w (.v (.bool (eqS eqSession a b)))))) [.one (.r (sl 3 Session.c a)), .one (.r (sl 3 Session.c b))] := by
 refine Eng.Fn.intro (E := E) (rvs := [.tmp 4]) Tryd.func41 rfl rfl rfl (by simp [outSlots, moved, rvSlot, sl]) ?_
 intro B g bo
 refine CW.bound (x := .tmp 0) (n := a.length) (AsT.r) (fun hl0 => ?_)
 refine CW.bound (x := .tmp 1) (n := b.length) (AsT.r) (fun hl1 => ?_)
 refine CW.keep 27 [0,1] rfl ?_;(conv=>whnf);refine ⟨?_⟩
 refine CW.k XK 27 1 [0,1] rfl ?_
 (conv=>whnf);refine ⟨rfl,?_⟩
 refine CW.seq ?_
 refine CW.k XK 27 1 [0,1,10] rfl ?_
 (conv=>whnf);refine ⟨rfl,?_⟩
 refine CW.cond rfl (fun h1 => ?_) (fun h1 => ?_)
 ·skip
  refine CW.k XK 27 1 [4] rfl ?_
  (conv=>whnf);refine ⟨rfl,?_⟩
  refine CW.ret ?_
  exact Post.one (RV.b rfl (by first | (simp_all [eqS, eqI, eqStr, eqB]; done) | exact (eqS_ne (by simp_all; omega)).symm)) (AOs.r (AOs.r AOs.e))
 ·skip
  refine CW.skip ?_
  refine CW.keep 27 [0,1] rfl ?_;(conv=>whnf);refine ⟨?_⟩
  refine CW.seq ?_
  refine CW.k XK 27 1 [0,1,5] rfl ?_
  (conv=>whnf);refine ⟨rfl,?_⟩
  refine CW.block ?_
  refine CW.loopI 27 (fun (i : Nat) => [(0, .r (sl 3 Session.c a)), (1, .r (sl 3 Session.c b)), (5, I (i : Int))]) (fun (i : Nat) => i ≤ a.length ∧ eqS eqSession (a.drop i) (b.drop i) = eqS eqSession a b) (fun (i : Nat) => a.length - i) 0 rfl (Le.c rfl <| Le.c rfl <| Le.c rfl <| Le.e) ⟨by omega, by simp⟩ ?_
  rintro i ⟨hb, hr⟩
  have hlen : a.length = b.length := by simp at h1; omega
  refine CW.seq ?_
  refine CW.k XK 27 1 [0,1,5,14] rfl ?_
  (conv=>whnf);refine ⟨rfl,?_⟩
  refine CW.cond rfl (fun h2 => ?_) (fun h2 => ?_)
  ·skip
   have hii : i < a.length := by have := h2; simp at this; first | exact this | omega | (simp; done) | (simp; omega)
   obtain ⟨ei, hei⟩ : ∃ e, a[i]? = some e := ⟨_, List.getElem?_eq_getElem hii⟩
   have hdi := drop_get hei
   have hib : i < b.length := by omega
   obtain ⟨eb, heb⟩ : ∃ e, b[i]? = some e := ⟨_, List.getElem?_eq_getElem hib⟩
   have hdb := drop_get heb
   refine CW.skip ?_
   refine CW.keep 27 [0,1,5] rfl ?_;(conv=>whnf);refine ⟨?_⟩
   refine CW.seq ?_
   refine CW.block ?_
   refine CW.seq ?_
   refine CW.drawn (by kernel_rfl) ?_
   refine RQ.k XK 27 2 rfl ?_
   (conv=>whnf);refine ⟨rfl,?_⟩
   refine RQ.v rfl (V.indexS rfl rfl rfl rfl rfl rfl Session.len hei) ?_
   refine RQ.k XK 27 3 rfl ?_
   (conv=>whnf);refine ⟨rfl,?_⟩
   refine RQ.v rfl (V.indexS rfl rfl rfl rfl rfl rfl Session.len heb) ?_
   refine RQ.k XK 27 1 rfl ?_
   (conv=>whnf);refine ⟨rfl,?_⟩
   refine RQ.cons rfl (QOK.call (laws_eqSession_fn ei eb) rfl (.cons (.agg (.cons (.r .r) (.cons (.r .r) (.cons (.r .r) (.nil))))) (.cons (.agg (.cons (.r .r) (.cons (.r .r) (.cons (.r .r) (.nil))))) (.nil))) ?_)
   refine RQ.k XK 27 1 rfl ?_
   (conv=>whnf);refine ⟨rfl,?_⟩
   refine RQ.nil ?_
   refine CW.keep 27 [0,1,5,26] rfl ?_;(conv=>whnf);refine ⟨?_⟩
   refine CW.cond rfl (fun h3 => ?_) (fun h3 => ?_)
   ·skip
    refine CW.k XK 27 1 [4] rfl ?_
    (conv=>whnf);refine ⟨rfl,?_⟩
    refine CW.ret ?_
    exact Post.one (RV.b rfl (by first | (simp_all [eqS, eqI, eqStr, eqB]; done) | exact (eqS_ne (by simp_all; omega)).symm)) (AOs.r (AOs.r AOs.e))
   ·skip
    refine CW.skip ?_
    refine CW.keep 27 [0,1,5] rfl ?_;(conv=>whnf);refine ⟨?_⟩
    refine CW.region ?_
    refine RW.k XK 27 1 rfl ?_
    (conv=>whnf);refine ⟨rfl,?_⟩
    refine RW.v rfl (V.inc rfl rfl rfl hii hl0) ?_
    refine RW.k XK 27 1 rfl ?_
    (conv=>whnf);refine ⟨rfl,?_⟩
    refine RW.nil ?_
    exact ⟨i + 1, by omega, ⟨by omega, by simp_all [eqS, eqI, eqStr, eqB]⟩, rfl, Le.c rfl <| Le.c rfl <| Le.c rfl <| Le.e⟩
  ·skip
   have hii : a.length ≤ i := by have := h2; simp at this; first | exact this | omega | (simp; done) | (simp; omega)
   have hdi : a.drop i = [] := List.drop_eq_nil_of_le hii
   refine CW.exit ?_
   refine CW.keep 27 [] rfl ?_;(conv=>whnf);refine ⟨?_⟩
   refine CW.k XK 27 1 [4] rfl ?_
   (conv=>whnf);refine ⟨rfl,?_⟩
   refine CW.ret ?_
   exact Post.one (RV.b rfl (by rw [← hr, hdi, List.drop_eq_nil_of_le (show b.length ≤ i by omega)]; rfl)) (AOs.r (AOs.r AOs.e))
set_option maxHeartbeats 4000000 in
theorem laws_eqItem_fn (a : Item) (b : Item) : Eng.Fn E.P 77 [.agg ((Item.c a).map .r), .agg ((Item.c b).map .r)] (.one (.one (.w (.v (.bool (eqItem a b)))))) [.agg ((Item.c a).map .r), .agg ((Item.c b).map .r)] := by
 refine Eng.Fn.intro (E := E) (rvs := [.tmp 4]) Tryd.func77 rfl rfl rfl (by simp [outSlots, moved, rvSlot, sl]) ?_
 intro B g bo
 refine CW.keep 20 [0,1] rfl ?_;(conv=>whnf);refine ⟨?_⟩
 refine CW.seq ?_
 refine CW.region ?_
 refine RW.k XK 20 1 rfl ?_
 (conv=>whnf);intro b1;(conv=>whnf);refine ⟨rfl,?_⟩
 refine RW.freezeB (ts := (Item.c a)) 2 rfl (DRd.r (DRd.r (DRd.r DRd.e))) ?_
 refine RW.k XK 20 1 rfl ?_
 (conv=>whnf);intro b2;(conv=>whnf);refine ⟨rfl,?_⟩
 refine RW.freezeB (ts := (Item.c b)) 3 rfl (DRd.r (DRd.r (DRd.r DRd.e))) ?_
 refine RW.k XK 20 1 rfl ?_
 (conv=>whnf);refine ⟨rfl,?_⟩
 refine RW.nil ?_
 refine CW.keep 20 [2,3] rfl ?_;(conv=>whnf);refine ⟨?_⟩
 refine CW.seq ?_
 refine CW.k XK 20 1 [2,3,9] rfl ?_
 (conv=>whnf);refine ⟨rfl,?_⟩
 refine CW.cond rfl (fun h3 => ?_) (fun h3 => ?_)
 ·skip
  refine CW.k XK 20 1 [4] rfl ?_
  (conv=>whnf);refine ⟨rfl,?_⟩
  refine CW.ret ?_
  exact Post.one (RV.b rfl (by simp_all [eqItem])) (AOs.a rfl (AOs.a rfl AOs.e))
 ·skip
  refine CW.skip ?_
  refine CW.keep 20 [2,3] rfl ?_;(conv=>whnf);refine ⟨?_⟩
  refine CW.seq ?_
  refine CW.k XK 20 1 [2,3,14] rfl ?_
  (conv=>whnf);refine ⟨rfl,?_⟩
  refine CW.cond rfl (fun h4 => ?_) (fun h4 => ?_)
  ·skip
   refine CW.k XK 20 1 [4] rfl ?_
   (conv=>whnf);refine ⟨rfl,?_⟩
   refine CW.ret ?_
   exact Post.one (RV.b rfl (by simp_all [eqItem])) (AOs.a rfl (AOs.a rfl AOs.e))
  ·skip
   refine CW.skip ?_
   refine CW.keep 20 [2,3] rfl ?_;(conv=>whnf);refine ⟨?_⟩
   refine CW.seq ?_
   refine CW.k XK 20 1 [19] rfl ?_
   (conv=>whnf);refine ⟨rfl,?_⟩
   refine CW.cond rfl (fun h5 => ?_) (fun h5 => ?_)
   ·skip
    refine CW.k XK 20 1 [4] rfl ?_
    (conv=>whnf);refine ⟨rfl,?_⟩
    refine CW.ret ?_
    exact Post.one (RV.b rfl (by simp_all [eqItem])) (AOs.a rfl (AOs.a rfl AOs.e))
   ·skip
    refine CW.skip ?_
    refine CW.keep 20 [] rfl ?_;(conv=>whnf);refine ⟨?_⟩
    refine CW.k XK 20 1 [4] rfl ?_
    (conv=>whnf);refine ⟨rfl,?_⟩
    refine CW.ret ?_
    exact Post.one (RV.b rfl (by simp_all [eqItem])) (AOs.a rfl (AOs.a rfl AOs.e))
set_option maxHeartbeats 4000000 in
theorem laws_eqItemS_fn (a : List Item) (b : List Item) : Eng.Fn E.P 42 [.one (.r (sl 3 Item.c a)), .one (.r (sl 3 Item.c b))] (.one (.one (.w (.v (.bool (eqS eqItem a b)))))) [.one (.r (sl 3 Item.c a)), .one (.r (sl 3 Item.c b))] := by
 refine Eng.Fn.intro (E := E) (rvs := [.tmp 4]) Tryd.func42 rfl rfl rfl (by simp [outSlots, moved, rvSlot, sl]) ?_
 intro B g bo
 refine CW.bound (x := .tmp 0) (n := a.length) (AsT.r) (fun hl0 => ?_)
 refine CW.bound (x := .tmp 1) (n := b.length) (AsT.r) (fun hl1 => ?_)
 refine CW.keep 27 [0,1] rfl ?_;(conv=>whnf);refine ⟨?_⟩
 refine CW.k XK 27 1 [0,1] rfl ?_
 (conv=>whnf);refine ⟨rfl,?_⟩
 refine CW.seq ?_
 refine CW.k XK 27 1 [0,1,10] rfl ?_
 (conv=>whnf);refine ⟨rfl,?_⟩
 refine CW.cond rfl (fun h1 => ?_) (fun h1 => ?_)
 ·skip
  refine CW.k XK 27 1 [4] rfl ?_
  (conv=>whnf);refine ⟨rfl,?_⟩
  refine CW.ret ?_
  exact Post.one (RV.b rfl (by first | (simp_all [eqS, eqI, eqStr, eqB]; done) | exact (eqS_ne (by simp_all; omega)).symm)) (AOs.r (AOs.r AOs.e))
 ·skip
  refine CW.skip ?_
  refine CW.keep 27 [0,1] rfl ?_;(conv=>whnf);refine ⟨?_⟩
  refine CW.seq ?_
  refine CW.k XK 27 1 [0,1,5] rfl ?_
  (conv=>whnf);refine ⟨rfl,?_⟩
  refine CW.block ?_
  refine CW.loopI 27 (fun (i : Nat) => [(0, .r (sl 3 Item.c a)), (1, .r (sl 3 Item.c b)), (5, I (i : Int))]) (fun (i : Nat) => i ≤ a.length ∧ eqS eqItem (a.drop i) (b.drop i) = eqS eqItem a b) (fun (i : Nat) => a.length - i) 0 rfl (Le.c rfl <| Le.c rfl <| Le.c rfl <| Le.e) ⟨by omega, by simp⟩ ?_
  rintro i ⟨hb, hr⟩
  have hlen : a.length = b.length := by simp at h1; omega
  refine CW.seq ?_
  refine CW.k XK 27 1 [0,1,5,14] rfl ?_
  (conv=>whnf);refine ⟨rfl,?_⟩
  refine CW.cond rfl (fun h2 => ?_) (fun h2 => ?_)
  ·skip
   have hii : i < a.length := by have := h2; simp at this; first | exact this | omega | (simp; done) | (simp; omega)
   obtain ⟨ei, hei⟩ : ∃ e, a[i]? = some e := ⟨_, List.getElem?_eq_getElem hii⟩
   have hdi := drop_get hei
   have hib : i < b.length := by omega
   obtain ⟨eb, heb⟩ : ∃ e, b[i]? = some e := ⟨_, List.getElem?_eq_getElem hib⟩
   have hdb := drop_get heb
   refine CW.skip ?_
   refine CW.keep 27 [0,1,5] rfl ?_;(conv=>whnf);refine ⟨?_⟩
   refine CW.seq ?_
   refine CW.block ?_
   refine CW.seq ?_
   refine CW.drawn (by kernel_rfl) ?_
   refine RQ.k XK 27 2 rfl ?_
   (conv=>whnf);refine ⟨rfl,?_⟩
   refine RQ.v rfl (V.indexS rfl rfl rfl rfl rfl rfl Item.len hei) ?_
   refine RQ.k XK 27 3 rfl ?_
   (conv=>whnf);refine ⟨rfl,?_⟩
   refine RQ.v rfl (V.indexS rfl rfl rfl rfl rfl rfl Item.len heb) ?_
   refine RQ.k XK 27 1 rfl ?_
   (conv=>whnf);refine ⟨rfl,?_⟩
   refine RQ.cons rfl (QOK.call (laws_eqItem_fn ei eb) rfl (.cons (.agg (.cons (.r .r) (.cons (.r .r) (.cons (.r .r) (.nil))))) (.cons (.agg (.cons (.r .r) (.cons (.r .r) (.cons (.r .r) (.nil))))) (.nil))) ?_)
   refine RQ.k XK 27 1 rfl ?_
   (conv=>whnf);refine ⟨rfl,?_⟩
   refine RQ.nil ?_
   refine CW.keep 27 [0,1,5,26] rfl ?_;(conv=>whnf);refine ⟨?_⟩
   refine CW.cond rfl (fun h3 => ?_) (fun h3 => ?_)
   ·skip
    refine CW.k XK 27 1 [4] rfl ?_
    (conv=>whnf);refine ⟨rfl,?_⟩
    refine CW.ret ?_
    exact Post.one (RV.b rfl (by first | (simp_all [eqS, eqI, eqStr, eqB]; done) | exact (eqS_ne (by simp_all; omega)).symm)) (AOs.r (AOs.r AOs.e))
   ·skip
    refine CW.skip ?_
    refine CW.keep 27 [0,1,5] rfl ?_;(conv=>whnf);refine ⟨?_⟩
    refine CW.region ?_
    refine RW.k XK 27 1 rfl ?_
    (conv=>whnf);refine ⟨rfl,?_⟩
    refine RW.v rfl (V.inc rfl rfl rfl hii hl0) ?_
    refine RW.k XK 27 1 rfl ?_
    (conv=>whnf);refine ⟨rfl,?_⟩
    refine RW.nil ?_
    exact ⟨i + 1, by omega, ⟨by omega, by simp_all [eqS, eqI, eqStr, eqB]⟩, rfl, Le.c rfl <| Le.c rfl <| Le.c rfl <| Le.e⟩
  ·skip
   have hii : a.length ≤ i := by have := h2; simp at this; first | exact this | omega | (simp; done) | (simp; omega)
   have hdi : a.drop i = [] := List.drop_eq_nil_of_le hii
   refine CW.exit ?_
   refine CW.keep 27 [] rfl ?_;(conv=>whnf);refine ⟨?_⟩
   refine CW.k XK 27 1 [4] rfl ?_
   (conv=>whnf);refine ⟨rfl,?_⟩
   refine CW.ret ?_
   exact Post.one (RV.b rfl (by rw [← hr, hdi, List.drop_eq_nil_of_le (show b.length ≤ i by omega)]; rfl)) (AOs.r (AOs.r AOs.e))
set_option maxHeartbeats 4000000 in
theorem laws_eqKeep_fn (a : Keep) (b : Keep) : Eng.Fn E.P 13 [.agg ((Keep.c a).map .r), .agg ((Keep.c b).map .r)] (.one (.one (.w (.v (.bool (eqKeep a b)))))) [.agg ((Keep.c a).map .r), .agg ((Keep.c b).map .r)] := by
 refine Eng.Fn.intro (E := E) (rvs := [.tmp 4]) Tryd.func13 rfl rfl rfl (by simp [outSlots, moved, rvSlot, sl]) ?_
 intro B g bo
 refine CW.keep 17 [0,1] rfl ?_;(conv=>whnf);refine ⟨?_⟩
 refine CW.seq ?_
 refine CW.region ?_
 refine RW.k XK 17 1 rfl ?_
 (conv=>whnf);intro b1;(conv=>whnf);refine ⟨rfl,?_⟩
 refine RW.freezeB (ts := (Keep.c a)) 2 rfl (DRd.r (DRd.r DRd.e)) ?_
 refine RW.k XK 17 1 rfl ?_
 (conv=>whnf);intro b2;(conv=>whnf);refine ⟨rfl,?_⟩
 refine RW.freezeB (ts := (Keep.c b)) 3 rfl (DRd.r (DRd.r DRd.e)) ?_
 refine RW.k XK 17 1 rfl ?_
 (conv=>whnf);refine ⟨rfl,?_⟩
 refine RW.nil ?_
 refine CW.keep 17 [2,3] rfl ?_;(conv=>whnf);refine ⟨?_⟩
 refine CW.seq ?_
 refine CW.seq ?_
 refine CW.region ?_
 refine RW.k XK 17 4 rfl ?_
 (conv=>whnf);refine ⟨rfl,?_⟩
 refine RW.call rfl (laws_eqSessionS_fn a.sessions b.sessions) rfl (.cons (.one (.r .r)) (.cons (.one (.r .r)) (.nil))) fun g3 => ?_
 refine RW.k XK 17 1 rfl ?_
 (conv=>whnf);refine ⟨rfl,?_⟩
 refine RW.nil ?_
 refine CW.keep 17 [2,3,10] rfl ?_;(conv=>whnf);refine ⟨?_⟩
 refine CW.cond rfl (fun h4 => ?_) (fun h4 => ?_)
 ·skip
  refine CW.k XK 17 1 [4] rfl ?_
  (conv=>whnf);refine ⟨rfl,?_⟩
  refine CW.ret ?_
  exact Post.one (RV.b rfl (by simp_all [eqKeep])) (AOs.a rfl (AOs.a rfl AOs.e))
 ·skip
  refine CW.skip ?_
  refine CW.keep 17 [2,3] rfl ?_;(conv=>whnf);refine ⟨?_⟩
  refine CW.seq ?_
  refine CW.seq ?_
  refine CW.region ?_
  refine RW.k XK 17 4 rfl ?_
  (conv=>whnf);refine ⟨rfl,?_⟩
  refine RW.call rfl (laws_eqItemS_fn a.items b.items) rfl (.cons (.one (.r .r)) (.cons (.one (.r .r)) (.nil))) fun g5 => ?_
  refine RW.k XK 17 1 rfl ?_
  (conv=>whnf);refine ⟨rfl,?_⟩
  refine RW.nil ?_
  refine CW.keep 17 [16] rfl ?_;(conv=>whnf);refine ⟨?_⟩
  refine CW.cond rfl (fun h6 => ?_) (fun h6 => ?_)
  ·skip
   refine CW.k XK 17 1 [4] rfl ?_
   (conv=>whnf);refine ⟨rfl,?_⟩
   refine CW.ret ?_
   exact Post.one (RV.b rfl (by simp_all [eqKeep])) (AOs.a rfl (AOs.a rfl AOs.e))
  ·skip
   refine CW.skip ?_
   refine CW.keep 17 [] rfl ?_;(conv=>whnf);refine ⟨?_⟩
   refine CW.k XK 17 1 [4] rfl ?_
   (conv=>whnf);refine ⟨rfl,?_⟩
   refine CW.ret ?_
   exact Post.one (RV.b rfl (by simp_all [eqKeep])) (AOs.a rfl (AOs.a rfl AOs.e))
set_option maxHeartbeats 4000000 in
theorem laws_markText_fn (k : Int) (hk : k ≤ 9223372036854775807) : Eng.Fn E.P 84 [.one (.r (.v (.int .i64 k)))] (.one (.one (.w (.v (.string (mtext k)))))) [.one (.r (.v (.int .i64 k)))] := by
 refine Eng.Fn.intro (E := E) (rvs := [.tmp 2]) Tryd.func84 rfl rfl rfl (by simp [outSlots, moved, rvSlot, sl]) ?_
 intro B g bo
 refine CW.keep 20 [0] rfl ?_;(conv=>whnf);refine ⟨?_⟩
 refine CW.k XK 20 1 [0] rfl ?_
 (conv=>whnf);refine ⟨rfl,?_⟩
 refine CW.seq ?_
 refine CW.k XK 20 1 [0,5] rfl ?_
 (conv=>whnf);refine ⟨rfl,?_⟩
 refine CW.cond rfl (fun h1 => ?_) (fun h1 => ?_)
 ·skip
  refine CW.k XK 20 1 [2] rfl ?_
  (conv=>whnf);refine ⟨rfl,?_⟩
  refine CW.ret ?_
  exact Post.one (RV.s rfl (by simp_all [mtext])) (AOs.r AOs.e)
 ·skip
  refine CW.skip ?_
  refine CW.keep 20 [0] rfl ?_;(conv=>whnf);refine ⟨?_⟩
  refine CW.k XK 20 1 [0,3] rfl ?_
  (conv=>whnf);refine ⟨rfl,?_⟩
  refine CW.seq ?_
  refine CW.block ?_
  refine CW.loopI 20 (fun (zz : Int × ByteArray) => match zz with | (n, out) => [(0, I n), (3, S out)]) (fun (zz : Int × ByteArray) => match zz with | (n, out) => 0 ≤ n ∧ out.size ≤ 60 ∧ n * 10 ^ out.size ≤ 9223372036854775807 ∧ dgs n.toNat out = dgs k.toNat ⟨#[]⟩) (fun (zz : Int × ByteArray) => match zz with | (n, out) => n.toNat) (_, _) rfl (Le.c rfl <| Le.c rfl <| Le.e) ⟨by simp at h1; omega, by decide, by show k * 10 ^ 0 ≤ _; omega, rfl⟩ ?_
  rintro ⟨n, out⟩ ⟨h0, hs, hp, hr⟩
  refine CW.seq ?_
  refine CW.k XK 20 1 [0,3,7] rfl ?_
  (conv=>whnf);refine ⟨rfl,?_⟩
  refine CW.cond rfl (fun h2 => ?_) (fun h2 => ?_)
  ·skip
   refine CW.skip ?_
   refine CW.keep 20 [0,3] rfl ?_;(conv=>whnf);refine ⟨?_⟩
   refine CW.block ?_
   refine CW.seq ?_
   refine CW.region ?_
   refine RW.k XK 20 4 rfl ?_
   (conv=>whnf);refine ⟨rfl,?_⟩
   refine RW.build1c (c := cU) (v := (IntKind.u8.wrap (IntKind.i64.wrap (48 + (Int.tmod n 10))))) (u := .v (.int .u8 (IntKind.u8.wrap (IntKind.i64.wrap (48 + (Int.tmod n 10)))))) rfl rfl rfl rfl rfl rfl (.inl rfl) rfl rfl fun X3 => ?_
   refine RW.v rfl (V.bytesStr (l := [(IntKind.u8.wrap (IntKind.i64.wrap (48 + (Int.tmod n 10))))]) rfl rfl rfl (by kernel_rfl) (by kernel_rfl) (.al (k := none) (i := 12) (sz := 1) (V := X3) rfl rfl nofun)) ?_
   refine RW.k XK 20 1 rfl ?_
   (conv=>whnf);refine ⟨rfl,?_⟩
   refine RW.v rfl (V.cat rfl rfl rfl (by simp only [bytesOf_one, maxLen]; first | omega | (show 1 + out.size ≤ _; omega))) ?_
   refine RW.k XK 20 1 rfl ?_
   (conv=>whnf);refine ⟨rfl,?_⟩
   refine RW.nil ?_
   refine CW.keep 20 [0,3] rfl ?_;(conv=>whnf);refine ⟨?_⟩
   refine CW.region ?_
   refine RW.k XK 20 3 rfl ?_
   (conv=>whnf);refine ⟨rfl,?_⟩
   refine RW.nil ?_
   exact ⟨(_, _), by have := mt_dec h0 hp h2; simp only []; omega, mt_step h0 hp hr h2, rfl, Le.c rfl <| Le.c rfl <| Le.e⟩
  ·skip
   refine CW.exit ?_
   refine CW.keep 20 [3] rfl ?_;(conv=>whnf);refine ⟨?_⟩
   refine CW.seq ?_
   refine CW.region ?_
   refine RW.k XK 20 1 rfl ?_
   (conv=>whnf);refine ⟨rfl,?_⟩
   refine RW.v rfl (V.cat rfl rfl rfl (by simp only [bytesOf_one, maxLen]; first | omega | (show 1 + out.size ≤ _; omega))) ?_
   refine RW.k XK 20 1 rfl ?_
   (conv=>whnf);refine ⟨rfl,?_⟩
   refine RW.nil ?_
   refine CW.keep 20 [2] rfl ?_;(conv=>whnf);refine ⟨?_⟩
   refine CW.ret ?_
   exact Post.one (RV.s rfl (by rw [mtext_dgs (by simpa using h1), ← hr, dgs, dif_pos (by simp at h2; omega)])) (AOs.r AOs.e)
set_option maxHeartbeats 4000000 in
theorem laws_markSessionS_fn (a : List Session) (k : Int) (hk : k ≤ 9223372036854775807) : Eng.Fn E.P 60 [.one (.w (sl 3 Session.c a)), .one (.r (.v (.int .i64 k)))] (.one (.one (.w (.v (.int .i64 ((mkL mkESession a k).2)))))) [.one (.w (sl 3 Session.c ((mkL mkESession a k).1))), .one (.r (.v (.int .i64 k)))] := by
 refine Eng.Fn.intro (E := E) (rvs := [.tmp 4]) Tryd.func60 rfl rfl rfl (by simp [outSlots, moved, rvSlot, sl]) ?_
 intro B g bo
 refine CW.bound (x := .tmp 0) (n := a.length) (AsT.al rfl rfl nofun) (fun hl0 => ?_)
 refine CW.keep 35 [0,1] rfl ?_;(conv=>whnf);refine ⟨?_⟩
 have hl0b : a.length ≤ maxLen := hl0
 refine CW.k XK 35 1 [0,1] rfl ?_
 (conv=>whnf);refine ⟨rfl,?_⟩
 refine CW.seq ?_
 refine CW.k XK 35 1 [0,1,5] rfl ?_
 (conv=>whnf);refine ⟨rfl,?_⟩
 refine CW.block ?_
 refine CW.loopI 35 (fun (zz : Nat × Int × List Session) => match zz with | (i, l, b) => [(0, .w (sl 3 Session.c b) (g 0 0)), (1, I l), (5, I (i : Int))]) (fun (zz : Nat × Int × List Session) => match zz with | (i, l, b) => i ≤ b.length ∧ l ≤ 9223372036854775807 ∧ b.length = a.length ∧ b.drop i = a.drop i ∧ (b.take i ++ (mkL mkESession (a.drop i) l).1, (mkL mkESession (a.drop i) l).2) = mkL mkESession a k) (fun (zz : Nat × Int × List Session) => match zz with | (i, l, b) => a.length - i) (0, _, _) rfl (Le.c rfl <| Le.c rfl <| Le.c rfl <| Le.e) ⟨by omega, hk, rfl, rfl, by simp⟩ ?_
 rintro ⟨i, l, b⟩ ⟨hb, hlk, hlen, hdr, hr⟩
 refine CW.seq ?_
 refine CW.k XK 35 1 [0,1,5,9] rfl ?_
 (conv=>whnf);refine ⟨rfl,?_⟩
 refine CW.cond rfl (fun h1 => ?_) (fun h1 => ?_)
 ·skip
  have hii : i < b.length := by have := h1; simp at this; first | exact this | omega | (simp; done) | (simp; omega)
  obtain ⟨ei, hei⟩ : ∃ e, b[i]? = some e := ⟨_, List.getElem?_eq_getElem hii⟩
  have hdi := drop_get hei
  refine CW.skip ?_
  refine CW.keep 35 [0,1,5] rfl ?_;(conv=>whnf);refine ⟨?_⟩
  refine CW.seq ?_
  refine CW.block ?_
  refine CW.seq ?_
  refine CW.region ?_
  refine RW.k XK 35 3 rfl ?_
  (conv=>whnf);refine ⟨rfl,?_⟩
  refine RW.v rfl (V.indexW rfl rfl rfl rfl rfl rfl rfl (by first | omega | (simp; omega))) ?_
  refine RW.k XK 35 1 rfl ?_
  (conv=>whnf);refine ⟨rfl,?_⟩
  refine RW.storeF (m := i) (off := 0) (v := ei) (v' := (⟨l, ei.last, ei.reply⟩ : Session)) (u := .v (.int .i64 l)) (c := Session.c) rfl rfl rfl rfl rfl rfl rfl (.inl rfl) Session.len hei (by decide) rfl rfl ?_
  refine RW.nil ?_
  refine CW.keep 35 [0,1,5] rfl ?_;(conv=>whnf);refine ⟨?_⟩
  refine CW.k XK 35 1 [0,1,5] rfl ?_
  (conv=>whnf);refine ⟨rfl,?_⟩
  refine CW.seq ?_
  refine CW.region ?_
  refine RW.k XK 35 3 rfl ?_
  (conv=>whnf);refine ⟨rfl,?_⟩
  refine RW.v rfl (V.indexW rfl rfl rfl rfl rfl rfl rfl (by first | omega | (simp; omega))) ?_
  refine RW.k XK 35 1 rfl ?_
  (conv=>whnf);refine ⟨rfl,?_⟩
  refine RW.storeF (m := i) (off := 1) (v := (⟨l, ei.last, ei.reply⟩ : Session)) (v' := (⟨l, (IntKind.i64.wrap (l + 1)), ei.reply⟩ : Session)) (u := .v (.int .i64 (IntKind.i64.wrap (l + 1)))) (c := Session.c) rfl rfl rfl rfl rfl rfl rfl (.inl rfl) Session.len (List.getElem?_set_self (by first | omega | (simp; omega))) (by decide) rfl rfl ?_
  refine RW.nil ?_
  refine CW.keep 35 [0,1,5] rfl ?_;(conv=>whnf);refine ⟨?_⟩
  refine CW.k XK 35 1 [0,1,5] rfl ?_
  (conv=>whnf);refine ⟨rfl,?_⟩
  refine CW.seq ?_
  refine CW.region ?_
  refine RW.k XK 35 3 rfl ?_
  (conv=>whnf);refine ⟨rfl,?_⟩
  refine RW.call rfl (laws_markText_fn (IntKind.i64.wrap ((IntKind.i64.wrap (l + 1)) + 1)) (by repeat (first | exact hlk | exact wrap_le _ | apply mkL_le | apply mkI_le | apply mkS_le | apply mkB_le | apply mkESession_le | apply mkEItem_le))) rfl (.cons (.one (.r .r)) (.nil)) fun g2 => ?_
  refine RW.v rfl (V.indexW rfl rfl rfl rfl rfl rfl rfl (by first | omega | (simp; omega))) ?_
  refine RW.k XK 35 1 rfl ?_
  (conv=>whnf);refine ⟨rfl,?_⟩
  refine RW.storeF (m := i) (off := 2) (v := (⟨l, (IntKind.i64.wrap (l + 1)), ei.reply⟩ : Session)) (v' := (⟨l, (IntKind.i64.wrap (l + 1)), (mtext (IntKind.i64.wrap ((IntKind.i64.wrap (l + 1)) + 1)))⟩ : Session)) (u := .v (.string (mtext (IntKind.i64.wrap ((IntKind.i64.wrap (l + 1)) + 1))))) (c := Session.c) rfl rfl rfl rfl rfl rfl rfl (.inl rfl) Session.len (List.getElem?_set_self (by first | omega | (simp; omega))) (by decide) rfl rfl ?_
  refine RW.nil ?_
  refine CW.keep 35 [0,1,5] rfl ?_;(conv=>whnf);refine ⟨?_⟩
  refine CW.region ?_
  refine RW.k XK 35 3 rfl ?_
  (conv=>whnf);refine ⟨rfl,?_⟩
  refine RW.nil ?_
  refine CW.keep 35 [0,1,5] rfl ?_;(conv=>whnf);refine ⟨?_⟩
  refine CW.region ?_
  refine RW.k XK 35 1 rfl ?_
  (conv=>whnf);refine ⟨rfl,?_⟩
  refine RW.v rfl (V.inc rfl rfl rfl hii (by omega)) ?_
  refine RW.k XK 35 1 rfl ?_
  (conv=>whnf);refine ⟨rfl,?_⟩
  refine RW.nil ?_
  exact ⟨(i + 1, (IntKind.i64.wrap ((IntKind.i64.wrap ((IntKind.i64.wrap (l + 1)) + 1)) + 1)), (((b.set i (⟨l, ei.last, ei.reply⟩ : Session)).set i (⟨l, (IntKind.i64.wrap (l + 1)), ei.reply⟩ : Session)).set i (⟨l, (IntKind.i64.wrap (l + 1)), (mtext (IntKind.i64.wrap ((IntKind.i64.wrap (l + 1)) + 1)))⟩ : Session))), by simp only []; omega, mk_step mkESession ((⟨l, (IntKind.i64.wrap (l + 1)), (mtext (IntKind.i64.wrap ((IntKind.i64.wrap (l + 1)) + 1)))⟩ : Session)) ((IntKind.i64.wrap ((IntKind.i64.wrap ((IntKind.i64.wrap (l + 1)) + 1)) + 1))) hei hlen hdr hr (by first | rfl | simp only [List.set_set]) rfl (by first | exact wrap_le _ | (apply mkL_le; assumption)), rfl, Le.c rfl <| Le.c rfl <| Le.c rfl <| Le.e⟩
 ·skip
  have hii : b.length ≤ i := by have := h1; simp at this; first | exact this | omega | (simp; done) | (simp; omega)
  have hdi : b.drop i = [] := List.drop_eq_nil_of_le hii
  refine CW.exit ?_
  refine CW.keep 35 [0,1] rfl ?_;(conv=>whnf);refine ⟨?_⟩
  refine CW.k XK 35 1 [0,4] rfl ?_
  (conv=>whnf);refine ⟨rfl,?_⟩
  refine CW.ret ?_
  exact Post.one (RV.i rfl (by rw [← hr, ← hdr, hdi]; rfl)) (AOs.w (by show _ = D.w _ _; exact congrArg (fun l => D.w (sl _ Session.c l) _) (by rw [← hr, ← hdr, hdi]; show b = b.take i ++ []; rw [List.append_nil, List.take_of_length_le hii])) (AOs.r AOs.e))
set_option maxHeartbeats 4000000 in
theorem laws_markItemS_fn (a : List Item) (k : Int) (hk : k ≤ 9223372036854775807) : Eng.Fn E.P 61 [.one (.w (sl 3 Item.c a)), .one (.r (.v (.int .i64 k)))] (.one (.one (.w (.v (.int .i64 ((mkL mkEItem a k).2)))))) [.one (.w (sl 3 Item.c ((mkL mkEItem a k).1))), .one (.r (.v (.int .i64 k)))] := by
 refine Eng.Fn.intro (E := E) (rvs := [.tmp 4]) Tryd.func61 rfl rfl rfl (by simp [outSlots, moved, rvSlot, sl]) ?_
 intro B g bo
 refine CW.bound (x := .tmp 0) (n := a.length) (AsT.al rfl rfl nofun) (fun hl0 => ?_)
 refine CW.keep 36 [0,1] rfl ?_;(conv=>whnf);refine ⟨?_⟩
 have hl0b : a.length ≤ maxLen := hl0
 refine CW.k XK 36 1 [0,1] rfl ?_
 (conv=>whnf);refine ⟨rfl,?_⟩
 refine CW.seq ?_
 refine CW.k XK 36 1 [0,1,5] rfl ?_
 (conv=>whnf);refine ⟨rfl,?_⟩
 refine CW.block ?_
 refine CW.loopI 36 (fun (zz : Nat × Int × List Item) => match zz with | (i, l, b) => [(0, .w (sl 3 Item.c b) (g 0 0)), (1, I l), (5, I (i : Int))]) (fun (zz : Nat × Int × List Item) => match zz with | (i, l, b) => i ≤ b.length ∧ l ≤ 9223372036854775807 ∧ b.length = a.length ∧ b.drop i = a.drop i ∧ (b.take i ++ (mkL mkEItem (a.drop i) l).1, (mkL mkEItem (a.drop i) l).2) = mkL mkEItem a k) (fun (zz : Nat × Int × List Item) => match zz with | (i, l, b) => a.length - i) (0, _, _) rfl (Le.c rfl <| Le.c rfl <| Le.c rfl <| Le.e) ⟨by omega, hk, rfl, rfl, by simp⟩ ?_
 rintro ⟨i, l, b⟩ ⟨hb, hlk, hlen, hdr, hr⟩
 refine CW.seq ?_
 refine CW.k XK 36 1 [0,1,5,9] rfl ?_
 (conv=>whnf);refine ⟨rfl,?_⟩
 refine CW.cond rfl (fun h1 => ?_) (fun h1 => ?_)
 ·skip
  have hii : i < b.length := by have := h1; simp at this; first | exact this | omega | (simp; done) | (simp; omega)
  obtain ⟨ei, hei⟩ : ∃ e, b[i]? = some e := ⟨_, List.getElem?_eq_getElem hii⟩
  have hdi := drop_get hei
  refine CW.skip ?_
  refine CW.keep 36 [0,1,5] rfl ?_;(conv=>whnf);refine ⟨?_⟩
  refine CW.seq ?_
  refine CW.block ?_
  refine CW.seq ?_
  refine CW.region ?_
  refine RW.k XK 36 3 rfl ?_
  (conv=>whnf);refine ⟨rfl,?_⟩
  refine RW.call rfl (laws_markText_fn l (by repeat (first | exact hlk | exact wrap_le _ | apply mkL_le | apply mkI_le | apply mkS_le | apply mkB_le | apply mkESession_le | apply mkEItem_le))) rfl (.cons (.one (.r .r)) (.nil)) fun g2 => ?_
  refine RW.v rfl (V.indexW rfl rfl rfl rfl rfl rfl rfl (by first | omega | (simp; omega))) ?_
  refine RW.k XK 36 1 rfl ?_
  (conv=>whnf);refine ⟨rfl,?_⟩
  refine RW.storeF (m := i) (off := 0) (v := ei) (v' := (⟨(mtext l), ei.val, ei.ver⟩ : Item)) (u := .v (.string (mtext l))) (c := Item.c) rfl rfl rfl rfl rfl rfl rfl (.inl rfl) Item.len hei (by decide) rfl rfl ?_
  refine RW.nil ?_
  refine CW.keep 36 [0,1,5] rfl ?_;(conv=>whnf);refine ⟨?_⟩
  refine CW.k XK 36 1 [0,1,5] rfl ?_
  (conv=>whnf);refine ⟨rfl,?_⟩
  refine CW.seq ?_
  refine CW.region ?_
  refine RW.k XK 36 3 rfl ?_
  (conv=>whnf);refine ⟨rfl,?_⟩
  refine RW.call rfl (laws_markText_fn (IntKind.i64.wrap (l + 1)) (by repeat (first | exact hlk | exact wrap_le _ | apply mkL_le | apply mkI_le | apply mkS_le | apply mkB_le | apply mkESession_le | apply mkEItem_le))) rfl (.cons (.one (.r .r)) (.nil)) fun g3 => ?_
  refine RW.v rfl (V.indexW rfl rfl rfl rfl rfl rfl rfl (by first | omega | (simp; omega))) ?_
  refine RW.k XK 36 1 rfl ?_
  (conv=>whnf);refine ⟨rfl,?_⟩
  refine RW.storeF (m := i) (off := 1) (v := (⟨(mtext l), ei.val, ei.ver⟩ : Item)) (v' := (⟨(mtext l), (mtext (IntKind.i64.wrap (l + 1))), ei.ver⟩ : Item)) (u := .v (.string (mtext (IntKind.i64.wrap (l + 1))))) (c := Item.c) rfl rfl rfl rfl rfl rfl rfl (.inl rfl) Item.len (List.getElem?_set_self (by first | omega | (simp; omega))) (by decide) rfl rfl ?_
  refine RW.nil ?_
  refine CW.keep 36 [0,1,5] rfl ?_;(conv=>whnf);refine ⟨?_⟩
  refine CW.k XK 36 1 [0,1,5] rfl ?_
  (conv=>whnf);refine ⟨rfl,?_⟩
  refine CW.seq ?_
  refine CW.region ?_
  refine RW.k XK 36 3 rfl ?_
  (conv=>whnf);refine ⟨rfl,?_⟩
  refine RW.v rfl (V.indexW rfl rfl rfl rfl rfl rfl rfl (by first | omega | (simp; omega))) ?_
  refine RW.k XK 36 1 rfl ?_
  (conv=>whnf);refine ⟨rfl,?_⟩
  refine RW.storeF (m := i) (off := 2) (v := (⟨(mtext l), (mtext (IntKind.i64.wrap (l + 1))), ei.ver⟩ : Item)) (v' := (⟨(mtext l), (mtext (IntKind.i64.wrap (l + 1))), (IntKind.i64.wrap ((IntKind.i64.wrap (l + 1)) + 1))⟩ : Item)) (u := .v (.int .i64 (IntKind.i64.wrap ((IntKind.i64.wrap (l + 1)) + 1)))) (c := Item.c) rfl rfl rfl rfl rfl rfl rfl (.inl rfl) Item.len (List.getElem?_set_self (by first | omega | (simp; omega))) (by decide) rfl rfl ?_
  refine RW.nil ?_
  refine CW.keep 36 [0,1,5] rfl ?_;(conv=>whnf);refine ⟨?_⟩
  refine CW.region ?_
  refine RW.k XK 36 3 rfl ?_
  (conv=>whnf);refine ⟨rfl,?_⟩
  refine RW.nil ?_
  refine CW.keep 36 [0,1,5] rfl ?_;(conv=>whnf);refine ⟨?_⟩
  refine CW.region ?_
  refine RW.k XK 36 1 rfl ?_
  (conv=>whnf);refine ⟨rfl,?_⟩
  refine RW.v rfl (V.inc rfl rfl rfl hii (by omega)) ?_
  refine RW.k XK 36 1 rfl ?_
  (conv=>whnf);refine ⟨rfl,?_⟩
  refine RW.nil ?_
  exact ⟨(i + 1, (IntKind.i64.wrap ((IntKind.i64.wrap ((IntKind.i64.wrap (l + 1)) + 1)) + 1)), (((b.set i (⟨(mtext l), ei.val, ei.ver⟩ : Item)).set i (⟨(mtext l), (mtext (IntKind.i64.wrap (l + 1))), ei.ver⟩ : Item)).set i (⟨(mtext l), (mtext (IntKind.i64.wrap (l + 1))), (IntKind.i64.wrap ((IntKind.i64.wrap (l + 1)) + 1))⟩ : Item))), by simp only []; omega, mk_step mkEItem ((⟨(mtext l), (mtext (IntKind.i64.wrap (l + 1))), (IntKind.i64.wrap ((IntKind.i64.wrap (l + 1)) + 1))⟩ : Item)) ((IntKind.i64.wrap ((IntKind.i64.wrap ((IntKind.i64.wrap (l + 1)) + 1)) + 1))) hei hlen hdr hr (by first | rfl | simp only [List.set_set]) rfl (by first | exact wrap_le _ | (apply mkL_le; assumption)), rfl, Le.c rfl <| Le.c rfl <| Le.c rfl <| Le.e⟩
 ·skip
  have hii : b.length ≤ i := by have := h1; simp at this; first | exact this | omega | (simp; done) | (simp; omega)
  have hdi : b.drop i = [] := List.drop_eq_nil_of_le hii
  refine CW.exit ?_
  refine CW.keep 36 [0,1] rfl ?_;(conv=>whnf);refine ⟨?_⟩
  refine CW.k XK 36 1 [0,4] rfl ?_
  (conv=>whnf);refine ⟨rfl,?_⟩
  refine CW.ret ?_
  exact Post.one (RV.i rfl (by rw [← hr, ← hdr, hdi]; rfl)) (AOs.w (by show _ = D.w _ _; exact congrArg (fun l => D.w (sl _ Item.c l) _) (by rw [← hr, ← hdr, hdi]; show b = b.take i ++ []; rw [List.append_nil, List.take_of_length_le hii])) (AOs.r AOs.e))
set_option maxHeartbeats 4000000 in
theorem laws_markKeep_fn (a : Keep) (k : Int) (hk : k ≤ 9223372036854775807) : Eng.Fn E.P 28 [.agg ((Keep.c a).map .w), .one (.r (.v (.int .i64 k)))] (.one (.one (.w (.v (.int .i64 ((mkVKeep a k).2)))))) [.agg ((Keep.c ((mkVKeep a k).1)).map .w), .one (.r (.v (.int .i64 k)))] := by
 refine Eng.Fn.intro (E := E) (rvs := [.tmp 4]) Tryd.func28 rfl rfl rfl (by simp [outSlots, moved, rvSlot, sl]) ?_
 intro B g bo
 refine CW.keep 14 [0,1] rfl ?_;(conv=>whnf);refine ⟨?_⟩
 refine CW.k XK 14 1 [0,1,2] rfl ?_
 (conv=>whnf);intro b1;(conv=>whnf);refine ⟨rfl,?_⟩
 refine CW.seq ?_
 refine CW.region ?_
 refine RW.k XK 14 3 rfl ?_
 (conv=>whnf);refine ⟨rfl,?_⟩
 refine RW.callW (k := 0) (laws_markSessionS_fn a.sessions k (by repeat (first | exact hk | apply mkL_le | apply mkI_le | apply mkS_le | apply mkB_le | apply mkESession_le | apply mkEItem_le | apply mkVKeep_le))) rfl rfl (Nat.le_of_ble_eq_true rfl) (by decide) (.here (AsW.cellA rfl) (.cons (.one (.r .r)) (.nil))) rfl fun g2 q3 => ?_
 refine RW.k XK 14 1 rfl ?_
 (conv=>whnf);refine ⟨rfl,?_⟩
 refine RW.nil ?_
 refine CW.keep 14 [0,1,2] rfl ?_;(conv=>whnf);refine ⟨?_⟩
 refine CW.seq ?_
 refine CW.region ?_
 refine RW.k XK 14 3 rfl ?_
 (conv=>whnf);refine ⟨rfl,?_⟩
 refine RW.callW (k := 0) (laws_markItemS_fn a.items ((mkL mkESession a.sessions k).2) (by repeat (first | exact hk | apply mkL_le | apply mkI_le | apply mkS_le | apply mkB_le | apply mkESession_le | apply mkEItem_le | apply mkVKeep_le))) rfl rfl (Nat.le_of_ble_eq_true rfl) (by decide) (.here (AsW.cellA rfl) (.cons (.one (.r .r)) (.nil))) rfl fun g4 q5 => ?_
 refine RW.k XK 14 1 rfl ?_
 (conv=>whnf);refine ⟨rfl,?_⟩
 refine RW.nil ?_
 refine CW.keep 14 [0,1] rfl ?_;(conv=>whnf);refine ⟨?_⟩
 refine CW.k XK 14 1 [0,4] rfl ?_
 (conv=>whnf);refine ⟨rfl,?_⟩
 refine CW.ret ?_
 exact Post.one (RV.i rfl (by rfl)) (AOs.ag rfl (AOc.w rfl (AOc.w rfl AOc.e)) (AOs.r AOs.e))
set_option maxHeartbeats 4000000 in
theorem laws_heldSessionS_fn (a : List Session) (k : Int) (hk : k ≤ 9223372036854775807) : Eng.Fn E.P 62 [.one (.r (sl 3 Session.c a)), .one (.r (.v (.int .i64 k)))] (.one (.one (.w (.v (.int .i64 ((hdL hdESession a k).getD (-1))))))) [.one (.r (sl 3 Session.c a)), .one (.r (.v (.int .i64 k)))] := by
 refine Eng.Fn.intro (E := E) (rvs := [.tmp 4]) Tryd.func62 rfl rfl rfl (by simp [outSlots, moved, rvSlot, sl]) ?_
 intro B g bo
 refine CW.bound (x := .tmp 0) (n := a.length) (AsT.r) (fun hl0 => ?_)
 refine CW.keep 41 [0,1] rfl ?_;(conv=>whnf);refine ⟨?_⟩
 refine CW.k XK 41 1 [0,1] rfl ?_
 (conv=>whnf);refine ⟨rfl,?_⟩
 refine CW.seq ?_
 refine CW.k XK 41 1 [0,1,5] rfl ?_
 (conv=>whnf);refine ⟨rfl,?_⟩
 refine CW.block ?_
 refine CW.loopI 41 (fun (zz : Nat × Int) => match zz with | (i, l) => [(0, .r (sl 3 Session.c a)), (1, I l), (5, I (i : Int))]) (fun (zz : Nat × Int) => match zz with | (i, l) => i ≤ a.length ∧ l ≤ 9223372036854775807 ∧ hdL hdESession (a.drop i) l = hdL hdESession a k) (fun (zz : Nat × Int) => match zz with | (i, l) => a.length - i) (0, _) rfl (Le.c rfl <| Le.c rfl <| Le.c rfl <| Le.e) ⟨by omega, hk, by simp⟩ ?_
 rintro ⟨i, l⟩ ⟨hb, hlk, hr⟩
 refine CW.seq ?_
 refine CW.k XK 41 1 [0,1,5,9] rfl ?_
 (conv=>whnf);refine ⟨rfl,?_⟩
 refine CW.cond rfl (fun h1 => ?_) (fun h1 => ?_)
 ·skip
  have hii : i < a.length := by have := h1; simp at this; first | exact this | omega | (simp; done) | (simp; omega)
  obtain ⟨ei, hei⟩ : ∃ e, a[i]? = some e := ⟨_, List.getElem?_eq_getElem hii⟩
  have hdi := drop_get hei
  refine CW.skip ?_
  refine CW.keep 41 [0,1,5] rfl ?_;(conv=>whnf);refine ⟨?_⟩
  refine CW.seq ?_
  refine CW.block ?_
  refine CW.seq ?_
  refine CW.seq ?_
  refine CW.region ?_
  refine RW.k XK 41 2 rfl ?_
  (conv=>whnf);refine ⟨rfl,?_⟩
  refine RW.v rfl (V.indexS rfl rfl rfl rfl rfl rfl Session.len hei) ?_
  refine RW.k XK 41 4 rfl ?_
  (conv=>whnf);refine ⟨rfl,?_⟩
  refine RW.nil ?_
  refine CW.keep 41 [0,1,5,18] rfl ?_;(conv=>whnf);refine ⟨?_⟩
  refine CW.cond rfl (fun h2 => ?_) (fun h2 => ?_)
  ·skip
   refine CW.k XK 41 1 [4] rfl ?_
   (conv=>whnf);refine ⟨rfl,?_⟩
   refine CW.ret ?_
   exact Post.one (RV.i rfl (by rw [← hr, hdi]; clear hr; first | rfl | (simp_all [hdL, hdESession, hdI, hdS, inc]; done) | grind [hdL, hdESession, hdI, hdS, inc])) (AOs.r (AOs.r AOs.e))
  ·skip
   refine CW.skip ?_
   refine CW.keep 41 [0,1,5] rfl ?_;(conv=>whnf);refine ⟨?_⟩
   refine CW.k XK 41 1 [0,1,5] rfl ?_
   (conv=>whnf);refine ⟨rfl,?_⟩
   refine CW.seq ?_
   refine CW.seq ?_
   refine CW.region ?_
   refine RW.k XK 41 2 rfl ?_
   (conv=>whnf);refine ⟨rfl,?_⟩
   refine RW.v rfl (V.indexS rfl rfl rfl rfl rfl rfl Session.len hei) ?_
   refine RW.k XK 41 4 rfl ?_
   (conv=>whnf);refine ⟨rfl,?_⟩
   refine RW.nil ?_
   refine CW.keep 41 [0,1,5,27] rfl ?_;(conv=>whnf);refine ⟨?_⟩
   refine CW.cond rfl (fun h3 => ?_) (fun h3 => ?_)
   ·skip
    refine CW.k XK 41 1 [4] rfl ?_
    (conv=>whnf);refine ⟨rfl,?_⟩
    refine CW.ret ?_
    exact Post.one (RV.i rfl (by rw [← hr, hdi]; clear hr; first | rfl | (simp_all [hdL, hdESession, hdI, hdS, inc]; done) | grind [hdL, hdESession, hdI, hdS, inc])) (AOs.r (AOs.r AOs.e))
   ·skip
    refine CW.skip ?_
    refine CW.keep 41 [0,1,5] rfl ?_;(conv=>whnf);refine ⟨?_⟩
    refine CW.k XK 41 1 [0,1,5] rfl ?_
    (conv=>whnf);refine ⟨rfl,?_⟩
    refine CW.seq ?_
    refine CW.anyJ2 (fc := []) (L0 := [(0, .r (sl 3 Session.c a)), (1, I (IntKind.i64.wrap ((IntKind.i64.wrap (l + 1)) + 1))), (5, I (i : Int))]) 41 (fun (go4_6_1 : (Nat → Nat → Value)) => [(37, Bo (!(ei.reply.toList == (mtext (IntKind.i64.wrap ((IntKind.i64.wrap (l + 1)) + 1))).toList)))]) (fun all hall f hf b0 hb K hK => ?_) ?_
    ·skip
     have ro4_1 : ∀ B, ∀ (go4_6_1 : Nat → Nat → Value), RA f E B all 0 (bt 8 255) ⟨41, [(37, Bo (!(ei.reply.toList == (mtext (IntKind.i64.wrap ((IntKind.i64.wrap (l + 1)) + 1))).toList)))] ++ b0⟩ K := by
      intro B go4_6_1
      exact RA.of2 hall hf hb (RA.finH (Tell.of rfl) (by kernel_rfl) (hK go4_6_1 _ rfl (Le.of rfl)))
     have ro4_0 : ∀ B, RA f E B all 2 (bt 8 63) ⟨41, [(34, S ei.reply), (35, I (IntKind.i64.wrap ((IntKind.i64.wrap (l + 1)) + 1)))] ++ b0⟩ K := by
      intro B
      refine RA.of2 hall hf hb (RA.stepH (L := [6]) (Tell.of rfl) (by kernel_rfl) (by simp) (RA.each ?_ (RA.each0)))
      ·skip
       refine RO.call rfl rfl (laws_markText_fn (IntKind.i64.wrap ((IntKind.i64.wrap (l + 1)) + 1)) (by first | exact hlk | exact wrap_le _)) rfl (.cons (.one (.r .r)) (.nil)) rfl fun go4_6_1 => ?_
       refine RA.fr XK 41 0 [7] (bt 8 255) rfl rfl (by kernel_rfl) (Tell.of rfl) ?_
       (conv=>whnf);refine ⟨rfl,fun B=>?_⟩
       exact RA.to2 hall hf hb (ro4_1 B go4_6_1) rfl rfl (by kernel_rfl)
     refine RA.start (by kernel_rfl) (by kernel_rfl) (m := 8) (ls' := (bt 8 0)) ?_
     refine RA.fr XK 41 6 [0,1] (bt 8 3) rfl rfl (by kernel_rfl) (Tell.of rfl) ?_
     (conv=>whnf);refine ⟨rfl,fun B=>?_⟩
     refine RA.first (i := 2) (ls' := (bt 8 7)) (Tell.of rfl) (by kernel_rfl) rfl rfl rfl (VF.p (V.indexS rfl rfl rfl rfl rfl rfl Session.len hei)) ?_
     refine RA.fr XK 41 2 [3,4,5] (bt 8 63) rfl rfl (by kernel_rfl) (Tell.of rfl) ?_
     (conv=>whnf);refine ⟨rfl,fun B=>?_⟩
     exact RA.to2 hall hf hb (ro4_0 B) rfl rfl (by kernel_rfl)
    ·rintro go4_6_1
     refine CW.cond rfl (fun h5 => ?_) (fun h5 => ?_)
     ·skip
      refine CW.k XK 41 1 [4] rfl ?_
      (conv=>whnf);refine ⟨rfl,?_⟩
      refine CW.ret ?_
      exact Post.one (RV.i rfl (by rw [← hr, hdi]; clear hr; first | rfl | (simp_all [hdL, hdESession, hdI, hdS, inc]; done) | grind [hdL, hdESession, hdI, hdS, inc])) (AOs.r (AOs.r AOs.e))
     ·skip
      refine CW.skip ?_
      refine CW.keep 41 [0,1,5] rfl ?_;(conv=>whnf);refine ⟨?_⟩
      refine CW.region ?_
      refine RW.k XK 41 3 rfl ?_
      (conv=>whnf);refine ⟨rfl,?_⟩
      refine RW.nil ?_
      refine CW.keep 41 [0,1,5] rfl ?_;(conv=>whnf);refine ⟨?_⟩
      refine CW.region ?_
      refine RW.k XK 41 1 rfl ?_
      (conv=>whnf);refine ⟨rfl,?_⟩
      refine RW.v rfl (V.inc rfl rfl rfl hii hl0) ?_
      refine RW.k XK 41 1 rfl ?_
      (conv=>whnf);refine ⟨rfl,?_⟩
      refine RW.nil ?_
      exact ⟨(i + 1, _), by simp only []; omega, ⟨by omega, by first | exact wrap_le _ | omega, by rw [← hr, hdi]; clear hr; first | rfl | (simp_all [hdL, hdESession, hdI, hdS, inc]; done) | grind [hdL, hdESession, hdI, hdS, inc]⟩, rfl, Le.c rfl <| Le.c rfl <| Le.c rfl <| Le.e⟩
 ·skip
  have hii : a.length ≤ i := by have := h1; simp at this; first | exact this | omega | (simp; done) | (simp; omega)
  have hdi : a.drop i = [] := List.drop_eq_nil_of_le hii
  refine CW.exit ?_
  refine CW.keep 41 [1] rfl ?_;(conv=>whnf);refine ⟨?_⟩
  refine CW.k XK 41 1 [4] rfl ?_
  (conv=>whnf);refine ⟨rfl,?_⟩
  refine CW.ret ?_
  exact Post.one (RV.i rfl (by rw [← hr, hdi]; clear hr; first | rfl | (simp_all [hdL, hdESession, hdI, hdS, inc]; done) | grind [hdL, hdESession, hdI, hdS, inc])) (AOs.r (AOs.r AOs.e))
set_option maxHeartbeats 4000000 in
theorem laws_heldItemS_fn (a : List Item) (k : Int) (hk : k ≤ 9223372036854775807) : Eng.Fn E.P 63 [.one (.r (sl 3 Item.c a)), .one (.r (.v (.int .i64 k)))] (.one (.one (.w (.v (.int .i64 ((hdL hdEItem a k).getD (-1))))))) [.one (.r (sl 3 Item.c a)), .one (.r (.v (.int .i64 k)))] := by
 refine Eng.Fn.intro (E := E) (rvs := [.tmp 4]) Tryd.func63 rfl rfl rfl (by simp [outSlots, moved, rvSlot, sl]) ?_
 intro B g bo
 refine CW.bound (x := .tmp 0) (n := a.length) (AsT.r) (fun hl0 => ?_)
 refine CW.keep 42 [0,1] rfl ?_;(conv=>whnf);refine ⟨?_⟩
 refine CW.k XK 42 1 [0,1] rfl ?_
 (conv=>whnf);refine ⟨rfl,?_⟩
 refine CW.seq ?_
 refine CW.k XK 42 1 [0,1,5] rfl ?_
 (conv=>whnf);refine ⟨rfl,?_⟩
 refine CW.block ?_
 refine CW.loopI 42 (fun (zz : Nat × Int) => match zz with | (i, l) => [(0, .r (sl 3 Item.c a)), (1, I l), (5, I (i : Int))]) (fun (zz : Nat × Int) => match zz with | (i, l) => i ≤ a.length ∧ l ≤ 9223372036854775807 ∧ hdL hdEItem (a.drop i) l = hdL hdEItem a k) (fun (zz : Nat × Int) => match zz with | (i, l) => a.length - i) (0, _) rfl (Le.c rfl <| Le.c rfl <| Le.c rfl <| Le.e) ⟨by omega, hk, by simp⟩ ?_
 rintro ⟨i, l⟩ ⟨hb, hlk, hr⟩
 refine CW.seq ?_
 refine CW.k XK 42 1 [0,1,5,9] rfl ?_
 (conv=>whnf);refine ⟨rfl,?_⟩
 refine CW.cond rfl (fun h1 => ?_) (fun h1 => ?_)
 ·skip
  have hii : i < a.length := by have := h1; simp at this; first | exact this | omega | (simp; done) | (simp; omega)
  obtain ⟨ei, hei⟩ : ∃ e, a[i]? = some e := ⟨_, List.getElem?_eq_getElem hii⟩
  have hdi := drop_get hei
  refine CW.skip ?_
  refine CW.keep 42 [0,1,5] rfl ?_;(conv=>whnf);refine ⟨?_⟩
  refine CW.seq ?_
  refine CW.block ?_
  refine CW.seq ?_
  refine CW.anyJ2 (fc := []) (L0 := [(0, .r (sl 3 Item.c a)), (1, I l), (5, I (i : Int))]) 42 (fun (go2_6_1 : (Nat → Nat → Value)) => [(19, Bo (!(ei.key.toList == (mtext l).toList)))]) (fun all hall f hf b0 hb K hK => ?_) ?_
  ·skip
   have ro2_1 : ∀ B, ∀ (go2_6_1 : Nat → Nat → Value), RA f E B all 0 (bt 8 255) ⟨42, [(19, Bo (!(ei.key.toList == (mtext l).toList)))] ++ b0⟩ K := by
    intro B go2_6_1
    exact RA.of2 hall hf hb (RA.finH (Tell.of rfl) (by kernel_rfl) (hK go2_6_1 _ rfl (Le.of rfl)))
   have ro2_0 : ∀ B, RA f E B all 2 (bt 8 63) ⟨42, [(16, S ei.key), (17, I l)] ++ b0⟩ K := by
    intro B
    refine RA.of2 hall hf hb (RA.stepH (L := [6]) (Tell.of rfl) (by kernel_rfl) (by simp) (RA.each ?_ (RA.each0)))
    ·skip
     refine RO.call rfl rfl (laws_markText_fn l (by first | exact hlk | exact wrap_le _)) rfl (.cons (.one (.r .r)) (.nil)) rfl fun go2_6_1 => ?_
     refine RA.fr XK 42 0 [7] (bt 8 255) rfl rfl (by kernel_rfl) (Tell.of rfl) ?_
     (conv=>whnf);refine ⟨rfl,fun B=>?_⟩
     exact RA.to2 hall hf hb (ro2_1 B go2_6_1) rfl rfl (by kernel_rfl)
   refine RA.start (by kernel_rfl) (by kernel_rfl) (m := 8) (ls' := (bt 8 0)) ?_
   refine RA.fr XK 42 6 [0,1] (bt 8 3) rfl rfl (by kernel_rfl) (Tell.of rfl) ?_
   (conv=>whnf);refine ⟨rfl,fun B=>?_⟩
   refine RA.first (i := 2) (ls' := (bt 8 7)) (Tell.of rfl) (by kernel_rfl) rfl rfl rfl (VF.p (V.indexS rfl rfl rfl rfl rfl rfl Item.len hei)) ?_
   refine RA.fr XK 42 2 [3,4,5] (bt 8 63) rfl rfl (by kernel_rfl) (Tell.of rfl) ?_
   (conv=>whnf);refine ⟨rfl,fun B=>?_⟩
   exact RA.to2 hall hf hb (ro2_0 B) rfl rfl (by kernel_rfl)
  ·rintro go2_6_1
   refine CW.cond rfl (fun h3 => ?_) (fun h3 => ?_)
   ·skip
    refine CW.k XK 42 1 [4] rfl ?_
    (conv=>whnf);refine ⟨rfl,?_⟩
    refine CW.ret ?_
    exact Post.one (RV.i rfl (by rw [← hr, hdi]; clear hr; first | rfl | (simp_all [hdL, hdEItem, hdI, hdS, inc]; done) | grind [hdL, hdEItem, hdI, hdS, inc])) (AOs.r (AOs.r AOs.e))
   ·skip
    refine CW.skip ?_
    refine CW.keep 42 [0,1,5] rfl ?_;(conv=>whnf);refine ⟨?_⟩
    refine CW.k XK 42 1 [0,1,5] rfl ?_
    (conv=>whnf);refine ⟨rfl,?_⟩
    refine CW.seq ?_
    refine CW.anyJ2 (fc := []) (L0 := [(0, .r (sl 3 Item.c a)), (1, I (IntKind.i64.wrap (l + 1))), (5, I (i : Int))]) 42 (fun (go4_6_1 : (Nat → Nat → Value)) => [(29, Bo (!(ei.val.toList == (mtext (IntKind.i64.wrap (l + 1))).toList)))]) (fun all hall f hf b0 hb K hK => ?_) ?_
    ·skip
     have ro4_1 : ∀ B, ∀ (go4_6_1 : Nat → Nat → Value), RA f E B all 0 (bt 8 255) ⟨42, [(29, Bo (!(ei.val.toList == (mtext (IntKind.i64.wrap (l + 1))).toList)))] ++ b0⟩ K := by
      intro B go4_6_1
      exact RA.of2 hall hf hb (RA.finH (Tell.of rfl) (by kernel_rfl) (hK go4_6_1 _ rfl (Le.of rfl)))
     have ro4_0 : ∀ B, RA f E B all 2 (bt 8 63) ⟨42, [(26, S ei.val), (27, I (IntKind.i64.wrap (l + 1)))] ++ b0⟩ K := by
      intro B
      refine RA.of2 hall hf hb (RA.stepH (L := [6]) (Tell.of rfl) (by kernel_rfl) (by simp) (RA.each ?_ (RA.each0)))
      ·skip
       refine RO.call rfl rfl (laws_markText_fn (IntKind.i64.wrap (l + 1)) (by first | exact hlk | exact wrap_le _)) rfl (.cons (.one (.r .r)) (.nil)) rfl fun go4_6_1 => ?_
       refine RA.fr XK 42 0 [7] (bt 8 255) rfl rfl (by kernel_rfl) (Tell.of rfl) ?_
       (conv=>whnf);refine ⟨rfl,fun B=>?_⟩
       exact RA.to2 hall hf hb (ro4_1 B go4_6_1) rfl rfl (by kernel_rfl)
     refine RA.start (by kernel_rfl) (by kernel_rfl) (m := 8) (ls' := (bt 8 0)) ?_
     refine RA.fr XK 42 6 [0,1] (bt 8 3) rfl rfl (by kernel_rfl) (Tell.of rfl) ?_
     (conv=>whnf);refine ⟨rfl,fun B=>?_⟩
     refine RA.first (i := 2) (ls' := (bt 8 7)) (Tell.of rfl) (by kernel_rfl) rfl rfl rfl (VF.p (V.indexS rfl rfl rfl rfl rfl rfl Item.len hei)) ?_
     refine RA.fr XK 42 2 [3,4,5] (bt 8 63) rfl rfl (by kernel_rfl) (Tell.of rfl) ?_
     (conv=>whnf);refine ⟨rfl,fun B=>?_⟩
     exact RA.to2 hall hf hb (ro4_0 B) rfl rfl (by kernel_rfl)
    ·rintro go4_6_1
     refine CW.cond rfl (fun h5 => ?_) (fun h5 => ?_)
     ·skip
      refine CW.k XK 42 1 [4] rfl ?_
      (conv=>whnf);refine ⟨rfl,?_⟩
      refine CW.ret ?_
      exact Post.one (RV.i rfl (by rw [← hr, hdi]; clear hr; first | rfl | (simp_all [hdL, hdEItem, hdI, hdS, inc]; done) | grind [hdL, hdEItem, hdI, hdS, inc])) (AOs.r (AOs.r AOs.e))
     ·skip
      refine CW.skip ?_
      refine CW.keep 42 [0,1,5] rfl ?_;(conv=>whnf);refine ⟨?_⟩
      refine CW.k XK 42 1 [0,1,5] rfl ?_
      (conv=>whnf);refine ⟨rfl,?_⟩
      refine CW.seq ?_
      refine CW.seq ?_
      refine CW.region ?_
      refine RW.k XK 42 2 rfl ?_
      (conv=>whnf);refine ⟨rfl,?_⟩
      refine RW.v rfl (V.indexS rfl rfl rfl rfl rfl rfl Item.len hei) ?_
      refine RW.k XK 42 4 rfl ?_
      (conv=>whnf);refine ⟨rfl,?_⟩
      refine RW.nil ?_
      refine CW.keep 42 [0,1,5,38] rfl ?_;(conv=>whnf);refine ⟨?_⟩
      refine CW.cond rfl (fun h6 => ?_) (fun h6 => ?_)
      ·skip
       refine CW.k XK 42 1 [4] rfl ?_
       (conv=>whnf);refine ⟨rfl,?_⟩
       refine CW.ret ?_
       exact Post.one (RV.i rfl (by rw [← hr, hdi]; clear hr; first | rfl | (simp_all [hdL, hdEItem, hdI, hdS, inc]; done) | grind [hdL, hdEItem, hdI, hdS, inc])) (AOs.r (AOs.r AOs.e))
      ·skip
       refine CW.skip ?_
       refine CW.keep 42 [0,1,5] rfl ?_;(conv=>whnf);refine ⟨?_⟩
       refine CW.region ?_
       refine RW.k XK 42 3 rfl ?_
       (conv=>whnf);refine ⟨rfl,?_⟩
       refine RW.nil ?_
       refine CW.keep 42 [0,1,5] rfl ?_;(conv=>whnf);refine ⟨?_⟩
       refine CW.region ?_
       refine RW.k XK 42 1 rfl ?_
       (conv=>whnf);refine ⟨rfl,?_⟩
       refine RW.v rfl (V.inc rfl rfl rfl hii hl0) ?_
       refine RW.k XK 42 1 rfl ?_
       (conv=>whnf);refine ⟨rfl,?_⟩
       refine RW.nil ?_
       exact ⟨(i + 1, _), by simp only []; omega, ⟨by omega, by first | exact wrap_le _ | omega, by rw [← hr, hdi]; clear hr; first | rfl | (simp_all [hdL, hdEItem, hdI, hdS, inc]; done) | grind [hdL, hdEItem, hdI, hdS, inc]⟩, rfl, Le.c rfl <| Le.c rfl <| Le.c rfl <| Le.e⟩
 ·skip
  have hii : a.length ≤ i := by have := h1; simp at this; first | exact this | omega | (simp; done) | (simp; omega)
  have hdi : a.drop i = [] := List.drop_eq_nil_of_le hii
  refine CW.exit ?_
  refine CW.keep 42 [1] rfl ?_;(conv=>whnf);refine ⟨?_⟩
  refine CW.k XK 42 1 [4] rfl ?_
  (conv=>whnf);refine ⟨rfl,?_⟩
  refine CW.ret ?_
  exact Post.one (RV.i rfl (by rw [← hr, hdi]; clear hr; first | rfl | (simp_all [hdL, hdEItem, hdI, hdS, inc]; done) | grind [hdL, hdEItem, hdI, hdS, inc])) (AOs.r (AOs.r AOs.e))
set_option maxHeartbeats 4000000 in
theorem laws_heldKeep_fn (a : Keep) (k : Int) (hk : k ≤ 9223372036854775807) : Eng.Fn E.P 29 [.agg ((Keep.c a).map .r), .one (.r (.v (.int .i64 k)))] (.one (.one (.w (.v (.int .i64 ((hdVKeep a k).getD (-1))))))) [.agg ((Keep.c a).map .r), .one (.r (.v (.int .i64 k)))] := by
 refine Eng.Fn.intro (E := E) (rvs := [.tmp 4]) Tryd.func29 rfl rfl rfl (by simp [outSlots, moved, rvSlot, sl]) ?_
 intro B g bo
 refine CW.keep 18 [0,1] rfl ?_;(conv=>whnf);refine ⟨?_⟩
 refine CW.seq ?_
 refine CW.region ?_
 refine RW.k XK 18 1 rfl ?_
 (conv=>whnf);intro b1;(conv=>whnf);refine ⟨rfl,?_⟩
 refine RW.freezeB (ts := (Keep.c a)) 2 rfl (DRd.r (DRd.r DRd.e)) ?_
 refine RW.k XK 18 1 rfl ?_
 (conv=>whnf);refine ⟨rfl,?_⟩
 refine RW.nil ?_
 refine CW.keep 18 [1,2] rfl ?_;(conv=>whnf);refine ⟨?_⟩
 refine CW.seq ?_
 refine CW.region ?_
 refine RW.k XK 18 3 rfl ?_
 (conv=>whnf);refine ⟨rfl,?_⟩
 refine RW.call rfl (laws_heldSessionS_fn a.sessions k (by repeat (first | exact hk | apply leD | apply hdL_le | apply hdN_le | exact hdI_le | exact hdS_le | exact hdB_le | exact hdESession_le | exact hdEItem_le | exact hdVKeep_le))) rfl (.cons (.one (.r .r)) (.cons (.one (.r .r)) (.nil))) fun g2 => ?_
 refine RW.k XK 18 1 rfl ?_
 (conv=>whnf);refine ⟨rfl,?_⟩
 refine RW.nil ?_
 refine CW.keep 18 [1,2] rfl ?_;(conv=>whnf);refine ⟨?_⟩
 refine CW.seq ?_
 refine CW.k XK 18 1 [1,2,10] rfl ?_
 (conv=>whnf);refine ⟨rfl,?_⟩
 refine CW.cond rfl (fun h3 => ?_) (fun h3 => ?_)
 ·skip
  refine CW.k XK 18 1 [4] rfl ?_
  (conv=>whnf);refine ⟨rfl,?_⟩
  refine CW.ret ?_
  exact Post.one (RV.i rfl (by simp_all [hdVKeep, hdN_ok, hdN_bad])) (AOs.a rfl (AOs.r AOs.e))
 ·skip
  refine CW.skip ?_
  refine CW.keep 18 [1,2] rfl ?_;(conv=>whnf);refine ⟨?_⟩
  refine CW.seq ?_
  refine CW.region ?_
  refine RW.k XK 18 3 rfl ?_
  (conv=>whnf);refine ⟨rfl,?_⟩
  refine RW.call rfl (laws_heldItemS_fn a.items ((hdL hdESession a.sessions k).getD (-1)) (by repeat (first | exact hk | apply leD | apply hdL_le | apply hdN_le | exact hdI_le | exact hdS_le | exact hdB_le | exact hdESession_le | exact hdEItem_le | exact hdVKeep_le))) rfl (.cons (.one (.r .r)) (.cons (.one (.r .r)) (.nil))) fun g4 => ?_
  refine RW.k XK 18 1 rfl ?_
  (conv=>whnf);refine ⟨rfl,?_⟩
  refine RW.nil ?_
  refine CW.keep 18 [1] rfl ?_;(conv=>whnf);refine ⟨?_⟩
  refine CW.seq ?_
  refine CW.k XK 18 1 [1,16] rfl ?_
  (conv=>whnf);refine ⟨rfl,?_⟩
  refine CW.cond rfl (fun h5 => ?_) (fun h5 => ?_)
  ·skip
   refine CW.k XK 18 1 [4] rfl ?_
   (conv=>whnf);refine ⟨rfl,?_⟩
   refine CW.ret ?_
   exact Post.one (RV.i rfl (by simp_all [hdVKeep, hdN_ok, hdN_bad])) (AOs.a rfl (AOs.r AOs.e))
  ·skip
   refine CW.skip ?_
   refine CW.keep 18 [1] rfl ?_;(conv=>whnf);refine ⟨?_⟩
   refine CW.k XK 18 1 [4] rfl ?_
   (conv=>whnf);refine ⟨rfl,?_⟩
   refine CW.ret ?_
   exact Post.one (RV.i rfl (by simp_all [hdVKeep, hdN_ok, hdN_bad])) (AOs.a rfl (AOs.r AOs.e))
set_option maxHeartbeats 4000000 in
theorem impl_within_fn (n : Int) (x : Int) (y : Int) : Eng.Fn E.P 47 [.one (.r (.v (.int .i64 n))), .one (.r (.v (.int .i64 x))), .one (.r (.v (.int .i64 y)))] (.one (.one (.w (.v (.bool (inR n x y)))))) [.one (.r (.v (.int .i64 n))), .one (.r (.v (.int .i64 x))), .one (.r (.v (.int .i64 y)))] := by
 refine Eng.Fn.intro (E := E) (rvs := [.tmp 6]) Tryd.func47 rfl rfl rfl (by simp [outSlots, moved, rvSlot, sl]) ?_
 intro B g bo
 refine CW.keep 15 [0,1,2] rfl ?_;(conv=>whnf);refine ⟨?_⟩
 refine CW.k XK 15 1 [0,1,2] rfl ?_
 (conv=>whnf);refine ⟨rfl,?_⟩
 refine CW.seqJ 15 (fun (v1 : Bool) => [(6, Bo v1)]) (fun v1 => v1 = (decide (n ≥ x) && decide (n ≤ y))) ?_ ?_
 ·refine CW.region ?_
  refine RW.k XK 15 4 rfl ?_
  (conv=>whnf);refine ⟨rfl,?_⟩
  refine RW.gv rfl rfl rfl rfl (fun h2 => V.mv (d := I n) rfl rfl) (fun h2 => ?_) (fun h2 => ?_)
  ·skip
   refine RW.k XK 15 4 rfl ?_
   (conv=>whnf);refine ⟨rfl,?_⟩
   refine RW.nil ?_
   exact ⟨_, by first | rfl | (simp_all; done) | (simp_all; omega) | grind, rfl, Le.of rfl⟩
  ·skip
   refine RW.k XK 15 4 rfl ?_
   (conv=>whnf);refine ⟨rfl,?_⟩
   refine RW.nil ?_
   exact ⟨_, by first | rfl | (simp_all; done) | (simp_all; omega) | grind, rfl, Le.of rfl⟩
 ·intro v1 hv3
  refine CW.ret ?_
  exact Post.one (RV.b rfl (by simp_all [inR])) (AOs.r (AOs.r (AOs.r AOs.e)))
set_option maxHeartbeats 4000000 in
theorem spec_l01In_fn (n : Int) (x : Int) (y : Int) : Eng.Fn E.P 56 [.one (.r (.v (.int .i64 n))), .one (.r (.v (.int .i64 x))), .one (.r (.v (.int .i64 y)))] (.one (.one (.w (.v (.bool (inR n x y)))))) [.one (.r (.v (.int .i64 n))), .one (.r (.v (.int .i64 x))), .one (.r (.v (.int .i64 y)))] := by
 refine Eng.Fn.intro (E := E) (rvs := [.tmp 6]) Tryd.func56 rfl rfl rfl (by simp [outSlots, moved, rvSlot, sl]) ?_
 intro B g bo
 refine CW.keep 15 [0,1,2] rfl ?_;(conv=>whnf);refine ⟨?_⟩
 refine CW.k XK 15 1 [0,1,2] rfl ?_
 (conv=>whnf);refine ⟨rfl,?_⟩
 refine CW.seqJ 15 (fun (v1 : Bool) => [(6, Bo v1)]) (fun v1 => v1 = (decide (n ≥ x) && decide (n ≤ y))) ?_ ?_
 ·refine CW.region ?_
  refine RW.k XK 15 4 rfl ?_
  (conv=>whnf);refine ⟨rfl,?_⟩
  refine RW.gv rfl rfl rfl rfl (fun h2 => V.mv (d := I n) rfl rfl) (fun h2 => ?_) (fun h2 => ?_)
  ·skip
   refine RW.k XK 15 4 rfl ?_
   (conv=>whnf);refine ⟨rfl,?_⟩
   refine RW.nil ?_
   exact ⟨_, by first | rfl | (simp_all; done) | (simp_all; omega) | grind, rfl, Le.of rfl⟩
  ·skip
   refine RW.k XK 15 4 rfl ?_
   (conv=>whnf);refine ⟨rfl,?_⟩
   refine RW.nil ?_
   exact ⟨_, by first | rfl | (simp_all; done) | (simp_all; omega) | grind, rfl, Le.of rfl⟩
 ·intro v1 hv3
  refine CW.ret ?_
  exact Post.one (RV.b rfl (by simp_all [inR])) (AOs.r (AOs.r (AOs.r AOs.e)))
set_option maxHeartbeats 4000000 in
theorem impl_isIndex_fn (n : Int) : Eng.Fn E.P 48 [.one (.r (.v (.int .i64 n)))] (.one (.one (.w (.v (.bool (inR n 0 1000000)))))) [.one (.r (.v (.int .i64 n)))] := by
 refine Eng.Fn.intro (E := E) (rvs := [.tmp 2]) Tryd.func48 rfl rfl rfl (by simp [outSlots, moved, rvSlot, sl]) ?_
 intro B g bo
 refine CW.keep 5 [0] rfl ?_;(conv=>whnf);refine ⟨?_⟩
 refine CW.k XK 5 1 [0] rfl ?_
 (conv=>whnf);refine ⟨rfl,?_⟩
 refine CW.seq ?_
 refine CW.region ?_
 refine RW.k XK 5 1 rfl ?_
 (conv=>whnf);refine ⟨rfl,?_⟩
 refine RW.call rfl (impl_within_fn n 0 1000000) rfl (.cons (.one (.r .r)) (.cons (.one (.r .r)) (.cons (.one (.r .r)) (.nil)))) fun g1 => ?_
 refine RW.k XK 5 1 rfl ?_
 (conv=>whnf);refine ⟨rfl,?_⟩
 refine RW.nil ?_
 refine CW.keep 5 [2] rfl ?_;(conv=>whnf);refine ⟨?_⟩
 refine CW.ret ?_
 exact Post.one (RV.b rfl (by rfl)) (AOs.r AOs.e)
set_option maxHeartbeats 4000000 in
theorem impl_keyOk_fn (s : ByteArray) : Eng.Fn E.P 49 [.one (.r (.v (.string s)))] (.one (.one (.w (.v (.bool (inR (s.size : Int) 1 8)))))) [.one (.r (.v (.string s)))] := by
 refine Eng.Fn.intro (E := E) (rvs := [.tmp 2]) Tryd.func49 rfl rfl rfl (by simp [outSlots, moved, rvSlot, sl]) ?_
 intro B g bo
 refine CW.keep 6 [0] rfl ?_;(conv=>whnf);refine ⟨?_⟩
 refine CW.k XK 6 1 [0] rfl ?_
 (conv=>whnf);refine ⟨rfl,?_⟩
 refine CW.seq ?_
 refine CW.region ?_
 refine RW.k XK 6 2 rfl ?_
 (conv=>whnf);refine ⟨rfl,?_⟩
 refine RW.call rfl (impl_within_fn (s.size : Int) 1 8) rfl (.cons (.one (.r .r)) (.cons (.one (.r .r)) (.cons (.one (.r .r)) (.nil)))) fun g1 => ?_
 refine RW.k XK 6 1 rfl ?_
 (conv=>whnf);refine ⟨rfl,?_⟩
 refine RW.nil ?_
 refine CW.keep 6 [2] rfl ?_;(conv=>whnf);refine ⟨?_⟩
 refine CW.ret ?_
 exact Post.one (RV.b rfl (by rfl)) (AOs.r AOs.e)
set_option maxHeartbeats 4000000 in
theorem impl_valOk_fn (s : ByteArray) : Eng.Fn E.P 50 [.one (.r (.v (.string s)))] (.one (.one (.w (.v (.bool (decide ((s.size : Int) ≤ 20))))))) [.one (.r (.v (.string s)))] := by
 refine Eng.Fn.intro (E := E) (rvs := [.tmp 2]) Tryd.func50 rfl rfl rfl (by simp [outSlots, moved, rvSlot, sl]) ?_
 intro B g bo
 refine CW.keep 6 [0] rfl ?_;(conv=>whnf);refine ⟨?_⟩
 refine CW.k XK 6 2 [2] rfl ?_
 (conv=>whnf);refine ⟨rfl,?_⟩
 refine CW.ret ?_
 exact Post.one (RV.b rfl (by rfl)) (AOs.r AOs.e)
set_option maxHeartbeats 4000000 in
theorem impl_Decimal_fn (n : Int) (hn : okI n) : Eng.Fn E.P 40 [.one (.r (.v (.int .i64 n)))] (.one (.one (.w (.v (.string (itoaB n)))))) [.one (.r (.v (.int .i64 n)))] := by
 refine Eng.Fn.intro (E := E) (rvs := [.tmp 2]) Tryd.func40 rfl rfl rfl (by simp [outSlots, moved, rvSlot, sl]) ?_
 intro B g bo
 refine CW.keep 5 [0] rfl ?_;(conv=>whnf);refine ⟨?_⟩
 refine CW.k XK 5 1 [0] rfl ?_
 (conv=>whnf);refine ⟨rfl,?_⟩
 refine CW.seq ?_
 refine CW.region ?_
 refine RW.k XK 5 1 rfl ?_
 (conv=>whnf);refine ⟨rfl,?_⟩
 refine RW.call rfl (strconv_Itoa_fn n hn) rfl (.cons (.one (.r .r)) (.nil)) fun g1 => ?_
 refine RW.k XK 5 1 rfl ?_
 (conv=>whnf);refine ⟨rfl,?_⟩
 refine RW.nil ?_
 refine CW.keep 5 [2] rfl ?_;(conv=>whnf);refine ⟨?_⟩
 refine CW.ret ?_
 exact Post.one (RV.s rfl (by rfl)) (AOs.r AOs.e)
set_option maxHeartbeats 4000000 in
theorem impl_KeepOk_fn (k : Keep) (hok : okToKeep k) : Eng.Fn E.P 17 [.agg ((Keep.c k).map .r)] (.one (.one (.w (.v (.bool (keepOk k)))))) [.agg ((Keep.c k).map .r)] := by
 refine Eng.Fn.intro (E := E) (rvs := [.tmp 2]) Tryd.func17 rfl rfl rfl (by simp [outSlots, moved, rvSlot, sl]) ?_
 intro B g bo
 refine CW.keep 107 [0] rfl ?_;(conv=>whnf);refine ⟨?_⟩
 have hl1 : k.sessions.length ≤ maxLen := by have := hok.1.1; simp only [maxLen]; omega
 have hl2 : k.items.length ≤ maxLen := by have := hok.2.1; simp only [maxLen]; omega
 refine CW.seq ?_
 refine CW.region ?_
 refine RW.k XK 107 1 rfl ?_
 (conv=>whnf);intro b1;(conv=>whnf);refine ⟨rfl,?_⟩
 refine RW.freezeB (ts := (Keep.c k)) 1 rfl (DRd.r (DRd.r DRd.e)) ?_
 refine RW.k XK 107 1 rfl ?_
 (conv=>whnf);refine ⟨rfl,?_⟩
 refine RW.nil ?_
 refine CW.keep 107 [1] rfl ?_;(conv=>whnf);refine ⟨?_⟩
 refine CW.seq ?_
 refine CW.k XK 107 1 [1,8,9,10] rfl ?_
 (conv=>whnf);refine ⟨rfl,?_⟩
 refine CW.block ?_
 refine CW.loopI 107 (fun (i : Nat) => [(1, .rp (Keep.c k)), (8, .r (sl 3 Session.c k.sessions)), (9, I (k.sessions.length : Int)), (10, I (i : Int))]) (fun (i : Nat) => i ≤ k.sessions.length ∧ sessF (prevO Session.token Session.z k.sessions i) (k.sessions.drop i) = sessF none k.sessions) (fun (i : Nat) => k.sessions.length - i) 0 rfl (Le.c rfl <| Le.c rfl <| Le.c rfl <| Le.c rfl <| Le.e) ⟨by omega, rfl⟩ ?_
 rintro i ⟨hb, hr⟩
 refine CW.k XK 107 1 [1,8,9,10,11] rfl ?_
 (conv=>whnf);refine ⟨rfl,?_⟩
 refine CW.seq ?_
 refine CW.cond rfl (fun h2 => ?_) (fun h2 => ?_)
 ·skip
  have hii : i < k.sessions.length := by have := h2; simp at this; first | exact this | omega | (simp; done) | (simp; omega)
  obtain ⟨ei, hei⟩ : ∃ e, k.sessions[i]? = some e := ⟨_, List.getElem?_eq_getElem hii⟩
  have hdi := drop_get hei
  refine CW.skip ?_
  refine CW.keep 107 [1,8,9,10] rfl ?_;(conv=>whnf);refine ⟨?_⟩
  refine CW.seq ?_
  refine CW.block ?_
  refine CW.seq ?_
  refine CW.region ?_
  refine RW.k XK 107 1 rfl ?_
  (conv=>whnf);refine ⟨rfl,?_⟩
  refine RW.v rfl (V.indexS rfl rfl rfl rfl rfl rfl Session.len hei) ?_
  refine RW.k XK 107 4 rfl ?_
  (conv=>whnf);intro b3;(conv=>whnf);refine ⟨rfl,?_⟩
  refine RW.freezeB (ts := (Session.c ei)) 4 rfl (DRd.r (DRd.r (DRd.r DRd.e))) ?_
  refine RW.nil ?_
  refine CW.keep 107 [1,3,4,8,9,10] rfl ?_;(conv=>whnf);refine ⟨?_⟩
  refine CW.seq ?_
  refine CW.seqJ 107 (fun (v4 : Bool) => [(1, .rp (Keep.c k)), (3, I (i : Int)), (4, .rp (Session.c ei)), (8, .r (sl 3 Session.c k.sessions)), (9, I (k.sessions.length : Int)), (10, I (i : Int)), (40, Bo v4)]) (fun v4 => v4 = ((((!(inR ei.token 1 1000000)) || (!(inR ei.last 0 1000000))) || decide ((ei.reply.size : Int) > 40)) || ((ei.last == 0) && (!(ei.reply.toList == (⟨#[]⟩ : ByteArray).toList))))) ?_ ?_
  ·refine CW.region ?_
   refine RW.k XK 107 2 rfl ?_
   (conv=>whnf);refine ⟨rfl,?_⟩
   refine RW.call rfl (impl_within_fn ei.token 1 1000000) rfl (.cons (.one (.r .r)) (.cons (.one (.r .r)) (.cons (.one (.r .r)) (.nil)))) fun g5 => ?_
   refine RW.k XK 107 2 rfl ?_
   (conv=>whnf);refine ⟨rfl,?_⟩
   refine RW.gv rfl rfl rfl rfl (fun h6 => V.fieldR rfl rfl rfl rfl (by decide) rfl (Nat.le_of_ble_eq_true rfl)) (fun h6 => ?_) (fun h6 => ?_)
   ·skip
    refine RW.k XK 107 1 rfl ?_
    (conv=>whnf);refine ⟨rfl,?_⟩
    refine RW.gcall rfl rfl rfl rfl (impl_isIndex_fn ei.last) rfl (.cons (.one (.r .r)) (.nil)) fun g7 => ?_
    refine RW.k XK 107 3 rfl ?_
    (conv=>whnf);refine ⟨rfl,?_⟩
    refine RW.gv rfl rfl rfl rfl (fun h8 => V.fieldR rfl rfl rfl rfl (by decide) rfl (Nat.le_of_ble_eq_true rfl)) (fun h8 => ?_) (fun h8 => ?_)
    ·skip
     refine RW.k XK 107 5 rfl ?_
     (conv=>whnf);refine ⟨rfl,?_⟩
     refine RW.gv rfl rfl rfl rfl (fun h9 => V.fieldR rfl rfl rfl rfl (by decide) rfl (Nat.le_of_ble_eq_true rfl)) (fun h9 => ?_) (fun h9 => ?_)
     ·skip
      refine RW.k XK 107 3 rfl ?_
      (conv=>whnf);refine ⟨rfl,?_⟩
      refine RW.gv rfl rfl rfl rfl (fun h10 => V.fieldR rfl rfl rfl rfl (by decide) rfl (Nat.le_of_ble_eq_true rfl)) (fun h10 => ?_) (fun h10 => ?_)
      ·skip
       refine RW.k XK 107 4 rfl ?_
       (conv=>whnf);refine ⟨rfl,?_⟩
       refine RW.nil ?_
       exact ⟨_, by first | rfl | (simp_all; done) | (simp_all; omega) | grind, rfl, Le.of rfl⟩
      ·skip
       refine RW.k XK 107 4 rfl ?_
       (conv=>whnf);refine ⟨rfl,?_⟩
       refine RW.nil ?_
       exact ⟨_, by first | rfl | (simp_all; done) | (simp_all; omega) | grind, rfl, Le.of rfl⟩
     ·skip
      refine RW.k XK 107 8 rfl ?_
      (conv=>whnf);refine ⟨rfl,?_⟩
      refine RW.nil ?_
      exact ⟨_, by first | rfl | (simp_all; done) | (simp_all; omega) | grind, rfl, Le.of rfl⟩
    ·skip
     refine RW.k XK 107 14 rfl ?_
     (conv=>whnf);refine ⟨rfl,?_⟩
     refine RW.nil ?_
     exact ⟨_, by first | rfl | (simp_all; done) | (simp_all; omega) | grind, rfl, Le.of rfl⟩
   ·skip
    refine RW.k XK 107 20 rfl ?_
    (conv=>whnf);refine ⟨rfl,?_⟩
    refine RW.nil ?_
    exact ⟨_, by first | rfl | (simp_all; done) | (simp_all; omega) | grind, rfl, Le.of rfl⟩
  ·intro v4 hv11
   refine CW.cond rfl (fun h12 => ?_) (fun h12 => ?_)
   ·skip
    refine CW.k XK 107 1 [2] rfl ?_
    (conv=>whnf);refine ⟨rfl,?_⟩
    refine CW.ret ?_
    exact Post.one (RV.b rfl (by have ht : sessF none k.sessions = false := (by rw [← hr, hdi, sessF]; first | (simp_all [sessOk, emp, prevO, prevGe]; done) | grind [sessOk, emp, prevO, prevGe]); simp [keepOk, ht])) (AOs.a rfl AOs.e)
   ·skip
    refine CW.skip ?_
    refine CW.keep 107 [1,3,4,8,9,10] rfl ?_;(conv=>whnf);refine ⟨?_⟩
    refine CW.seqJ 107 (fun (v13 : Bool) => [(1, .rp (Keep.c k)), (8, .r (sl 3 Session.c k.sessions)), (9, I (k.sessions.length : Int)), (10, I (i : Int)), (54, Bo v13)]) (fun v13 => v13 = (decide ((i : Int) > 0) && decide ((k.sessions.getD (i - 1) Session.z).token ≥ ei.token))) ?_ ?_
    ·refine CW.drawn (by kernel_rfl) ?_
     refine RQ.k XK 107 3 rfl ?_
     (conv=>whnf);refine ⟨rfl,?_⟩
     refine RQ.gv rfl rfl rfl rfl (fun h14 => V.fieldR rfl rfl rfl rfl (by decide) rfl (Nat.le_of_ble_eq_true rfl)) (fun h14 => ?_) (fun h14 => ?_)
     ·skip
      refine RQ.k XK 107 2 rfl ?_
      (conv=>whnf);refine ⟨rfl,?_⟩
      refine RQ.gt rfl rfl rfl rfl (V.dec (m := i) rfl rfl rfl (by have := h14; simp at this; omega) (by omega)) ?_
      refine RQ.gt rfl rfl rfl rfl (V.indexS rfl rfl rfl rfl rfl rfl Session.len (getD_some (l := k.sessions) (j := i - 1) (z := Session.z) (by omega))) ?_
      refine RQ.k XK 107 6 rfl ?_
      (conv=>whnf);refine ⟨rfl,?_⟩
      refine RQ.nil ?_
      exact ⟨_, by first | rfl | (simp_all; done) | (simp_all; omega) | grind, rfl, Le.of rfl⟩
     ·skip
      refine RQ.k XK 107 10 rfl ?_
      (conv=>whnf);refine ⟨rfl,?_⟩
      refine RQ.nil ?_
      exact ⟨_, by first | rfl | (simp_all; done) | (simp_all; omega) | grind, rfl, Le.of rfl⟩
    ·intro v13 hv15
     refine CW.cond rfl (fun h16 => ?_) (fun h16 => ?_)
     ·skip
      refine CW.k XK 107 1 [2] rfl ?_
      (conv=>whnf);refine ⟨rfl,?_⟩
      refine CW.ret ?_
      exact Post.one (RV.b rfl (by have ht : sessF none k.sessions = false := (by rw [← hr, hdi, sessF]; first | (simp_all [sessOk, emp, prevO, prevGe]; done) | grind [sessOk, emp, prevO, prevGe]); simp [keepOk, ht])) (AOs.a rfl AOs.e)
     ·skip
      refine CW.skip ?_
      refine CW.keep 107 [1,8,9,10] rfl ?_;(conv=>whnf);refine ⟨?_⟩
      refine CW.region ?_
      refine RW.v rfl (V.inc rfl rfl rfl hii hl1) ?_
      refine RW.k XK 107 1 rfl ?_
      (conv=>whnf);refine ⟨rfl,?_⟩
      refine RW.nil ?_
      exact ⟨i + 1, by omega, ⟨by omega, by rw [← hr, hdi, sessF, prevO_succ hei]; first | (simp_all [sessOk, itemOk, emp, prevO, prevGe, prevS]; done) | grind [sessOk, itemOk, emp, prevO, prevGe, prevS]⟩, rfl, Le.c rfl <| Le.c rfl <| Le.c rfl <| Le.c rfl <| Le.e⟩
 ·skip
  have hii : k.sessions.length ≤ i := by have := h2; simp at this; first | exact this | omega | (simp; done) | (simp; omega)
  have hdi : k.sessions.drop i = [] := List.drop_eq_nil_of_le hii
  refine CW.exit ?_
  refine CW.keep 107 [1] rfl ?_;(conv=>whnf);refine ⟨?_⟩
  refine CW.seq ?_
  refine CW.k XK 107 1 [1,57,58,59] rfl ?_
  (conv=>whnf);refine ⟨rfl,?_⟩
  refine CW.block ?_
  refine CW.loopI 107 (fun (j : Nat) => [(1, .rp (Keep.c k)), (57, .r (sl 3 Item.c k.items)), (58, I (k.items.length : Int)), (59, I (j : Int))]) (fun (j : Nat) => j ≤ k.items.length ∧ itemF (prevO Item.key Item.z k.items j) (k.items.drop j) = itemF none k.items) (fun (j : Nat) => k.items.length - j) 0 rfl (Le.c rfl <| Le.c rfl <| Le.c rfl <| Le.c rfl <| Le.e) ⟨by omega, rfl⟩ ?_
  rintro j ⟨hc, hs⟩
  refine CW.k XK 107 1 [1,57,58,59,60] rfl ?_
  (conv=>whnf);refine ⟨rfl,?_⟩
  refine CW.seq ?_
  refine CW.cond rfl (fun h17 => ?_) (fun h17 => ?_)
  ·skip
   have hij : j < k.items.length := by have := h17; simp at this; first | exact this | omega | (simp; done) | (simp; omega)
   obtain ⟨ej, hej⟩ : ∃ e, k.items[j]? = some e := ⟨_, List.getElem?_eq_getElem hij⟩
   have hdj := drop_get hej
   refine CW.skip ?_
   refine CW.keep 107 [1,57,58,59] rfl ?_;(conv=>whnf);refine ⟨?_⟩
   refine CW.seq ?_
   refine CW.block ?_
   refine CW.seq ?_
   refine CW.region ?_
   refine RW.k XK 107 1 rfl ?_
   (conv=>whnf);refine ⟨rfl,?_⟩
   refine RW.v rfl (V.indexS rfl rfl rfl rfl rfl rfl Item.len hej) ?_
   refine RW.k XK 107 4 rfl ?_
   (conv=>whnf);intro b18;(conv=>whnf);refine ⟨rfl,?_⟩
   refine RW.freezeB (ts := (Item.c ej)) 6 rfl (DRd.r (DRd.r (DRd.r DRd.e))) ?_
   refine RW.nil ?_
   refine CW.keep 107 [1,5,6,57,58,59] rfl ?_;(conv=>whnf);refine ⟨?_⟩
   refine CW.seqJ 107 (fun (v19 : Bool) => [(1, .rp (Keep.c k)), (57, .r (sl 3 Item.c k.items)), (58, I (k.items.length : Int)), (59, I (j : Int)), (95, Bo v19)]) (fun v19 => v19 = ((((!(inR (ej.key.size : Int) 1 8)) || (!(decide ((ej.val.size : Int) ≤ 20)))) || (!(inR ej.ver 1 1000000000))) || (decide ((j : Int) > 0) && (!(Op.bytesLess ((k.items.getD (j - 1) Item.z).key).toList ej.key.toList))))) ?_ ?_
   ·refine CW.drawn (by kernel_rfl) ?_
    refine RQ.k XK 107 2 rfl ?_
    (conv=>whnf);refine ⟨rfl,?_⟩
    refine RQ.cons rfl (QOK.call (impl_keyOk_fn ej.key) rfl (.cons (.one (.r .r)) (.nil)) ?_)
    refine RQ.k XK 107 2 rfl ?_
    (conv=>whnf);refine ⟨rfl,?_⟩
    refine RQ.gv rfl rfl rfl rfl (fun h20 => V.fieldR rfl rfl rfl rfl (by decide) rfl (Nat.le_of_ble_eq_true rfl)) (fun h20 => ?_) (fun h20 => ?_)
    ·skip
     refine RQ.k XK 107 1 rfl ?_
     (conv=>whnf);refine ⟨rfl,?_⟩
     refine RQ.guardT rfl rfl rfl rfl (QOK.call (impl_valOk_fn ej.val) rfl (.cons (.one (.r .r)) (.nil)) ?_)
     refine RQ.k XK 107 3 rfl ?_
     (conv=>whnf);refine ⟨rfl,?_⟩
     refine RQ.gv rfl rfl rfl rfl (fun h21 => V.fieldR rfl rfl rfl rfl (by decide) rfl (Nat.le_of_ble_eq_true rfl)) (fun h21 => ?_) (fun h21 => ?_)
     ·skip
      refine RQ.k XK 107 1 rfl ?_
      (conv=>whnf);refine ⟨rfl,?_⟩
      refine RQ.guardT rfl rfl rfl rfl (QOK.call (impl_within_fn ej.ver 1 1000000000) rfl (.cons (.one (.r .r)) (.cons (.one (.r .r)) (.cons (.one (.r .r)) (.nil)))) ?_)
      refine RQ.k XK 107 3 rfl ?_
      (conv=>whnf);refine ⟨rfl,?_⟩
      refine RQ.gv rfl rfl rfl rfl (fun h22 => V.mv (d := I (j : Int)) rfl rfl) (fun h22 => ?_) (fun h22 => ?_)
      ·skip
       refine RQ.k XK 107 2 rfl ?_
       (conv=>whnf);refine ⟨rfl,?_⟩
       refine RQ.gv rfl rfl rfl rfl (fun h23 => V.fieldR rfl rfl rfl rfl (by decide) rfl (Nat.le_of_ble_eq_true rfl)) (fun h23 => ?_) (fun h23 => ?_)
       ·skip
        refine RQ.k XK 107 2 rfl ?_
        (conv=>whnf);refine ⟨rfl,?_⟩
        refine RQ.gt rfl rfl rfl rfl (V.dec (m := j) rfl rfl rfl (by have := h23; simp at this; omega) (by omega)) ?_
        refine RQ.gt rfl rfl rfl rfl (V.indexS rfl rfl rfl rfl rfl rfl Item.len (getD_some (l := k.items) (j := j - 1) (z := Item.z) (by omega))) ?_
        refine RQ.k XK 107 7 rfl ?_
        (conv=>whnf);refine ⟨rfl,?_⟩
        refine RQ.nil ?_
        exact ⟨_, by first | rfl | (simp_all; done) | (simp_all; omega) | grind, rfl, Le.of rfl⟩
       ·skip
        refine RQ.k XK 107 11 rfl ?_
        (conv=>whnf);refine ⟨rfl,?_⟩
        refine RQ.nil ?_
        exact ⟨_, by first | rfl | (simp_all; done) | (simp_all; omega) | grind, rfl, Le.of rfl⟩
      ·skip
       refine RQ.k XK 107 14 rfl ?_
       (conv=>whnf);refine ⟨rfl,?_⟩
       refine RQ.nil ?_
       exact ⟨_, by first | rfl | (simp_all; done) | (simp_all; omega) | grind, rfl, Le.of rfl⟩
     ·skip
      refine RQ.k XK 107 20 rfl ?_
      (conv=>whnf);refine ⟨rfl,?_⟩
      refine RQ.nil ?_
      exact ⟨_, by first | rfl | (simp_all; done) | (simp_all; omega) | grind, rfl, Le.of rfl⟩
    ·skip
     refine RQ.k XK 107 26 rfl ?_
     (conv=>whnf);refine ⟨rfl,?_⟩
     refine RQ.nil ?_
     exact ⟨_, by first | rfl | (simp_all; done) | (simp_all; omega) | grind, rfl, Le.of rfl⟩
   ·intro v19 hv24
    refine CW.cond rfl (fun h25 => ?_) (fun h25 => ?_)
    ·skip
     refine CW.k XK 107 1 [2] rfl ?_
     (conv=>whnf);refine ⟨rfl,?_⟩
     refine CW.ret ?_
     exact Post.one (RV.b rfl (by have ht : itemF none k.items = false := (by rw [← hs, hdj, itemF]; first | (simp_all [itemOk, prevO, prevS]; done) | grind [itemOk, prevO, prevS]); simp [keepOk, ht])) (AOs.a rfl AOs.e)
    ·skip
     refine CW.skip ?_
     refine CW.keep 107 [1,57,58,59] rfl ?_;(conv=>whnf);refine ⟨?_⟩
     refine CW.region ?_
     refine RW.v rfl (V.inc rfl rfl rfl hij hl2) ?_
     refine RW.k XK 107 1 rfl ?_
     (conv=>whnf);refine ⟨rfl,?_⟩
     refine RW.nil ?_
     exact ⟨j + 1, by omega, ⟨by omega, by rw [← hs, hdj, itemF, prevO_succ hej]; first | (simp_all [sessOk, itemOk, emp, prevO, prevGe, prevS]; done) | grind [sessOk, itemOk, emp, prevO, prevGe, prevS]⟩, rfl, Le.c rfl <| Le.c rfl <| Le.c rfl <| Le.c rfl <| Le.e⟩
  ·skip
   have hij : k.items.length ≤ j := by have := h17; simp at this; first | exact this | omega | (simp; done) | (simp; omega)
   have hdj : k.items.drop j = [] := List.drop_eq_nil_of_le hij
   refine CW.exit ?_
   refine CW.keep 107 [1] rfl ?_;(conv=>whnf);refine ⟨?_⟩
   refine CW.seqJ 107 (fun (v26 : Bool) => [(2, Bo v26)]) (fun v26 => v26 = (decide ((k.sessions.length : Int) ≤ 3) && decide ((k.items.length : Int) ≤ 8))) ?_ ?_
   ·refine CW.region ?_
    refine RW.k XK 107 5 rfl ?_
    (conv=>whnf);refine ⟨rfl,?_⟩
    refine RW.gv rfl rfl rfl rfl (fun h27 => V.fieldR rfl rfl rfl rfl (by decide) rfl (Nat.le_of_ble_eq_true rfl)) (fun h27 => ?_) (fun h27 => ?_)
    ·skip
     refine RW.k XK 107 5 rfl ?_
     (conv=>whnf);refine ⟨rfl,?_⟩
     refine RW.nil ?_
     exact ⟨_, by first | rfl | (simp_all; done) | (simp_all; omega) | grind, rfl, Le.of rfl⟩
    ·skip
     refine RW.k XK 107 5 rfl ?_
     (conv=>whnf);refine ⟨rfl,?_⟩
     refine RW.nil ?_
     exact ⟨_, by first | rfl | (simp_all; done) | (simp_all; omega) | grind, rfl, Le.of rfl⟩
   ·intro v26 hv28
    refine CW.ret ?_
    exact Post.one (RV.b rfl (by have ht : sessF none k.sessions = true := (by rw [← hr, hdi]; rfl); have hu : itemF none k.items = true := (by rw [← hs, hdj]; rfl); clear hr hs hdi hdj; first | (simp_all [keepOk]; done) | grind [keepOk])) (AOs.a rfl AOs.e)
end Go.Proofs.YtaeagpakloggfaaDoor.Y
