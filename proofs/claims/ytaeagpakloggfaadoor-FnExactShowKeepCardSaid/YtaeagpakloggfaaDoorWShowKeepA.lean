import Derived.Test.YtaeagpakloggfaaDoorPu
import Derived.Test.YtaeagpakloggfaaDoorProg
namespace Go.Proofs.YtaeagpakloggfaaDoor.Y
open Go Go.RowKit Go.Eng Go.Proofs
set_option maxRecDepth 10000
def tl : List (Nat × TyI) := [
(3, ⟨1, 8, [.int .i64 0], .prim⟩),
(4, ⟨1, 1, [.bool false], .prim⟩),
(5, ⟨1, 1, [.int .u8 0], .prim⟩),
(9, ⟨1, 16, [.string ⟨#[]⟩], .prim⟩),
(22, ⟨1, 24, [.slice none 0 0], .slice 101⟩),
(23, ⟨1, 24, [.slice none 0 0], .slice 103⟩),
(25, ⟨2, 48, [.slice none 0 0, .slice none 0 0], .agg [(0, 22, 1), (1, 23, 1)]⟩),
(28, ⟨1, 24, [.slice none 0 0], .slice 48⟩),
(29, ⟨1, 24, [.slice none 0 0], .slice 42⟩),
(31, ⟨2, 48, [.slice none 0 0, .slice none 0 0], .agg [(0, 28, 1), (1, 29, 1)]⟩),
(35, ⟨1, 24, [.slice none 0 0], .slice 5⟩),
(42, ⟨3, 40, [.string ⟨#[]⟩, .string ⟨#[]⟩, .int .i64 0], .agg [(0, 9, 1), (1, 9, 1), (2, 3, 1)]⟩),
(48, ⟨3, 32, [.int .i64 0, .int .i64 0, .string ⟨#[]⟩], .agg [(0, 3, 1), (1, 3, 1), (2, 9, 1)]⟩),
(101, ⟨3, 32, [.int .i64 0, .int .i64 0, .string ⟨#[]⟩], .agg [(0, 3, 1), (1, 3, 1), (2, 9, 1)]⟩),
(103, ⟨3, 40, [.string ⟨#[]⟩, .string ⟨#[]⟩, .int .i64 0], .agg [(0, 9, 1), (1, 9, 1), (2, 3, 1)]⟩)]
theorem tl_ok : ∀ p ∈ tl, tyI Tryd.prog p.1 = some p.2 := by
  refine List.forall_mem_cons.2 ⟨by kernel_rfl, ?_⟩
  refine List.forall_mem_cons.2 ⟨by kernel_rfl, ?_⟩
  refine List.forall_mem_cons.2 ⟨by kernel_rfl, ?_⟩
  refine List.forall_mem_cons.2 ⟨by kernel_rfl, ?_⟩
  refine List.forall_mem_cons.2 ⟨by kernel_rfl, ?_⟩
  refine List.forall_mem_cons.2 ⟨by kernel_rfl, ?_⟩
  refine List.forall_mem_cons.2 ⟨by kernel_rfl, ?_⟩
  refine List.forall_mem_cons.2 ⟨by kernel_rfl, ?_⟩
  refine List.forall_mem_cons.2 ⟨by kernel_rfl, ?_⟩
  refine List.forall_mem_cons.2 ⟨by kernel_rfl, ?_⟩
  refine List.forall_mem_cons.2 ⟨by kernel_rfl, ?_⟩
  refine List.forall_mem_cons.2 ⟨by kernel_rfl, ?_⟩
  refine List.forall_mem_cons.2 ⟨by kernel_rfl, ?_⟩
  refine List.forall_mem_cons.2 ⟨by kernel_rfl, ?_⟩
  refine List.forall_mem_cons.2 ⟨by kernel_rfl, ?_⟩
  exact fun _ h => by cases h
noncomputable def E : Env := ⟨Tryd.prog, lk tl, fun t i h => tl_ok (t, i) (lk_mem _ _ _ h), by kernel_rfl⟩
def kl : List (Nat × TypeDesc) := [(3, .int .i64), (4, .bool), (5, .int .u8), (9, .string)]
theorem kl_ok : ∀ p ∈ kl, Tryd.prog.underlying p.1 = some p.2 := by
  refine List.forall_mem_cons.2 ⟨by kernel_rfl, ?_⟩
  refine List.forall_mem_cons.2 ⟨by kernel_rfl, ?_⟩
  refine List.forall_mem_cons.2 ⟨by kernel_rfl, ?_⟩
  refine List.forall_mem_cons.2 ⟨by kernel_rfl, ?_⟩
  exact fun _ h => by cases h
noncomputable def XK : Kd E.P := ⟨lk kl, fun t d h => kl_ok (t, d) (lk_mem _ _ _ h)⟩
set_option maxHeartbeats 4000000 in
theorem laws_szSession_fn (a : Session) (left : Int) : Eng.Fn E.P 69 [.agg ((Session.c a).map .r), .one (.r (.v (.int .i64 left)))] (.one (.one (.w (.v (.int .i64 (szSession a left)))))) [.agg ((Session.c a).map .r), .one (.r (.v (.int .i64 left)))] := by
 refine Eng.Fn.intro (E := E) (rvs := [.tmp 4]) Tryd.func69 rfl rfl rfl (by simp [outSlots, moved, rvSlot, sl]) ?_
 intro B g bo
 refine CW.keep 13 [0,1] rfl ?_;(conv=>whnf);refine ⟨?_⟩
 refine CW.seq ?_
 refine CW.region ?_
 refine RW.k XK 13 1 rfl ?_
 (conv=>whnf);intro b1;(conv=>whnf);refine ⟨rfl,?_⟩
 refine RW.freezeB (ts := (Session.c a)) 2 rfl (DRd.r (DRd.r (DRd.r DRd.e))) ?_
 refine RW.k XK 13 1 rfl ?_
 (conv=>whnf);refine ⟨rfl,?_⟩
 refine RW.nil ?_
 refine CW.keep 13 [1,2] rfl ?_;(conv=>whnf);refine ⟨?_⟩
 refine CW.k XK 13 1 [1] rfl ?_
 (conv=>whnf);refine ⟨rfl,?_⟩
 refine CW.seq ?_
 refine CW.k XK 13 1 [1,11] rfl ?_
 (conv=>whnf);refine ⟨rfl,?_⟩
 refine CW.cond rfl (fun h2 => ?_) (fun h2 => ?_)
 ·skip
  refine CW.k XK 13 1 [4] rfl ?_
  (conv=>whnf);refine ⟨rfl,?_⟩
  refine CW.ret ?_
  exact Post.one (RV.i rfl (by first | (simp_all [szSession]; done) | (simp_all [szSession]; omega) | grind [szSession])) (AOs.a rfl (AOs.r AOs.e))
 ·skip
  refine CW.skip ?_
  refine CW.keep 13 [1] rfl ?_;(conv=>whnf);refine ⟨?_⟩
  refine CW.k XK 13 1 [4] rfl ?_
  (conv=>whnf);refine ⟨rfl,?_⟩
  refine CW.ret ?_
  exact Post.one (RV.i rfl (by first | (simp_all [szSession]; done) | (simp_all [szSession]; omega) | grind [szSession])) (AOs.a rfl (AOs.r AOs.e))
set_option maxHeartbeats 4000000 in
theorem laws_szSessionS_fn (a : List Session) (left : Int) : Eng.Fn E.P 34 [.one (.r (sl 3 Session.c a)), .one (.r (.v (.int .i64 left)))] (.one (.one (.w (.v (.int .i64 (szS szSession a left)))))) [.one (.r (sl 3 Session.c a)), .one (.r (.v (.int .i64 left)))] := by
 refine Eng.Fn.intro (E := E) (rvs := [.tmp 4]) Tryd.func34 rfl rfl rfl (by simp [outSlots, moved, rvSlot, sl]) ?_
 intro B g bo
 refine CW.bound (x := .tmp 0) (n := a.length) (AsT.r) (fun hl0 => ?_)
 refine CW.keep 27 [0,1] rfl ?_;(conv=>whnf);refine ⟨?_⟩
 refine CW.k XK 27 2 [0,1] rfl ?_
 (conv=>whnf);refine ⟨rfl,?_⟩
 refine CW.seq ?_
 refine CW.k XK 27 1 [0,1,11] rfl ?_
 (conv=>whnf);refine ⟨rfl,?_⟩
 refine CW.cond rfl (fun h1 => ?_) (fun h1 => ?_)
 ·skip
  refine CW.k XK 27 1 [4] rfl ?_
  (conv=>whnf);refine ⟨rfl,?_⟩
  refine CW.ret ?_
  exact Post.one (RV.i rfl (by first | (simp_all [szS, szL, szStr, szI]; done) | grind [szS, szL, szStr, szI])) (AOs.r (AOs.r AOs.e))
 ·skip
  refine CW.skip ?_
  refine CW.keep 27 [0,1] rfl ?_;(conv=>whnf);refine ⟨?_⟩
  refine CW.seq ?_
  refine CW.k XK 27 1 [0,1,5] rfl ?_
  (conv=>whnf);refine ⟨rfl,?_⟩
  refine CW.block ?_
  refine CW.loopI 27 (fun (zz : Nat × Int) => match zz with | (i, l) => [(0, .r (sl 3 Session.c a)), (1, I l), (5, I (i : Int))]) (fun (zz : Nat × Int) => match zz with | (i, l) => i ≤ a.length ∧ szL szSession (a.drop i) l = szS szSession a left) (fun (zz : Nat × Int) => match zz with | (i, l) => a.length - i) (0, _) rfl (Le.c rfl <| Le.c rfl <| Le.c rfl <| Le.e) ⟨by omega, by first | (simp_all [szS]; done) | grind [szS]⟩ ?_
  rintro ⟨i, l⟩ ⟨hb, hr⟩
  refine CW.seq ?_
  refine CW.k XK 27 1 [0,1,5,15] rfl ?_
  (conv=>whnf);refine ⟨rfl,?_⟩
  refine CW.cond rfl (fun h2 => ?_) (fun h2 => ?_)
  ·skip
   have hii : i < a.length := by have := h2; simp at this; first | exact this | omega | (simp; done) | (simp; omega)
   obtain ⟨ei, hei⟩ : ∃ e, a[i]? = some e := ⟨_, List.getElem?_eq_getElem hii⟩
   have hdi := drop_get hei
   refine CW.skip ?_
   refine CW.keep 27 [0,1,5] rfl ?_;(conv=>whnf);refine ⟨?_⟩
   refine CW.seq ?_
   refine CW.block ?_
   refine CW.seq ?_
   refine CW.region ?_
   refine RW.k XK 27 2 rfl ?_
   (conv=>whnf);refine ⟨rfl,?_⟩
   refine RW.v rfl (V.indexS rfl rfl rfl rfl rfl rfl Session.len hei) ?_
   refine RW.k XK 27 2 rfl ?_
   (conv=>whnf);refine ⟨rfl,?_⟩
   refine RW.call rfl (laws_szSession_fn ei l) rfl (.cons (.agg (.cons (.r .r) (.cons (.r .r) (.cons (.r .r) (.nil))))) (.cons (.one (.r .r)) (.nil))) fun g3 => ?_
   refine RW.k XK 27 1 rfl ?_
   (conv=>whnf);refine ⟨rfl,?_⟩
   refine RW.nil ?_
   refine CW.keep 27 [0,1,5] rfl ?_;(conv=>whnf);refine ⟨?_⟩
   refine CW.k XK 27 1 [0,1,5,25] rfl ?_
   (conv=>whnf);refine ⟨rfl,?_⟩
   refine CW.cond rfl (fun h4 => ?_) (fun h4 => ?_)
   ·skip
    refine CW.k XK 27 1 [4] rfl ?_
    (conv=>whnf);refine ⟨rfl,?_⟩
    refine CW.ret ?_
    exact Post.one (RV.i rfl (by first | (simp_all [szS, szL, szStr, szI]; done) | grind [szS, szL, szStr, szI])) (AOs.r (AOs.r AOs.e))
   ·skip
    refine CW.skip ?_
    refine CW.keep 27 [0,1,5] rfl ?_;(conv=>whnf);refine ⟨?_⟩
    refine CW.region ?_
    refine RW.k XK 27 1 rfl ?_
    (conv=>whnf);refine ⟨rfl,?_⟩
    refine RW.v rfl (V.inc rfl rfl rfl hii hl0) ?_
    refine RW.k XK 27 1 rfl ?_
    (conv=>whnf);refine ⟨rfl,?_⟩
    refine RW.nil ?_
    exact ⟨(i + 1, _), by simp only []; omega, ⟨by omega, by first | (simp_all [szL, szStr, szI]; done) | grind [szL, szStr, szI]⟩, rfl, Le.c rfl <| Le.c rfl <| Le.c rfl <| Le.e⟩
  ·skip
   have hii : a.length ≤ i := by have := h2; simp at this; first | exact this | omega | (simp; done) | (simp; omega)
   have hdi : a.drop i = [] := List.drop_eq_nil_of_le hii
   refine CW.exit ?_
   refine CW.keep 27 [1] rfl ?_;(conv=>whnf);refine ⟨?_⟩
   refine CW.k XK 27 1 [4] rfl ?_
   (conv=>whnf);refine ⟨rfl,?_⟩
   refine CW.ret ?_
   exact Post.one (RV.i rfl (by first | (simp_all [szS, szL, szStr, szI]; done) | grind [szS, szL, szStr, szI])) (AOs.r (AOs.r AOs.e))
set_option maxHeartbeats 4000000 in
theorem laws_szItem_fn (a : Item) (left : Int) : Eng.Fn E.P 70 [.agg ((Item.c a).map .r), .one (.r (.v (.int .i64 left)))] (.one (.one (.w (.v (.int .i64 (szItem a left)))))) [.agg ((Item.c a).map .r), .one (.r (.v (.int .i64 left)))] := by
 refine Eng.Fn.intro (E := E) (rvs := [.tmp 4]) Tryd.func70 rfl rfl rfl (by simp [outSlots, moved, rvSlot, sl]) ?_
 intro B g bo
 refine CW.keep 20 [0,1] rfl ?_;(conv=>whnf);refine ⟨?_⟩
 refine CW.seq ?_
 refine CW.region ?_
 refine RW.k XK 20 1 rfl ?_
 (conv=>whnf);intro b1;(conv=>whnf);refine ⟨rfl,?_⟩
 refine RW.freezeB (ts := (Item.c a)) 2 rfl (DRd.r (DRd.r (DRd.r DRd.e))) ?_
 refine RW.k XK 20 1 rfl ?_
 (conv=>whnf);refine ⟨rfl,?_⟩
 refine RW.nil ?_
 refine CW.keep 20 [1,2] rfl ?_;(conv=>whnf);refine ⟨?_⟩
 refine CW.k XK 20 1 [1,2] rfl ?_
 (conv=>whnf);refine ⟨rfl,?_⟩
 refine CW.seq ?_
 refine CW.k XK 20 1 [1,2,11] rfl ?_
 (conv=>whnf);refine ⟨rfl,?_⟩
 refine CW.cond rfl (fun h2 => ?_) (fun h2 => ?_)
 ·skip
  refine CW.k XK 20 1 [4] rfl ?_
  (conv=>whnf);refine ⟨rfl,?_⟩
  refine CW.ret ?_
  exact Post.one (RV.i rfl (by first | (simp_all [szItem]; done) | (simp_all [szItem]; omega) | grind [szItem])) (AOs.a rfl (AOs.r AOs.e))
 ·skip
  refine CW.skip ?_
  refine CW.keep 20 [1,2] rfl ?_;(conv=>whnf);refine ⟨?_⟩
  refine CW.k XK 20 1 [1] rfl ?_
  (conv=>whnf);refine ⟨rfl,?_⟩
  refine CW.seq ?_
  refine CW.k XK 20 1 [1,18] rfl ?_
  (conv=>whnf);refine ⟨rfl,?_⟩
  refine CW.cond rfl (fun h3 => ?_) (fun h3 => ?_)
  ·skip
   refine CW.k XK 20 1 [4] rfl ?_
   (conv=>whnf);refine ⟨rfl,?_⟩
   refine CW.ret ?_
   exact Post.one (RV.i rfl (by first | (simp_all [szItem]; done) | (simp_all [szItem]; omega) | grind [szItem])) (AOs.a rfl (AOs.r AOs.e))
  ·skip
   refine CW.skip ?_
   refine CW.keep 20 [1] rfl ?_;(conv=>whnf);refine ⟨?_⟩
   refine CW.k XK 20 1 [4] rfl ?_
   (conv=>whnf);refine ⟨rfl,?_⟩
   refine CW.ret ?_
   exact Post.one (RV.i rfl (by first | (simp_all [szItem]; done) | (simp_all [szItem]; omega) | grind [szItem])) (AOs.a rfl (AOs.r AOs.e))
set_option maxHeartbeats 4000000 in
theorem laws_szItemS_fn (a : List Item) (left : Int) : Eng.Fn E.P 35 [.one (.r (sl 3 Item.c a)), .one (.r (.v (.int .i64 left)))] (.one (.one (.w (.v (.int .i64 (szS szItem a left)))))) [.one (.r (sl 3 Item.c a)), .one (.r (.v (.int .i64 left)))] := by
 refine Eng.Fn.intro (E := E) (rvs := [.tmp 4]) Tryd.func35 rfl rfl rfl (by simp [outSlots, moved, rvSlot, sl]) ?_
 intro B g bo
 refine CW.bound (x := .tmp 0) (n := a.length) (AsT.r) (fun hl0 => ?_)
 refine CW.keep 27 [0,1] rfl ?_;(conv=>whnf);refine ⟨?_⟩
 refine CW.k XK 27 2 [0,1] rfl ?_
 (conv=>whnf);refine ⟨rfl,?_⟩
 refine CW.seq ?_
 refine CW.k XK 27 1 [0,1,11] rfl ?_
 (conv=>whnf);refine ⟨rfl,?_⟩
 refine CW.cond rfl (fun h1 => ?_) (fun h1 => ?_)
 ·skip
  refine CW.k XK 27 1 [4] rfl ?_
  (conv=>whnf);refine ⟨rfl,?_⟩
  refine CW.ret ?_
  exact Post.one (RV.i rfl (by first | (simp_all [szS, szL, szStr, szI]; done) | grind [szS, szL, szStr, szI])) (AOs.r (AOs.r AOs.e))
 ·skip
  refine CW.skip ?_
  refine CW.keep 27 [0,1] rfl ?_;(conv=>whnf);refine ⟨?_⟩
  refine CW.seq ?_
  refine CW.k XK 27 1 [0,1,5] rfl ?_
  (conv=>whnf);refine ⟨rfl,?_⟩
  refine CW.block ?_
  refine CW.loopI 27 (fun (zz : Nat × Int) => match zz with | (i, l) => [(0, .r (sl 3 Item.c a)), (1, I l), (5, I (i : Int))]) (fun (zz : Nat × Int) => match zz with | (i, l) => i ≤ a.length ∧ szL szItem (a.drop i) l = szS szItem a left) (fun (zz : Nat × Int) => match zz with | (i, l) => a.length - i) (0, _) rfl (Le.c rfl <| Le.c rfl <| Le.c rfl <| Le.e) ⟨by omega, by first | (simp_all [szS]; done) | grind [szS]⟩ ?_
  rintro ⟨i, l⟩ ⟨hb, hr⟩
  refine CW.seq ?_
  refine CW.k XK 27 1 [0,1,5,15] rfl ?_
  (conv=>whnf);refine ⟨rfl,?_⟩
  refine CW.cond rfl (fun h2 => ?_) (fun h2 => ?_)
  ·skip
   have hii : i < a.length := by have := h2; simp at this; first | exact this | omega | (simp; done) | (simp; omega)
   obtain ⟨ei, hei⟩ : ∃ e, a[i]? = some e := ⟨_, List.getElem?_eq_getElem hii⟩
   have hdi := drop_get hei
   refine CW.skip ?_
   refine CW.keep 27 [0,1,5] rfl ?_;(conv=>whnf);refine ⟨?_⟩
   refine CW.seq ?_
   refine CW.block ?_
   refine CW.seq ?_
   refine CW.region ?_
   refine RW.k XK 27 2 rfl ?_
   (conv=>whnf);refine ⟨rfl,?_⟩
   refine RW.v rfl (V.indexS rfl rfl rfl rfl rfl rfl Item.len hei) ?_
   refine RW.k XK 27 2 rfl ?_
   (conv=>whnf);refine ⟨rfl,?_⟩
   refine RW.call rfl (laws_szItem_fn ei l) rfl (.cons (.agg (.cons (.r .r) (.cons (.r .r) (.cons (.r .r) (.nil))))) (.cons (.one (.r .r)) (.nil))) fun g3 => ?_
   refine RW.k XK 27 1 rfl ?_
   (conv=>whnf);refine ⟨rfl,?_⟩
   refine RW.nil ?_
   refine CW.keep 27 [0,1,5] rfl ?_;(conv=>whnf);refine ⟨?_⟩
   refine CW.k XK 27 1 [0,1,5,25] rfl ?_
   (conv=>whnf);refine ⟨rfl,?_⟩
   refine CW.cond rfl (fun h4 => ?_) (fun h4 => ?_)
   ·skip
    refine CW.k XK 27 1 [4] rfl ?_
    (conv=>whnf);refine ⟨rfl,?_⟩
    refine CW.ret ?_
    exact Post.one (RV.i rfl (by first | (simp_all [szS, szL, szStr, szI]; done) | grind [szS, szL, szStr, szI])) (AOs.r (AOs.r AOs.e))
   ·skip
    refine CW.skip ?_
    refine CW.keep 27 [0,1,5] rfl ?_;(conv=>whnf);refine ⟨?_⟩
    refine CW.region ?_
    refine RW.k XK 27 1 rfl ?_
    (conv=>whnf);refine ⟨rfl,?_⟩
    refine RW.v rfl (V.inc rfl rfl rfl hii hl0) ?_
    refine RW.k XK 27 1 rfl ?_
    (conv=>whnf);refine ⟨rfl,?_⟩
    refine RW.nil ?_
    exact ⟨(i + 1, _), by simp only []; omega, ⟨by omega, by first | (simp_all [szL, szStr, szI]; done) | grind [szL, szStr, szI]⟩, rfl, Le.c rfl <| Le.c rfl <| Le.c rfl <| Le.e⟩
  ·skip
   have hii : a.length ≤ i := by have := h2; simp at this; first | exact this | omega | (simp; done) | (simp; omega)
   have hdi : a.drop i = [] := List.drop_eq_nil_of_le hii
   refine CW.exit ?_
   refine CW.keep 27 [1] rfl ?_;(conv=>whnf);refine ⟨?_⟩
   refine CW.k XK 27 1 [4] rfl ?_
   (conv=>whnf);refine ⟨rfl,?_⟩
   refine CW.ret ?_
   exact Post.one (RV.i rfl (by first | (simp_all [szS, szL, szStr, szI]; done) | grind [szS, szL, szStr, szI])) (AOs.r (AOs.r AOs.e))
set_option maxHeartbeats 4000000 in
theorem laws_szKeep_fn (a : Keep) (left : Int) : Eng.Fn E.P 9 [.agg ((Keep.c a).map .r), .one (.r (.v (.int .i64 left)))] (.one (.one (.w (.v (.int .i64 (szKeep a left)))))) [.agg ((Keep.c a).map .r), .one (.r (.v (.int .i64 left)))] := by
 refine Eng.Fn.intro (E := E) (rvs := [.tmp 4]) Tryd.func9 rfl rfl rfl (by simp [outSlots, moved, rvSlot, sl]) ?_
 intro B g bo
 refine CW.keep 18 [0,1] rfl ?_;(conv=>whnf);refine ⟨?_⟩
 refine CW.seq ?_
 refine CW.region ?_
 refine RW.k XK 18 1 rfl ?_
 (conv=>whnf);intro b1;(conv=>whnf);refine ⟨rfl,?_⟩
 refine RW.freezeB (ts := (Keep.c a)) 2 rfl (DRd.r (DRd.r DRd.e)) ?_
 refine RW.k XK 18 1 rfl ?_
 (conv=>whnf);refine ⟨rfl,?_⟩
 refine RW.nil ?_
 refine CW.keep 18 [1,2] rfl ?_;(conv=>whnf);refine ⟨?_⟩
 refine CW.seq ?_
 refine CW.region ?_
 refine RW.k XK 18 3 rfl ?_
 (conv=>whnf);refine ⟨rfl,?_⟩
 refine RW.call rfl (laws_szSessionS_fn a.sessions left) rfl (.cons (.one (.r .r)) (.cons (.one (.r .r)) (.nil))) fun g2 => ?_
 refine RW.k XK 18 1 rfl ?_
 (conv=>whnf);refine ⟨rfl,?_⟩
 refine RW.nil ?_
 refine CW.keep 18 [1,2] rfl ?_;(conv=>whnf);refine ⟨?_⟩
 refine CW.seq ?_
 refine CW.k XK 18 1 [1,2,10] rfl ?_
 (conv=>whnf);refine ⟨rfl,?_⟩
 refine CW.cond rfl (fun h3 => ?_) (fun h3 => ?_)
 ·skip
  refine CW.k XK 18 1 [4] rfl ?_
  (conv=>whnf);refine ⟨rfl,?_⟩
  refine CW.ret ?_
  exact Post.one (RV.i rfl (by first | (simp_all [szKeep]; done) | (simp_all [szKeep]; omega) | grind [szKeep])) (AOs.a rfl (AOs.r AOs.e))
 ·skip
  refine CW.skip ?_
  refine CW.keep 18 [1,2] rfl ?_;(conv=>whnf);refine ⟨?_⟩
  refine CW.seq ?_
  refine CW.region ?_
  refine RW.k XK 18 3 rfl ?_
  (conv=>whnf);refine ⟨rfl,?_⟩
  refine RW.call rfl (laws_szItemS_fn a.items (szS szSession a.sessions left)) rfl (.cons (.one (.r .r)) (.cons (.one (.r .r)) (.nil))) fun g4 => ?_
  refine RW.k XK 18 1 rfl ?_
  (conv=>whnf);refine ⟨rfl,?_⟩
  refine RW.nil ?_
  refine CW.keep 18 [1] rfl ?_;(conv=>whnf);refine ⟨?_⟩
  refine CW.seq ?_
  refine CW.k XK 18 1 [1,16] rfl ?_
  (conv=>whnf);refine ⟨rfl,?_⟩
  refine CW.cond rfl (fun h5 => ?_) (fun h5 => ?_)
  ·skip
   refine CW.k XK 18 1 [4] rfl ?_
   (conv=>whnf);refine ⟨rfl,?_⟩
   refine CW.ret ?_
   exact Post.one (RV.i rfl (by first | (simp_all [szKeep]; done) | (simp_all [szKeep]; omega) | grind [szKeep])) (AOs.a rfl (AOs.r AOs.e))
  ·skip
   refine CW.skip ?_
   refine CW.keep 18 [1] rfl ?_;(conv=>whnf);refine ⟨?_⟩
   refine CW.k XK 18 1 [4] rfl ?_
   (conv=>whnf);refine ⟨rfl,?_⟩
   refine CW.ret ?_
   exact Post.one (RV.i rfl (by first | (simp_all [szKeep]; done) | (simp_all [szKeep]; omega) | grind [szKeep])) (AOs.a rfl (AOs.r AOs.e))
set_option maxHeartbeats 4000000 in
theorem laws_toSession_fn (a : Session) (hs : okToSession a) : Eng.Fn E.P 73 [.agg ((Session.c a).map .r)] (.one (.agg ((Session.c a).map .w))) [.agg ((Session.c a).map .r)] := by
 refine Eng.Fn.intro (E := E) (rvs := [.cell 2 48]) Tryd.func73 rfl rfl rfl (by simp [outSlots, moved, rvSlot, sl]) ?_
 intro B g bo
 refine CW.keep 14 [0] rfl ?_;(conv=>whnf);refine ⟨?_⟩
 refine CW.seq ?_
 refine CW.region ?_
 refine RW.k XK 14 1 rfl ?_
 (conv=>whnf);intro b1;(conv=>whnf);refine ⟨rfl,?_⟩
 refine RW.freezeB (ts := (Session.c a)) 1 rfl (DRd.r (DRd.r (DRd.r DRd.e))) ?_
 refine RW.k XK 14 1 rfl ?_
 (conv=>whnf);intro b2;(conv=>whnf);refine ⟨rfl,?_⟩
 refine RW.nil ?_
 refine CW.keep 14 [1,2] rfl ?_;(conv=>whnf);refine ⟨?_⟩
 refine CW.k XK 14 5 [2] rfl ?_
 (conv=>whnf);intro b3;(conv=>whnf);refine ⟨rfl,?_⟩
 refine CW.ret ?_
 exact Post.one (RV.c (f := fun e => (Session.c e).map .w) (e' := a) rfl rfl rfl rfl (DT.v (DT.v (DT.v DT.e))) (by simp_all)) (AOs.a rfl AOs.e)
set_option maxHeartbeats 4000000 in
theorem laws_toSessionS_fn (a : List Session) (hm : a.length ≤ 1048576) (hs : ∀ x ∈ a, okToSession x) : Eng.Fn E.P 38 [.one (.r (sl 3 Session.c a))] (.one (.one (.w (sl 3 Session.c a)))) [.one (.r (sl 3 Session.c a))] := by
 refine Eng.Fn.intro (E := E) (rvs := [.tmp 2]) Tryd.func38 rfl rfl rfl (by simp [outSlots, moved, rvSlot, sl]) ?_
 intro B g bo
 refine CW.bound (x := .tmp 0) (n := a.length) (AsT.r) (fun hl0 => ?_)
 refine CW.keep 23 [0] rfl ?_;(conv=>whnf);refine ⟨?_⟩
 refine CW.k XK 23 1 [0] rfl ?_
 (conv=>whnf);refine ⟨rfl,?_⟩
 refine CW.seq ?_
 refine CW.region ?_
 refine RW.k XK 23 2 rfl ?_
 (conv=>whnf);refine ⟨rfl,?_⟩
 refine RW.makeS (n := a.length) (c := Session.c) Session.z rfl rfl rfl rfl rfl rfl rfl rfl (ZT.v (ZT.v (ZT.v ZT.e))) (by show 32 * a.length ≤ 281474976710656; omega) (by simp only [maxLen]; omega) fun X1 => ?_
 refine RW.assignMove rfl rfl rfl (by decide) (Nat.le_of_ble_eq_true rfl) (Nat.le_of_ble_eq_true rfl) ?_
 refine RW.nil ?_
 refine CW.keep 23 [0,3] rfl ?_;(conv=>whnf);refine ⟨?_⟩
 refine CW.seq ?_
 refine CW.k XK 23 1 [0,3,4] rfl ?_
 (conv=>whnf);refine ⟨rfl,?_⟩
 refine CW.block ?_
 refine CW.loopI 23 (fun (i : Nat) => [(0, .r (sl 3 Session.c a)), (3, .w (sl 3 Session.c (a.take i ++ List.replicate (a.length - i) Session.z)) X1), (4, I (i : Int))]) (fun (i : Nat) => i ≤ a.length) (fun (i : Nat) => a.length - i) 0 rfl (Le.c rfl <| Le.c rfl <| Le.c rfl <| Le.e) (by omega) ?_
 rintro i hb
 refine CW.seq ?_
 refine CW.k XK 23 1 [0,3,4,11] rfl ?_
 (conv=>whnf);refine ⟨rfl,?_⟩
 refine CW.cond rfl (fun h2 => ?_) (fun h2 => ?_)
 ·skip
  have hii : i < a.length := by have := h2; simp at this; first | exact this | omega | (simp; done) | (simp; omega)
  obtain ⟨ei, hei⟩ : ∃ e, a[i]? = some e := ⟨_, List.getElem?_eq_getElem hii⟩
  have hdi := drop_get hei
  refine CW.skip ?_
  refine CW.keep 23 [0,3,4] rfl ?_;(conv=>whnf);refine ⟨?_⟩
  refine CW.seq ?_
  refine CW.block ?_
  refine CW.region ?_
  refine RW.k XK 23 4 rfl ?_
  (conv=>whnf);refine ⟨rfl,?_⟩
  refine RW.v rfl (V.indexS rfl rfl rfl rfl rfl rfl Session.len hei) ?_
  refine RW.k XK 23 1 rfl ?_
  (conv=>whnf);refine ⟨rfl,?_⟩
  refine RW.call rfl (laws_toSession_fn ei (hs ei (List.mem_of_getElem? hei))) rfl (.cons (.agg (.cons (.r .r) (.cons (.r .r) (.cons (.r .r) (.nil))))) (.nil)) fun g3 => ?_
  refine RW.v rfl (V.indexW rfl rfl rfl rfl rfl rfl rfl (by simp; omega)) ?_
  refine RW.storeS (v := ei) rfl rfl rfl rfl rfl rfl rfl (DW.v (DW.v (DW.v DW.e))) Session.len (by decide) (by simp; omega) rfl ?_
  refine RW.nil ?_
  refine CW.keep 23 [0,3,4] rfl ?_;(conv=>whnf);refine ⟨?_⟩
  refine CW.region ?_
  refine RW.k XK 23 1 rfl ?_
  (conv=>whnf);refine ⟨rfl,?_⟩
  refine RW.v rfl (V.inc rfl rfl rfl hii hl0) ?_
  refine RW.k XK 23 1 rfl ?_
  (conv=>whnf);refine ⟨rfl,?_⟩
  refine RW.nil ?_
  exact ⟨i + 1, by omega, by omega, rfl, Le.c rfl <| Le.c (congrArg (fun l => D.w (sl _ Session.c l) X1) (take_set hei)) <| Le.c rfl <| Le.e⟩
 ·skip
  have hii : a.length ≤ i := by have := h2; simp at this; first | exact this | omega | (simp; done) | (simp; omega)
  have hdi : a.drop i = [] := List.drop_eq_nil_of_le hii
  refine CW.exit ?_
  refine CW.keep 23 [3] rfl ?_;(conv=>whnf);refine ⟨?_⟩
  refine CW.seq ?_
  refine CW.region ?_
  refine RW.k XK 23 2 rfl ?_
  (conv=>whnf);refine ⟨rfl,?_⟩
  refine RW.pullS 2 3 (by decide) rfl rfl ?_
  refine RW.nil ?_
  refine CW.keep 23 [2] rfl ?_;(conv=>whnf);refine ⟨?_⟩
  refine CW.ret ?_
  exact Post.one (RV.w rfl (by rw [List.take_of_length_le hii, show a.length - i = 0 from by omega]; simp)) (AOs.r AOs.e)
set_option maxHeartbeats 4000000 in
theorem laws_toItem_fn (a : Item) (hs : okToItem a) : Eng.Fn E.P 74 [.agg ((Item.c a).map .r)] (.one (.agg ((Item.c a).map .w))) [.agg ((Item.c a).map .r)] := by
 refine Eng.Fn.intro (E := E) (rvs := [.cell 2 42]) Tryd.func74 rfl rfl rfl (by simp [outSlots, moved, rvSlot, sl]) ?_
 intro B g bo
 refine CW.keep 14 [0] rfl ?_;(conv=>whnf);refine ⟨?_⟩
 refine CW.seq ?_
 refine CW.region ?_
 refine RW.k XK 14 1 rfl ?_
 (conv=>whnf);intro b1;(conv=>whnf);refine ⟨rfl,?_⟩
 refine RW.freezeB (ts := (Item.c a)) 1 rfl (DRd.r (DRd.r (DRd.r DRd.e))) ?_
 refine RW.k XK 14 1 rfl ?_
 (conv=>whnf);intro b2;(conv=>whnf);refine ⟨rfl,?_⟩
 refine RW.nil ?_
 refine CW.keep 14 [1,2] rfl ?_;(conv=>whnf);refine ⟨?_⟩
 refine CW.k XK 14 5 [2] rfl ?_
 (conv=>whnf);intro b3;(conv=>whnf);refine ⟨rfl,?_⟩
 refine CW.ret ?_
 exact Post.one (RV.c (f := fun e => (Item.c e).map .w) (e' := a) rfl rfl rfl rfl (DT.v (DT.v (DT.v DT.e))) (by simp_all)) (AOs.a rfl AOs.e)
set_option maxHeartbeats 4000000 in
theorem laws_toItemS_fn (a : List Item) (hm : a.length ≤ 1048576) (hs : ∀ x ∈ a, okToItem x) : Eng.Fn E.P 39 [.one (.r (sl 3 Item.c a))] (.one (.one (.w (sl 3 Item.c a)))) [.one (.r (sl 3 Item.c a))] := by
 refine Eng.Fn.intro (E := E) (rvs := [.tmp 2]) Tryd.func39 rfl rfl rfl (by simp [outSlots, moved, rvSlot, sl]) ?_
 intro B g bo
 refine CW.bound (x := .tmp 0) (n := a.length) (AsT.r) (fun hl0 => ?_)
 refine CW.keep 23 [0] rfl ?_;(conv=>whnf);refine ⟨?_⟩
 refine CW.k XK 23 1 [0] rfl ?_
 (conv=>whnf);refine ⟨rfl,?_⟩
 refine CW.seq ?_
 refine CW.region ?_
 refine RW.k XK 23 2 rfl ?_
 (conv=>whnf);refine ⟨rfl,?_⟩
 refine RW.makeS (n := a.length) (c := Item.c) Item.z rfl rfl rfl rfl rfl rfl rfl rfl (ZT.v (ZT.v (ZT.v ZT.e))) (by show 40 * a.length ≤ 281474976710656; omega) (by simp only [maxLen]; omega) fun X1 => ?_
 refine RW.assignMove rfl rfl rfl (by decide) (Nat.le_of_ble_eq_true rfl) (Nat.le_of_ble_eq_true rfl) ?_
 refine RW.nil ?_
 refine CW.keep 23 [0,3] rfl ?_;(conv=>whnf);refine ⟨?_⟩
 refine CW.seq ?_
 refine CW.k XK 23 1 [0,3,4] rfl ?_
 (conv=>whnf);refine ⟨rfl,?_⟩
 refine CW.block ?_
 refine CW.loopI 23 (fun (i : Nat) => [(0, .r (sl 3 Item.c a)), (3, .w (sl 3 Item.c (a.take i ++ List.replicate (a.length - i) Item.z)) X1), (4, I (i : Int))]) (fun (i : Nat) => i ≤ a.length) (fun (i : Nat) => a.length - i) 0 rfl (Le.c rfl <| Le.c rfl <| Le.c rfl <| Le.e) (by omega) ?_
 rintro i hb
 refine CW.seq ?_
 refine CW.k XK 23 1 [0,3,4,11] rfl ?_
 (conv=>whnf);refine ⟨rfl,?_⟩
 refine CW.cond rfl (fun h2 => ?_) (fun h2 => ?_)
 ·skip
  have hii : i < a.length := by have := h2; simp at this; first | exact this | omega | (simp; done) | (simp; omega)
  obtain ⟨ei, hei⟩ : ∃ e, a[i]? = some e := ⟨_, List.getElem?_eq_getElem hii⟩
  have hdi := drop_get hei
  refine CW.skip ?_
  refine CW.keep 23 [0,3,4] rfl ?_;(conv=>whnf);refine ⟨?_⟩
  refine CW.seq ?_
  refine CW.block ?_
  refine CW.region ?_
  refine RW.k XK 23 4 rfl ?_
  (conv=>whnf);refine ⟨rfl,?_⟩
  refine RW.v rfl (V.indexS rfl rfl rfl rfl rfl rfl Item.len hei) ?_
  refine RW.k XK 23 1 rfl ?_
  (conv=>whnf);refine ⟨rfl,?_⟩
  refine RW.call rfl (laws_toItem_fn ei (hs ei (List.mem_of_getElem? hei))) rfl (.cons (.agg (.cons (.r .r) (.cons (.r .r) (.cons (.r .r) (.nil))))) (.nil)) fun g3 => ?_
  refine RW.v rfl (V.indexW rfl rfl rfl rfl rfl rfl rfl (by simp; omega)) ?_
  refine RW.storeS (v := ei) rfl rfl rfl rfl rfl rfl rfl (DW.v (DW.v (DW.v DW.e))) Item.len (by decide) (by simp; omega) rfl ?_
  refine RW.nil ?_
  refine CW.keep 23 [0,3,4] rfl ?_;(conv=>whnf);refine ⟨?_⟩
  refine CW.region ?_
  refine RW.k XK 23 1 rfl ?_
  (conv=>whnf);refine ⟨rfl,?_⟩
  refine RW.v rfl (V.inc rfl rfl rfl hii hl0) ?_
  refine RW.k XK 23 1 rfl ?_
  (conv=>whnf);refine ⟨rfl,?_⟩
  refine RW.nil ?_
  exact ⟨i + 1, by omega, by omega, rfl, Le.c rfl <| Le.c (congrArg (fun l => D.w (sl _ Item.c l) X1) (take_set hei)) <| Le.c rfl <| Le.e⟩
 ·skip
  have hii : a.length ≤ i := by have := h2; simp at this; first | exact this | omega | (simp; done) | (simp; omega)
  have hdi : a.drop i = [] := List.drop_eq_nil_of_le hii
  refine CW.exit ?_
  refine CW.keep 23 [3] rfl ?_;(conv=>whnf);refine ⟨?_⟩
  refine CW.seq ?_
  refine CW.region ?_
  refine RW.k XK 23 2 rfl ?_
  (conv=>whnf);refine ⟨rfl,?_⟩
  refine RW.pullS 2 3 (by decide) rfl rfl ?_
  refine RW.nil ?_
  refine CW.keep 23 [2] rfl ?_;(conv=>whnf);refine ⟨?_⟩
  refine CW.ret ?_
  exact Post.one (RV.w rfl (by rw [List.take_of_length_le hii, show a.length - i = 0 from by omega]; simp)) (AOs.r AOs.e)
set_option maxHeartbeats 4000000 in
theorem laws_toKeep_fn (a : Keep) (hs : okToKeep a) : Eng.Fn E.P 11 [.agg ((Keep.c a).map .r)] (.one (.agg ((Keep.c a).map .w))) [.agg ((Keep.c a).map .r)] := by
 refine Eng.Fn.intro (E := E) (rvs := [.cell 2 31]) Tryd.func11 rfl rfl rfl (by simp [outSlots, moved, rvSlot, sl]) ?_
 intro B g bo
 refine CW.keep 13 [0] rfl ?_;(conv=>whnf);refine ⟨?_⟩
 refine CW.seq ?_
 refine CW.region ?_
 refine RW.k XK 13 1 rfl ?_
 (conv=>whnf);intro b1;(conv=>whnf);refine ⟨rfl,?_⟩
 refine RW.freezeB (ts := (Keep.c a)) 1 rfl (DRd.r (DRd.r DRd.e)) ?_
 refine RW.k XK 13 1 rfl ?_
 (conv=>whnf);intro b2;(conv=>whnf);refine ⟨rfl,?_⟩
 refine RW.nil ?_
 refine CW.keep 13 [1,2] rfl ?_;(conv=>whnf);refine ⟨?_⟩
 refine CW.k XK 13 1 [1,2,3] rfl ?_
 (conv=>whnf);intro b3;(conv=>whnf);refine ⟨rfl,?_⟩
 refine CW.seq ?_
 refine CW.region ?_
 refine RW.k XK 13 2 rfl ?_
 (conv=>whnf);refine ⟨rfl,?_⟩
 refine RW.call rfl (laws_toSessionS_fn a.sessions hs.1.1 hs.1.2) rfl (.cons (.one (.r .r)) (.nil)) fun g4 => ?_
 refine RW.k XK 13 2 rfl ?_
 (conv=>whnf);refine ⟨rfl,?_⟩
 refine RW.keep 13 [1,2,3,6] rfl ?_;(conv=>whnf);refine ⟨?_⟩
 refine RW.pullT (k := 3) (l := 6) (j := 0) 3 6 0 rfl rfl rfl (by decide) rfl rfl rfl ?_
 refine RW.keep 13 [1,2,3] rfl ?_;(conv=>whnf);refine ⟨?_⟩
 refine RW.nil ?_
 refine CW.keep 13 [1,2,3] rfl ?_;(conv=>whnf);refine ⟨?_⟩
 refine CW.seq ?_
 refine CW.region ?_
 refine RW.k XK 13 2 rfl ?_
 (conv=>whnf);refine ⟨rfl,?_⟩
 refine RW.call rfl (laws_toItemS_fn a.items hs.2.1 hs.2.2) rfl (.cons (.one (.r .r)) (.nil)) fun g5 => ?_
 refine RW.k XK 13 2 rfl ?_
 (conv=>whnf);refine ⟨rfl,?_⟩
 refine RW.keep 13 [2,3,10] rfl ?_;(conv=>whnf);refine ⟨?_⟩
 refine RW.pullT (k := 3) (l := 10) (j := 1) 3 10 1 rfl rfl rfl (by decide) rfl rfl rfl ?_
 refine RW.keep 13 [2,3] rfl ?_;(conv=>whnf);refine ⟨?_⟩
 refine RW.nil ?_
 refine CW.keep 13 [2,3] rfl ?_;(conv=>whnf);refine ⟨?_⟩
 refine CW.seq ?_
 refine CW.region ?_
 refine RW.k XK 13 2 rfl ?_
 (conv=>whnf);refine ⟨rfl,?_⟩
 refine RW.keep 13 [2,3] rfl ?_;(conv=>whnf);refine ⟨?_⟩
 refine RW.pullO (k := 2) (l := 3) (j := 0) 2 3 0 rfl rfl rfl (by decide) rfl rfl rfl rfl ?_
 refine RW.keep 13 [2,3] rfl ?_;(conv=>whnf);refine ⟨?_⟩
 refine RW.pullO (k := 2) (l := 3) (j := 1) 2 3 1 rfl rfl rfl (by decide) rfl rfl rfl rfl ?_
 refine RW.keep 13 [2] rfl ?_;(conv=>whnf);refine ⟨?_⟩
 refine RW.nil ?_
 refine CW.keep 13 [2] rfl ?_;(conv=>whnf);refine ⟨?_⟩
 refine CW.ret ?_
 exact Post.one (RV.c (f := fun e => (Keep.c e).map .w) (e' := a) rfl rfl rfl rfl (DT.w (DT.w DT.e)) (by simp_all)) (AOs.a rfl AOs.e)
set_option maxHeartbeats 4000000 in
theorem laws_eqSession_fn (a : Session) (b : Session) : Eng.Fn E.P 76 [.agg ((Session.c a).map .r), .agg ((Session.c b).map .r)] (.one (.one (.w (.v (.bool (eqSession a b)))))) [.agg ((Session.c a).map .r), .agg ((Session.c b).map .r)] := by
 refine Eng.Fn.intro (E := E) (rvs := [.tmp 4]) Tryd.func76 rfl rfl rfl (by simp [outSlots, moved, rvSlot, sl]) ?_
 intro B g bo
 refine CW.keep 20 [0,1] rfl ?_;(conv=>whnf);refine ⟨?_⟩
 refine CW.seq ?_
 refine CW.region ?_
 refine RW.k XK 20 1 rfl ?_
 (conv=>whnf);intro b1;(conv=>whnf);refine ⟨rfl,?_⟩
 refine RW.freezeB (ts := (Session.c a)) 2 rfl (DRd.r (DRd.r (DRd.r DRd.e))) ?_
 refine RW.k XK 20 1 rfl ?_
 (conv=>whnf);intro b2;(conv=>whnf);refine ⟨rfl,?_⟩
 refine RW.freezeB (ts := (Session.c b)) 3 rfl (DRd.r (DRd.r (DRd.r DRd.e))) ?_
 refine RW.k XK 20 1 rfl ?_
 (conv=>whnf);refine ⟨rfl,?_⟩
 refine RW.nil ?_
 refine CW.keep 20 [2,3] rfl ?_;(conv=>whnf);refine ⟨?_⟩
 refine CW.seq ?_
 refine CW.k XK 20 1 [2,3,9] rfl ?_
 (conv=>whnf);refine ⟨rfl,?_⟩
 refine CW.cond rfl (fun h3 => ?_) (fun h3 => ?_)
 ·skip
  refine CW.k XK 20 1 [4] rfl ?_
  (conv=>whnf);refine ⟨rfl,?_⟩
  refine CW.ret ?_
  exact Post.one (RV.b rfl (by simp_all [eqSession])) (AOs.a rfl (AOs.a rfl AOs.e))
 ·skip
  refine CW.skip ?_
  refine CW.keep 20 [2,3] rfl ?_;(conv=>whnf);refine ⟨?_⟩
  refine CW.seq ?_
  refine CW.k XK 20 1 [2,3,14] rfl ?_
  (conv=>whnf);refine ⟨rfl,?_⟩
  refine CW.cond rfl (fun h4 => ?_) (fun h4 => ?_)
  ·skip
   refine CW.k XK 20 1 [4] rfl ?_
   (conv=>whnf);refine ⟨rfl,?_⟩
   refine CW.ret ?_
   exact Post.one (RV.b rfl (by simp_all [eqSession])) (AOs.a rfl (AOs.a rfl AOs.e))
  ·skip
   refine CW.skip ?_
   refine CW.keep 20 [2,3] rfl ?_;(conv=>whnf);refine ⟨?_⟩
   refine CW.seq ?_
   refine CW.k XK 20 1 [19] rfl ?_
   (conv=>whnf);refine ⟨rfl,?_⟩
   refine CW.cond rfl (fun h5 => ?_) (fun h5 => ?_)
   ·skip
    refine CW.k XK 20 1 [4] rfl ?_
    (conv=>whnf);refine ⟨rfl,?_⟩
    refine CW.ret ?_
    exact Post.one (RV.b rfl (by simp_all [eqSession])) (AOs.a rfl (AOs.a rfl AOs.e))
   ·skip
    refine CW.skip ?_
    refine CW.keep 20 [] rfl ?_;(conv=>whnf);refine ⟨?_⟩
    refine CW.k XK 20 1 [4] rfl ?_
    (conv=>whnf);refine ⟨rfl,?_⟩
    refine CW.ret ?_
    exact Post.one (RV.b rfl (by simp_all [eqSession])) (AOs.a rfl (AOs.a rfl AOs.e))
set_option maxHeartbeats 4000000 in
theorem laws_eqSessionS_fn (a : List Session) (b : List Session) : Eng.Fn E.P 41 [.one (.r (sl 3 Session.c a)), .one (.r (sl 3 Session.c b))] (.one (.one (.w (.v (.bool (eqS eqSession a b)))))) [.one (.r (sl 3 Session.c a)), .one (.r (sl 3 Session.c b))] := by
 refine Eng.Fn.intro (E := E) (rvs := [.tmp 4]) Tryd.func41 rfl rfl rfl (by simp [outSlots, moved, rvSlot, sl]) ?_
 intro B g bo
 refine CW.bound (x := .tmp 0) (n := a.length) (AsT.r) (fun hl0 => ?_)
 refine CW.bound (x := .tmp 1) (n := b.length) (AsT.r) (fun hl1 => ?_)
 refine CW.keep 27 [0,1] rfl ?_;(conv=>whnf);refine ⟨?_⟩
 refine CW.k XK 27 1 [0,1] rfl ?_
 (conv=>whnf);refine ⟨rfl,?_⟩
 refine CW.seq ?_
 refine CW.k XK 27 1 [0,1,10] rfl ?_
 (conv=>whnf);refine ⟨rfl,?_⟩
 refine CW.cond rfl (fun h1 => ?_) (fun h1 => ?_)
 ·skip
  refine CW.k XK 27 1 [4] rfl ?_
  (conv=>whnf);refine ⟨rfl,?_⟩
  refine CW.ret ?_
  exact Post.one (RV.b rfl (by first | (simp_all [eqS, eqI, eqStr, eqB]; done) | exact (eqS_ne (by simp_all; omega)).symm)) (AOs.r (AOs.r AOs.e))
 ·skip
  refine CW.skip ?_
  refine CW.keep 27 [0,1] rfl ?_;(conv=>whnf);refine ⟨?_⟩
  refine CW.seq ?_
  refine CW.k XK 27 1 [0,1,5] rfl ?_
  (conv=>whnf);refine ⟨rfl,?_⟩
  refine CW.block ?_
  refine CW.loopI 27 (fun (i : Nat) => [(0, .r (sl 3 Session.c a)), (1, .r (sl 3 Session.c b)), (5, I (i : Int))]) (fun (i : Nat) => i ≤ a.length ∧ eqS eqSession (a.drop i) (b.drop i) = eqS eqSession a b) (fun (i : Nat) => a.length - i) 0 rfl (Le.c rfl <| Le.c rfl <| Le.c rfl <| Le.e) ⟨by omega, by simp⟩ ?_
  rintro i ⟨hb, hr⟩
  have hlen : a.length = b.length := by simp at h1; omega
  refine CW.seq ?_
  refine CW.k XK 27 1 [0,1,5,14] rfl ?_
  (conv=>whnf);refine ⟨rfl,?_⟩
  refine CW.cond rfl (fun h2 => ?_) (fun h2 => ?_)
  ·skip
   have hii : i < a.length := by have := h2; simp at this; first | exact this | omega | (simp; done) | (simp; omega)
   obtain ⟨ei, hei⟩ : ∃ e, a[i]? = some e := ⟨_, List.getElem?_eq_getElem hii⟩
   have hdi := drop_get hei
   have hib : i < b.length := by omega
   obtain ⟨eb, heb⟩ : ∃ e, b[i]? = some e := ⟨_, List.getElem?_eq_getElem hib⟩
   have hdb := drop_get heb
   refine CW.skip ?_
   refine CW.keep 27 [0,1,5] rfl ?_;(conv=>whnf);refine ⟨?_⟩
   refine CW.seq ?_
   refine CW.block ?_
   refine CW.seq ?_
   refine CW.drawn (by kernel_rfl) ?_
   refine RQ.k XK 27 2 rfl ?_
   (conv=>whnf);refine ⟨rfl,?_⟩
   refine RQ.v rfl (V.indexS rfl rfl rfl rfl rfl rfl Session.len hei) ?_
   refine RQ.k XK 27 3 rfl ?_
   (conv=>whnf);refine ⟨rfl,?_⟩
   refine RQ.v rfl (V.indexS rfl rfl rfl rfl rfl rfl Session.len heb) ?_
   refine RQ.k XK 27 1 rfl ?_
   (conv=>whnf);refine ⟨rfl,?_⟩
   refine RQ.cons rfl (QOK.call (laws_eqSession_fn ei eb) rfl (.cons (.agg (.cons (.r .r) (.cons (.r .r) (.cons (.r .r) (.nil))))) (.cons (.agg (.cons (.r .r) (.cons (.r .r) (.cons (.r .r) (.nil))))) (.nil))) ?_)
   refine RQ.k XK 27 1 rfl ?_
   (conv=>whnf);refine ⟨rfl,?_⟩
   refine RQ.nil ?_
   refine CW.keep 27 [0,1,5,26] rfl ?_;(conv=>whnf);refine ⟨?_⟩
   refine CW.cond rfl (fun h3 => ?_) (fun h3 => ?_)
   ·skip
    refine CW.k XK 27 1 [4] rfl ?_
    (conv=>whnf);refine ⟨rfl,?_⟩
    refine CW.ret ?_
    exact Post.one (RV.b rfl (by first | (simp_all [eqS, eqI, eqStr, eqB]; done) | exact (eqS_ne (by simp_all; omega)).symm)) (AOs.r (AOs.r AOs.e))
   ·skip
    refine CW.skip ?_
    refine CW.keep 27 [0,1,5] rfl ?_;(conv=>whnf);refine ⟨?_⟩
    refine CW.region ?_
    refine RW.k XK 27 1 rfl ?_
    (conv=>whnf);refine ⟨rfl,?_⟩
    refine RW.v rfl (V.inc rfl rfl rfl hii hl0) ?_
    refine RW.k XK 27 1 rfl ?_
    (conv=>whnf);refine ⟨rfl,?_⟩
    refine RW.nil ?_
    exact ⟨i + 1, by omega, ⟨by omega, by simp_all [eqS, eqI, eqStr, eqB]⟩, rfl, Le.c rfl <| Le.c rfl <| Le.c rfl <| Le.e⟩
  ·skip
   have hii : a.length ≤ i := by have := h2; simp at this; first | exact this | omega | (simp; done) | (simp; omega)
   have hdi : a.drop i = [] := List.drop_eq_nil_of_le hii
   refine CW.exit ?_
   refine CW.keep 27 [] rfl ?_;(conv=>whnf);refine ⟨?_⟩
   refine CW.k XK 27 1 [4] rfl ?_
   (conv=>whnf);refine ⟨rfl,?_⟩
   refine CW.ret ?_
   exact Post.one (RV.b rfl (by rw [← hr, hdi, List.drop_eq_nil_of_le (show b.length ≤ i by omega)]; rfl)) (AOs.r (AOs.r AOs.e))
set_option maxHeartbeats 4000000 in
theorem laws_eqItem_fn (a : Item) (b : Item) : Eng.Fn E.P 77 [.agg ((Item.c a).map .r), .agg ((Item.c b).map .r)] (.one (.one (.w (.v (.bool (eqItem a b)))))) [.agg ((Item.c a).map .r), .agg ((Item.c b).map .r)] := by
 refine Eng.Fn.intro (E := E) (rvs := [.tmp 4]) Tryd.func77 rfl rfl rfl (by simp [outSlots, moved, rvSlot, sl]) ?_
 intro B g bo
 refine CW.keep 20 [0,1] rfl ?_;(conv=>whnf);refine ⟨?_⟩
 refine CW.seq ?_
 refine CW.region ?_
 refine RW.k XK 20 1 rfl ?_
 (conv=>whnf);intro b1;(conv=>whnf);refine ⟨rfl,?_⟩
 refine RW.freezeB (ts := (Item.c a)) 2 rfl (DRd.r (DRd.r (DRd.r DRd.e))) ?_
 refine RW.k XK 20 1 rfl ?_
 (conv=>whnf);intro b2;(conv=>whnf);refine ⟨rfl,?_⟩
 refine RW.freezeB (ts := (Item.c b)) 3 rfl (DRd.r (DRd.r (DRd.r DRd.e))) ?_
 refine RW.k XK 20 1 rfl ?_
 (conv=>whnf);refine ⟨rfl,?_⟩
 refine RW.nil ?_
 refine CW.keep 20 [2,3] rfl ?_;(conv=>whnf);refine ⟨?_⟩
 refine CW.seq ?_
 refine CW.k XK 20 1 [2,3,9] rfl ?_
 (conv=>whnf);refine ⟨rfl,?_⟩
 refine CW.cond rfl (fun h3 => ?_) (fun h3 => ?_)
 ·skip
  refine CW.k XK 20 1 [4] rfl ?_
  (conv=>whnf);refine ⟨rfl,?_⟩
  refine CW.ret ?_
  exact Post.one (RV.b rfl (by simp_all [eqItem])) (AOs.a rfl (AOs.a rfl AOs.e))
 ·skip
  refine CW.skip ?_
  refine CW.keep 20 [2,3] rfl ?_;(conv=>whnf);refine ⟨?_⟩
  refine CW.seq ?_
  refine CW.k XK 20 1 [2,3,14] rfl ?_
  (conv=>whnf);refine ⟨rfl,?_⟩
  refine CW.cond rfl (fun h4 => ?_) (fun h4 => ?_)
  ·skip
   refine CW.k XK 20 1 [4] rfl ?_
   (conv=>whnf);refine ⟨rfl,?_⟩
   refine CW.ret ?_
   exact Post.one (RV.b rfl (by simp_all [eqItem])) (AOs.a rfl (AOs.a rfl AOs.e))
  ·skip
   refine CW.skip ?_
   refine CW.keep 20 [2,3] rfl ?_;(conv=>whnf);refine ⟨?_⟩
   refine CW.seq ?_
   refine CW.k XK 20 1 [19] rfl ?_
   (conv=>whnf);refine ⟨rfl,?_⟩
   refine CW.cond rfl (fun h5 => ?_) (fun h5 => ?_)
   ·skip
    refine CW.k XK 20 1 [4] rfl ?_
    (conv=>whnf);refine ⟨rfl,?_⟩
    refine CW.ret ?_
    exact Post.one (RV.b rfl (by simp_all [eqItem])) (AOs.a rfl (AOs.a rfl AOs.e))
   ·skip
    refine CW.skip ?_
    refine CW.keep 20 [] rfl ?_;(conv=>whnf);refine ⟨?_⟩
    refine CW.k XK 20 1 [4] rfl ?_
    (conv=>whnf);refine ⟨rfl,?_⟩
    refine CW.ret ?_
    exact Post.one (RV.b rfl (by simp_all [eqItem])) (AOs.a rfl (AOs.a rfl AOs.e))
set_option maxHeartbeats 4000000 in
theorem laws_eqItemS_fn (a : List Item) (b : List Item) : Eng.Fn E.P 42 [.one (.r (sl 3 Item.c a)), .one (.r (sl 3 Item.c b))] (.one (.one (.w (.v (.bool (eqS eqItem a b)))))) [.one (.r (sl 3 Item.c a)), .one (.r (sl 3 Item.c b))] := by
 refine Eng.Fn.intro (E := E) (rvs := [.tmp 4]) Tryd.func42 rfl rfl rfl (by simp [outSlots, moved, rvSlot, sl]) ?_
 intro B g bo
 refine CW.bound (x := .tmp 0) (n := a.length) (AsT.r) (fun hl0 => ?_)
 refine CW.bound (x := .tmp 1) (n := b.length) (AsT.r) (fun hl1 => ?_)
 refine CW.keep 27 [0,1] rfl ?_;(conv=>whnf);refine ⟨?_⟩
 refine CW.k XK 27 1 [0,1] rfl ?_
 (conv=>whnf);refine ⟨rfl,?_⟩
 refine CW.seq ?_
 refine CW.k XK 27 1 [0,1,10] rfl ?_
 (conv=>whnf);refine ⟨rfl,?_⟩
 refine CW.cond rfl (fun h1 => ?_) (fun h1 => ?_)
 ·skip
  refine CW.k XK 27 1 [4] rfl ?_
  (conv=>whnf);refine ⟨rfl,?_⟩
  refine CW.ret ?_
  exact Post.one (RV.b rfl (by first | (simp_all [eqS, eqI, eqStr, eqB]; done) | exact (eqS_ne (by simp_all; omega)).symm)) (AOs.r (AOs.r AOs.e))
 ·skip
  refine CW.skip ?_
  refine CW.keep 27 [0,1] rfl ?_;(conv=>whnf);refine ⟨?_⟩
  refine CW.seq ?_
  refine CW.k XK 27 1 [0,1,5] rfl ?_
  (conv=>whnf);refine ⟨rfl,?_⟩
  refine CW.block ?_
  refine CW.loopI 27 (fun (i : Nat) => [(0, .r (sl 3 Item.c a)), (1, .r (sl 3 Item.c b)), (5, I (i : Int))]) (fun (i : Nat) => i ≤ a.length ∧ eqS eqItem (a.drop i) (b.drop i) = eqS eqItem a b) (fun (i : Nat) => a.length - i) 0 rfl (Le.c rfl <| Le.c rfl <| Le.c rfl <| Le.e) ⟨by omega, by simp⟩ ?_
  rintro i ⟨hb, hr⟩
  have hlen : a.length = b.length := by simp at h1; omega
  refine CW.seq ?_
  refine CW.k XK 27 1 [0,1,5,14] rfl ?_
  (conv=>whnf);refine ⟨rfl,?_⟩
  refine CW.cond rfl (fun h2 => ?_) (fun h2 => ?_)
  ·skip
   have hii : i < a.length := by have := h2; simp at this; first | exact this | omega | (simp; done) | (simp; omega)
   obtain ⟨ei, hei⟩ : ∃ e, a[i]? = some e := ⟨_, List.getElem?_eq_getElem hii⟩
   have hdi := drop_get hei
   have hib : i < b.length := by omega
   obtain ⟨eb, heb⟩ : ∃ e, b[i]? = some e := ⟨_, List.getElem?_eq_getElem hib⟩
   have hdb := drop_get heb
   refine CW.skip ?_
   refine CW.keep 27 [0,1,5] rfl ?_;(conv=>whnf);refine ⟨?_⟩
   refine CW.seq ?_
   refine CW.block ?_
   refine CW.seq ?_
   refine CW.drawn (by kernel_rfl) ?_
   refine RQ.k XK 27 2 rfl ?_
   (conv=>whnf);refine ⟨rfl,?_⟩
   refine RQ.v rfl (V.indexS rfl rfl rfl rfl rfl rfl Item.len hei) ?_
   refine RQ.k XK 27 3 rfl ?_
   (conv=>whnf);refine ⟨rfl,?_⟩
   refine RQ.v rfl (V.indexS rfl rfl rfl rfl rfl rfl Item.len heb) ?_
   refine RQ.k XK 27 1 rfl ?_
   (conv=>whnf);refine ⟨rfl,?_⟩
   refine RQ.cons rfl (QOK.call (laws_eqItem_fn ei eb) rfl (.cons (.agg (.cons (.r .r) (.cons (.r .r) (.cons (.r .r) (.nil))))) (.cons (.agg (.cons (.r .r) (.cons (.r .r) (.cons (.r .r) (.nil))))) (.nil))) ?_)
   refine RQ.k XK 27 1 rfl ?_
   (conv=>whnf);refine ⟨rfl,?_⟩
   refine RQ.nil ?_
   refine CW.keep 27 [0,1,5,26] rfl ?_;(conv=>whnf);refine ⟨?_⟩
   refine CW.cond rfl (fun h3 => ?_) (fun h3 => ?_)
   ·skip
    refine CW.k XK 27 1 [4] rfl ?_
    (conv=>whnf);refine ⟨rfl,?_⟩
    refine CW.ret ?_
    exact Post.one (RV.b rfl (by first | (simp_all [eqS, eqI, eqStr, eqB]; done) | exact (eqS_ne (by simp_all; omega)).symm)) (AOs.r (AOs.r AOs.e))
   ·skip
    refine CW.skip ?_
    refine CW.keep 27 [0,1,5] rfl ?_;(conv=>whnf);refine ⟨?_⟩
    refine CW.region ?_
    refine RW.k XK 27 1 rfl ?_
    (conv=>whnf);refine ⟨rfl,?_⟩
    refine RW.v rfl (V.inc rfl rfl rfl hii hl0) ?_
    refine RW.k XK 27 1 rfl ?_
    (conv=>whnf);refine ⟨rfl,?_⟩
    refine RW.nil ?_
    exact ⟨i + 1, by omega, ⟨by omega, by simp_all [eqS, eqI, eqStr, eqB]⟩, rfl, Le.c rfl <| Le.c rfl <| Le.c rfl <| Le.e⟩
  ·skip
   have hii : a.length ≤ i := by have := h2; simp at this; first | exact this | omega | (simp; done) | (simp; omega)
   have hdi : a.drop i = [] := List.drop_eq_nil_of_le hii
   refine CW.exit ?_
   refine CW.keep 27 [] rfl ?_;(conv=>whnf);refine ⟨?_⟩
   refine CW.k XK 27 1 [4] rfl ?_
   (conv=>whnf);refine ⟨rfl,?_⟩
   refine CW.ret ?_
   exact Post.one (RV.b rfl (by rw [← hr, hdi, List.drop_eq_nil_of_le (show b.length ≤ i by omega)]; rfl)) (AOs.r (AOs.r AOs.e))
set_option maxHeartbeats 4000000 in
theorem laws_eqKeep_fn (a : Keep) (b : Keep) : Eng.Fn E.P 13 [.agg ((Keep.c a).map .r), .agg ((Keep.c b).map .r)] (.one (.one (.w (.v (.bool (eqKeep a b)))))) [.agg ((Keep.c a).map .r), .agg ((Keep.c b).map .r)] := by
 refine Eng.Fn.intro (E := E) (rvs := [.tmp 4]) Tryd.func13 rfl rfl rfl (by simp [outSlots, moved, rvSlot, sl]) ?_
 intro B g bo
 refine CW.keep 17 [0,1] rfl ?_;(conv=>whnf);refine ⟨?_⟩
 refine CW.seq ?_
 refine CW.region ?_
 refine RW.k XK 17 1 rfl ?_
 (conv=>whnf);intro b1;(conv=>whnf);refine ⟨rfl,?_⟩
 refine RW.freezeB (ts := (Keep.c a)) 2 rfl (DRd.r (DRd.r DRd.e)) ?_
 refine RW.k XK 17 1 rfl ?_
 (conv=>whnf);intro b2;(conv=>whnf);refine ⟨rfl,?_⟩
 refine RW.freezeB (ts := (Keep.c b)) 3 rfl (DRd.r (DRd.r DRd.e)) ?_
 refine RW.k XK 17 1 rfl ?_
 (conv=>whnf);refine ⟨rfl,?_⟩
 refine RW.nil ?_
 refine CW.keep 17 [2,3] rfl ?_;(conv=>whnf);refine ⟨?_⟩
 refine CW.seq ?_
 refine CW.seq ?_
 refine CW.region ?_
 refine RW.k XK 17 4 rfl ?_
 (conv=>whnf);refine ⟨rfl,?_⟩
 refine RW.call rfl (laws_eqSessionS_fn a.sessions b.sessions) rfl (.cons (.one (.r .r)) (.cons (.one (.r .r)) (.nil))) fun g3 => ?_
 refine RW.k XK 17 1 rfl ?_
 (conv=>whnf);refine ⟨rfl,?_⟩
 refine RW.nil ?_
 refine CW.keep 17 [2,3,10] rfl ?_;(conv=>whnf);refine ⟨?_⟩
 refine CW.cond rfl (fun h4 => ?_) (fun h4 => ?_)
 ·skip
  refine CW.k XK 17 1 [4] rfl ?_
  (conv=>whnf);refine ⟨rfl,?_⟩
  refine CW.ret ?_
  exact Post.one (RV.b rfl (by simp_all [eqKeep])) (AOs.a rfl (AOs.a rfl AOs.e))
 ·skip
  refine CW.skip ?_
  refine CW.keep 17 [2,3] rfl ?_;(conv=>whnf);refine ⟨?_⟩
  refine CW.seq ?_
  refine CW.seq ?_
  refine CW.region ?_
  refine RW.k XK 17 4 rfl ?_
  (conv=>whnf);refine ⟨rfl,?_⟩
  refine RW.call rfl (laws_eqItemS_fn a.items b.items) rfl (.cons (.one (.r .r)) (.cons (.one (.r .r)) (.nil))) fun g5 => ?_
  refine RW.k XK 17 1 rfl ?_
  (conv=>whnf);refine ⟨rfl,?_⟩
  refine RW.nil ?_
  refine CW.keep 17 [16] rfl ?_;(conv=>whnf);refine ⟨?_⟩
  refine CW.cond rfl (fun h6 => ?_) (fun h6 => ?_)
  ·skip
   refine CW.k XK 17 1 [4] rfl ?_
   (conv=>whnf);refine ⟨rfl,?_⟩
   refine CW.ret ?_
   exact Post.one (RV.b rfl (by simp_all [eqKeep])) (AOs.a rfl (AOs.a rfl AOs.e))
  ·skip
   refine CW.skip ?_
   refine CW.keep 17 [] rfl ?_;(conv=>whnf);refine ⟨?_⟩
   refine CW.k XK 17 1 [4] rfl ?_
   (conv=>whnf);refine ⟨rfl,?_⟩
   refine CW.ret ?_
   exact Post.one (RV.b rfl (by simp_all [eqKeep])) (AOs.a rfl (AOs.a rfl AOs.e))
set_option maxHeartbeats 4000000 in
theorem impl_within_fn (n : Int) (x : Int) (y : Int) : Eng.Fn E.P 47 [.one (.r (.v (.int .i64 n))), .one (.r (.v (.int .i64 x))), .one (.r (.v (.int .i64 y)))] (.one (.one (.w (.v (.bool (inR n x y)))))) [.one (.r (.v (.int .i64 n))), .one (.r (.v (.int .i64 x))), .one (.r (.v (.int .i64 y)))] := by
 refine Eng.Fn.intro (E := E) (rvs := [.tmp 6]) Tryd.func47 rfl rfl rfl (by simp [outSlots, moved, rvSlot, sl]) ?_
 intro B g bo
 refine CW.keep 15 [0,1,2] rfl ?_;(conv=>whnf);refine ⟨?_⟩
 refine CW.k XK 15 1 [0,1,2] rfl ?_
 (conv=>whnf);refine ⟨rfl,?_⟩
 refine CW.seqJ 15 (fun (v1 : Bool) => [(6, Bo v1)]) (fun v1 => v1 = (decide (n ≥ x) && decide (n ≤ y))) ?_ ?_
 ·refine CW.region ?_
  refine RW.k XK 15 4 rfl ?_
  (conv=>whnf);refine ⟨rfl,?_⟩
  refine RW.gv rfl rfl rfl rfl (fun h2 => V.mv (d := I n) rfl rfl) (fun h2 => ?_) (fun h2 => ?_)
  ·skip
   refine RW.k XK 15 4 rfl ?_
   (conv=>whnf);refine ⟨rfl,?_⟩
   refine RW.nil ?_
   exact ⟨_, by first | rfl | (simp_all; done) | (simp_all; omega) | grind, rfl, Le.of rfl⟩
  ·skip
   refine RW.k XK 15 4 rfl ?_
   (conv=>whnf);refine ⟨rfl,?_⟩
   refine RW.nil ?_
   exact ⟨_, by first | rfl | (simp_all; done) | (simp_all; omega) | grind, rfl, Le.of rfl⟩
 ·intro v1 hv3
  refine CW.ret ?_
  exact Post.one (RV.b rfl (by simp_all [inR])) (AOs.r (AOs.r (AOs.r AOs.e)))
set_option maxHeartbeats 4000000 in
theorem spec_l01In_fn (n : Int) (x : Int) (y : Int) : Eng.Fn E.P 56 [.one (.r (.v (.int .i64 n))), .one (.r (.v (.int .i64 x))), .one (.r (.v (.int .i64 y)))] (.one (.one (.w (.v (.bool (inR n x y)))))) [.one (.r (.v (.int .i64 n))), .one (.r (.v (.int .i64 x))), .one (.r (.v (.int .i64 y)))] := by
 refine Eng.Fn.intro (E := E) (rvs := [.tmp 6]) Tryd.func56 rfl rfl rfl (by simp [outSlots, moved, rvSlot, sl]) ?_
 intro B g bo
 refine CW.keep 15 [0,1,2] rfl ?_;(conv=>whnf);refine ⟨?_⟩
 refine CW.k XK 15 1 [0,1,2] rfl ?_
 (conv=>whnf);refine ⟨rfl,?_⟩
 refine CW.seqJ 15 (fun (v1 : Bool) => [(6, Bo v1)]) (fun v1 => v1 = (decide (n ≥ x) && decide (n ≤ y))) ?_ ?_
 ·refine CW.region ?_
  refine RW.k XK 15 4 rfl ?_
  (conv=>whnf);refine ⟨rfl,?_⟩
  refine RW.gv rfl rfl rfl rfl (fun h2 => V.mv (d := I n) rfl rfl) (fun h2 => ?_) (fun h2 => ?_)
  ·skip
   refine RW.k XK 15 4 rfl ?_
   (conv=>whnf);refine ⟨rfl,?_⟩
   refine RW.nil ?_
   exact ⟨_, by first | rfl | (simp_all; done) | (simp_all; omega) | grind, rfl, Le.of rfl⟩
  ·skip
   refine RW.k XK 15 4 rfl ?_
   (conv=>whnf);refine ⟨rfl,?_⟩
   refine RW.nil ?_
   exact ⟨_, by first | rfl | (simp_all; done) | (simp_all; omega) | grind, rfl, Le.of rfl⟩
 ·intro v1 hv3
  refine CW.ret ?_
  exact Post.one (RV.b rfl (by simp_all [inR])) (AOs.r (AOs.r (AOs.r AOs.e)))
set_option maxHeartbeats 4000000 in
theorem impl_isIndex_fn (n : Int) : Eng.Fn E.P 48 [.one (.r (.v (.int .i64 n)))] (.one (.one (.w (.v (.bool (inR n 0 1000000)))))) [.one (.r (.v (.int .i64 n)))] := by
 refine Eng.Fn.intro (E := E) (rvs := [.tmp 2]) Tryd.func48 rfl rfl rfl (by simp [outSlots, moved, rvSlot, sl]) ?_
 intro B g bo
 refine CW.keep 5 [0] rfl ?_;(conv=>whnf);refine ⟨?_⟩
 refine CW.k XK 5 1 [0] rfl ?_
 (conv=>whnf);refine ⟨rfl,?_⟩
 refine CW.seq ?_
 refine CW.region ?_
 refine RW.k XK 5 1 rfl ?_
 (conv=>whnf);refine ⟨rfl,?_⟩
 refine RW.call rfl (impl_within_fn n 0 1000000) rfl (.cons (.one (.r .r)) (.cons (.one (.r .r)) (.cons (.one (.r .r)) (.nil)))) fun g1 => ?_
 refine RW.k XK 5 1 rfl ?_
 (conv=>whnf);refine ⟨rfl,?_⟩
 refine RW.nil ?_
 refine CW.keep 5 [2] rfl ?_;(conv=>whnf);refine ⟨?_⟩
 refine CW.ret ?_
 exact Post.one (RV.b rfl (by rfl)) (AOs.r AOs.e)
set_option maxHeartbeats 4000000 in
theorem impl_keyOk_fn (s : ByteArray) : Eng.Fn E.P 49 [.one (.r (.v (.string s)))] (.one (.one (.w (.v (.bool (inR (s.size : Int) 1 8)))))) [.one (.r (.v (.string s)))] := by
 refine Eng.Fn.intro (E := E) (rvs := [.tmp 2]) Tryd.func49 rfl rfl rfl (by simp [outSlots, moved, rvSlot, sl]) ?_
 intro B g bo
 refine CW.keep 6 [0] rfl ?_;(conv=>whnf);refine ⟨?_⟩
 refine CW.k XK 6 1 [0] rfl ?_
 (conv=>whnf);refine ⟨rfl,?_⟩
 refine CW.seq ?_
 refine CW.region ?_
 refine RW.k XK 6 2 rfl ?_
 (conv=>whnf);refine ⟨rfl,?_⟩
 refine RW.call rfl (impl_within_fn (s.size : Int) 1 8) rfl (.cons (.one (.r .r)) (.cons (.one (.r .r)) (.cons (.one (.r .r)) (.nil)))) fun g1 => ?_
 refine RW.k XK 6 1 rfl ?_
 (conv=>whnf);refine ⟨rfl,?_⟩
 refine RW.nil ?_
 refine CW.keep 6 [2] rfl ?_;(conv=>whnf);refine ⟨?_⟩
 refine CW.ret ?_
 exact Post.one (RV.b rfl (by rfl)) (AOs.r AOs.e)
set_option maxHeartbeats 4000000 in
theorem impl_valOk_fn (s : ByteArray) : Eng.Fn E.P 50 [.one (.r (.v (.string s)))] (.one (.one (.w (.v (.bool (decide ((s.size : Int) ≤ 20))))))) [.one (.r (.v (.string s)))] := by
 refine Eng.Fn.intro (E := E) (rvs := [.tmp 2]) Tryd.func50 rfl rfl rfl (by simp [outSlots, moved, rvSlot, sl]) ?_
 intro B g bo
 refine CW.keep 6 [0] rfl ?_;(conv=>whnf);refine ⟨?_⟩
 refine CW.k XK 6 2 [2] rfl ?_
 (conv=>whnf);refine ⟨rfl,?_⟩
 refine CW.ret ?_
 exact Post.one (RV.b rfl (by rfl)) (AOs.r AOs.e)
set_option maxHeartbeats 4000000 in
theorem impl_Decimal_fn (n : Int) (hn : okI n) : Eng.Fn E.P 40 [.one (.r (.v (.int .i64 n)))] (.one (.one (.w (.v (.string (itoaB n)))))) [.one (.r (.v (.int .i64 n)))] := by
 refine Eng.Fn.intro (E := E) (rvs := [.tmp 2]) Tryd.func40 rfl rfl rfl (by simp [outSlots, moved, rvSlot, sl]) ?_
 intro B g bo
 refine CW.keep 5 [0] rfl ?_;(conv=>whnf);refine ⟨?_⟩
 refine CW.k XK 5 1 [0] rfl ?_
 (conv=>whnf);refine ⟨rfl,?_⟩
 refine CW.seq ?_
 refine CW.region ?_
 refine RW.k XK 5 1 rfl ?_
 (conv=>whnf);refine ⟨rfl,?_⟩
 refine RW.call rfl (strconv_Itoa_fn n hn) rfl (.cons (.one (.r .r)) (.nil)) fun g1 => ?_
 refine RW.k XK 5 1 rfl ?_
 (conv=>whnf);refine ⟨rfl,?_⟩
 refine RW.nil ?_
 refine CW.keep 5 [2] rfl ?_;(conv=>whnf);refine ⟨?_⟩
 refine CW.ret ?_
 exact Post.one (RV.s rfl (by rfl)) (AOs.r AOs.e)
set_option maxHeartbeats 4000000 in
theorem impl_KeepOk_fn (k : Keep) (hok : okToKeep k) : Eng.Fn E.P 17 [.agg ((Keep.c k).map .r)] (.one (.one (.w (.v (.bool (keepOk k)))))) [.agg ((Keep.c k).map .r)] := by
 refine Eng.Fn.intro (E := E) (rvs := [.tmp 2]) Tryd.func17 rfl rfl rfl (by simp [outSlots, moved, rvSlot, sl]) ?_
 intro B g bo
 refine CW.keep 107 [0] rfl ?_;(conv=>whnf);refine ⟨?_⟩
 have hl1 : k.sessions.length ≤ maxLen := by have := hok.1.1; simp only [maxLen]; omega
 have hl2 : k.items.length ≤ maxLen := by have := hok.2.1; simp only [maxLen]; omega
 refine CW.seq ?_
 refine CW.region ?_
 refine RW.k XK 107 1 rfl ?_
 (conv=>whnf);intro b1;(conv=>whnf);refine ⟨rfl,?_⟩
 refine RW.freezeB (ts := (Keep.c k)) 1 rfl (DRd.r (DRd.r DRd.e)) ?_
 refine RW.k XK 107 1 rfl ?_
 (conv=>whnf);refine ⟨rfl,?_⟩
 refine RW.nil ?_
 refine CW.keep 107 [1] rfl ?_;(conv=>whnf);refine ⟨?_⟩
 refine CW.seq ?_
 refine CW.k XK 107 1 [1,8,9,10] rfl ?_
 (conv=>whnf);refine ⟨rfl,?_⟩
 refine CW.block ?_
 refine CW.loopI 107 (fun (i : Nat) => [(1, .rp (Keep.c k)), (8, .r (sl 3 Session.c k.sessions)), (9, I (k.sessions.length : Int)), (10, I (i : Int))]) (fun (i : Nat) => i ≤ k.sessions.length ∧ sessF (prevO Session.token Session.z k.sessions i) (k.sessions.drop i) = sessF none k.sessions) (fun (i : Nat) => k.sessions.length - i) 0 rfl (Le.c rfl <| Le.c rfl <| Le.c rfl <| Le.c rfl <| Le.e) ⟨by omega, rfl⟩ ?_
 rintro i ⟨hb, hr⟩
 refine CW.k XK 107 1 [1,8,9,10,11] rfl ?_
 (conv=>whnf);refine ⟨rfl,?_⟩
 refine CW.seq ?_
 refine CW.cond rfl (fun h2 => ?_) (fun h2 => ?_)
 ·skip
  have hii : i < k.sessions.length := by have := h2; simp at this; first | exact this | omega | (simp; done) | (simp; omega)
  obtain ⟨ei, hei⟩ : ∃ e, k.sessions[i]? = some e := ⟨_, List.getElem?_eq_getElem hii⟩
  have hdi := drop_get hei
  refine CW.skip ?_
  refine CW.keep 107 [1,8,9,10] rfl ?_;(conv=>whnf);refine ⟨?_⟩
  refine CW.seq ?_
  refine CW.block ?_
  refine CW.seq ?_
  refine CW.region ?_
  refine RW.k XK 107 1 rfl ?_
  (conv=>whnf);refine ⟨rfl,?_⟩
  refine RW.v rfl (V.indexS rfl rfl rfl rfl rfl rfl Session.len hei) ?_
  refine RW.k XK 107 4 rfl ?_
  (conv=>whnf);intro b3;(conv=>whnf);refine ⟨rfl,?_⟩
  refine RW.freezeB (ts := (Session.c ei)) 4 rfl (DRd.r (DRd.r (DRd.r DRd.e))) ?_
  refine RW.nil ?_
  refine CW.keep 107 [1,3,4,8,9,10] rfl ?_;(conv=>whnf);refine ⟨?_⟩
  refine CW.seq ?_
  refine CW.seqJ 107 (fun (v4 : Bool) => [(1, .rp (Keep.c k)), (3, I (i : Int)), (4, .rp (Session.c ei)), (8, .r (sl 3 Session.c k.sessions)), (9, I (k.sessions.length : Int)), (10, I (i : Int)), (40, Bo v4)]) (fun v4 => v4 = ((((!(inR ei.token 1 1000000)) || (!(inR ei.last 0 1000000))) || decide ((ei.reply.size : Int) > 40)) || ((ei.last == 0) && (!(ei.reply.toList == (⟨#[]⟩ : ByteArray).toList))))) ?_ ?_
  ·refine CW.region ?_
   refine RW.k XK 107 2 rfl ?_
   (conv=>whnf);refine ⟨rfl,?_⟩
   refine RW.call rfl (impl_within_fn ei.token 1 1000000) rfl (.cons (.one (.r .r)) (.cons (.one (.r .r)) (.cons (.one (.r .r)) (.nil)))) fun g5 => ?_
   refine RW.k XK 107 2 rfl ?_
   (conv=>whnf);refine ⟨rfl,?_⟩
   refine RW.gv rfl rfl rfl rfl (fun h6 => V.fieldR rfl rfl rfl rfl (by decide) rfl (Nat.le_of_ble_eq_true rfl)) (fun h6 => ?_) (fun h6 => ?_)
   ·skip
    refine RW.k XK 107 1 rfl ?_
    (conv=>whnf);refine ⟨rfl,?_⟩
    refine RW.gcall rfl rfl rfl rfl (impl_isIndex_fn ei.last) rfl (.cons (.one (.r .r)) (.nil)) fun g7 => ?_
    refine RW.k XK 107 3 rfl ?_
    (conv=>whnf);refine ⟨rfl,?_⟩
    refine RW.gv rfl rfl rfl rfl (fun h8 => V.fieldR rfl rfl rfl rfl (by decide) rfl (Nat.le_of_ble_eq_true rfl)) (fun h8 => ?_) (fun h8 => ?_)
    ·skip
     refine RW.k XK 107 5 rfl ?_
     (conv=>whnf);refine ⟨rfl,?_⟩
     refine RW.gv rfl rfl rfl rfl (fun h9 => V.fieldR rfl rfl rfl rfl (by decide) rfl (Nat.le_of_ble_eq_true rfl)) (fun h9 => ?_) (fun h9 => ?_)
     ·skip
      refine RW.k XK 107 3 rfl ?_
      (conv=>whnf);refine ⟨rfl,?_⟩
      refine RW.gv rfl rfl rfl rfl (fun h10 => V.fieldR rfl rfl rfl rfl (by decide) rfl (Nat.le_of_ble_eq_true rfl)) (fun h10 => ?_) (fun h10 => ?_)
      ·skip
       refine RW.k XK 107 4 rfl ?_
       (conv=>whnf);refine ⟨rfl,?_⟩
       refine RW.nil ?_
       exact ⟨_, by first | rfl | (simp_all; done) | (simp_all; omega) | grind, rfl, Le.of rfl⟩
      ·skip
       refine RW.k XK 107 4 rfl ?_
       (conv=>whnf);refine ⟨rfl,?_⟩
       refine RW.nil ?_
       exact ⟨_, by first | rfl | (simp_all; done) | (simp_all; omega) | grind, rfl, Le.of rfl⟩
     ·skip
      refine RW.k XK 107 8 rfl ?_
      (conv=>whnf);refine ⟨rfl,?_⟩
      refine RW.nil ?_
      exact ⟨_, by first | rfl | (simp_all; done) | (simp_all; omega) | grind, rfl, Le.of rfl⟩
    ·skip
     refine RW.k XK 107 14 rfl ?_
     (conv=>whnf);refine ⟨rfl,?_⟩
     refine RW.nil ?_
     exact ⟨_, by first | rfl | (simp_all; done) | (simp_all; omega) | grind, rfl, Le.of rfl⟩
   ·skip
    refine RW.k XK 107 20 rfl ?_
    (conv=>whnf);refine ⟨rfl,?_⟩
    refine RW.nil ?_
    exact ⟨_, by first | rfl | (simp_all; done) | (simp_all; omega) | grind, rfl, Le.of rfl⟩
  ·intro v4 hv11
   refine CW.cond rfl (fun h12 => ?_) (fun h12 => ?_)
   ·skip
    refine CW.k XK 107 1 [2] rfl ?_
    (conv=>whnf);refine ⟨rfl,?_⟩
    refine CW.ret ?_
    exact Post.one (RV.b rfl (by have ht : sessF none k.sessions = false := (by rw [← hr, hdi, sessF]; first | (simp_all [sessOk, emp, prevO, prevGe]; done) | grind [sessOk, emp, prevO, prevGe]); simp [keepOk, ht])) (AOs.a rfl AOs.e)
   ·skip
    refine CW.skip ?_
    refine CW.keep 107 [1,3,4,8,9,10] rfl ?_;(conv=>whnf);refine ⟨?_⟩
    refine CW.seqJ 107 (fun (v13 : Bool) => [(1, .rp (Keep.c k)), (8, .r (sl 3 Session.c k.sessions)), (9, I (k.sessions.length : Int)), (10, I (i : Int)), (54, Bo v13)]) (fun v13 => v13 = (decide ((i : Int) > 0) && decide ((k.sessions.getD (i - 1) Session.z).token ≥ ei.token))) ?_ ?_
    ·refine CW.drawn (by kernel_rfl) ?_
     refine RQ.k XK 107 3 rfl ?_
     (conv=>whnf);refine ⟨rfl,?_⟩
     refine RQ.gv rfl rfl rfl rfl (fun h14 => V.fieldR rfl rfl rfl rfl (by decide) rfl (Nat.le_of_ble_eq_true rfl)) (fun h14 => ?_) (fun h14 => ?_)
     ·skip
      refine RQ.k XK 107 2 rfl ?_
      (conv=>whnf);refine ⟨rfl,?_⟩
      refine RQ.gt rfl rfl rfl rfl (V.dec (m := i) rfl rfl rfl (by have := h14; simp at this; omega) (by omega)) ?_
      refine RQ.gt rfl rfl rfl rfl (V.indexS rfl rfl rfl rfl rfl rfl Session.len (getD_some (l := k.sessions) (j := i - 1) (z := Session.z) (by omega))) ?_
      refine RQ.k XK 107 6 rfl ?_
      (conv=>whnf);refine ⟨rfl,?_⟩
      refine RQ.nil ?_
      exact ⟨_, by first | rfl | (simp_all; done) | (simp_all; omega) | grind, rfl, Le.of rfl⟩
     ·skip
      refine RQ.k XK 107 10 rfl ?_
      (conv=>whnf);refine ⟨rfl,?_⟩
      refine RQ.nil ?_
      exact ⟨_, by first | rfl | (simp_all; done) | (simp_all; omega) | grind, rfl, Le.of rfl⟩
    ·intro v13 hv15
     refine CW.cond rfl (fun h16 => ?_) (fun h16 => ?_)
     ·skip
      refine CW.k XK 107 1 [2] rfl ?_
      (conv=>whnf);refine ⟨rfl,?_⟩
      refine CW.ret ?_
      exact Post.one (RV.b rfl (by have ht : sessF none k.sessions = false := (by rw [← hr, hdi, sessF]; first | (simp_all [sessOk, emp, prevO, prevGe]; done) | grind [sessOk, emp, prevO, prevGe]); simp [keepOk, ht])) (AOs.a rfl AOs.e)
     ·skip
      refine CW.skip ?_
      refine CW.keep 107 [1,8,9,10] rfl ?_;(conv=>whnf);refine ⟨?_⟩
      refine CW.region ?_
      refine RW.v rfl (V.inc rfl rfl rfl hii hl1) ?_
      refine RW.k XK 107 1 rfl ?_
      (conv=>whnf);refine ⟨rfl,?_⟩
      refine RW.nil ?_
      exact ⟨i + 1, by omega, ⟨by omega, by rw [← hr, hdi, sessF, prevO_succ hei]; first | (simp_all [sessOk, itemOk, emp, prevO, prevGe, prevS]; done) | grind [sessOk, itemOk, emp, prevO, prevGe, prevS]⟩, rfl, Le.c rfl <| Le.c rfl <| Le.c rfl <| Le.c rfl <| Le.e⟩
 ·skip
  have hii : k.sessions.length ≤ i := by have := h2; simp at this; first | exact this | omega | (simp; done) | (simp; omega)
  have hdi : k.sessions.drop i = [] := List.drop_eq_nil_of_le hii
  refine CW.exit ?_
  refine CW.keep 107 [1] rfl ?_;(conv=>whnf);refine ⟨?_⟩
  refine CW.seq ?_
  refine CW.k XK 107 1 [1,57,58,59] rfl ?_
  (conv=>whnf);refine ⟨rfl,?_⟩
  refine CW.block ?_
  refine CW.loopI 107 (fun (j : Nat) => [(1, .rp (Keep.c k)), (57, .r (sl 3 Item.c k.items)), (58, I (k.items.length : Int)), (59, I (j : Int))]) (fun (j : Nat) => j ≤ k.items.length ∧ itemF (prevO Item.key Item.z k.items j) (k.items.drop j) = itemF none k.items) (fun (j : Nat) => k.items.length - j) 0 rfl (Le.c rfl <| Le.c rfl <| Le.c rfl <| Le.c rfl <| Le.e) ⟨by omega, rfl⟩ ?_
  rintro j ⟨hc, hs⟩
  refine CW.k XK 107 1 [1,57,58,59,60] rfl ?_
  (conv=>whnf);refine ⟨rfl,?_⟩
  refine CW.seq ?_
  refine CW.cond rfl (fun h17 => ?_) (fun h17 => ?_)
  ·skip
   have hij : j < k.items.length := by have := h17; simp at this; first | exact this | omega | (simp; done) | (simp; omega)
   obtain ⟨ej, hej⟩ : ∃ e, k.items[j]? = some e := ⟨_, List.getElem?_eq_getElem hij⟩
   have hdj := drop_get hej
   refine CW.skip ?_
   refine CW.keep 107 [1,57,58,59] rfl ?_;(conv=>whnf);refine ⟨?_⟩
   refine CW.seq ?_
   refine CW.block ?_
   refine CW.seq ?_
   refine CW.region ?_
   refine RW.k XK 107 1 rfl ?_
   (conv=>whnf);refine ⟨rfl,?_⟩
   refine RW.v rfl (V.indexS rfl rfl rfl rfl rfl rfl Item.len hej) ?_
   refine RW.k XK 107 4 rfl ?_
   (conv=>whnf);intro b18;(conv=>whnf);refine ⟨rfl,?_⟩
   refine RW.freezeB (ts := (Item.c ej)) 6 rfl (DRd.r (DRd.r (DRd.r DRd.e))) ?_
   refine RW.nil ?_
   refine CW.keep 107 [1,5,6,57,58,59] rfl ?_;(conv=>whnf);refine ⟨?_⟩
   refine CW.seqJ 107 (fun (v19 : Bool) => [(1, .rp (Keep.c k)), (57, .r (sl 3 Item.c k.items)), (58, I (k.items.length : Int)), (59, I (j : Int)), (95, Bo v19)]) (fun v19 => v19 = ((((!(inR (ej.key.size : Int) 1 8)) || (!(decide ((ej.val.size : Int) ≤ 20)))) || (!(inR ej.ver 1 1000000000))) || (decide ((j : Int) > 0) && (!(Op.bytesLess ((k.items.getD (j - 1) Item.z).key).toList ej.key.toList))))) ?_ ?_
   ·refine CW.drawn (by kernel_rfl) ?_
    refine RQ.k XK 107 2 rfl ?_
    (conv=>whnf);refine ⟨rfl,?_⟩
    refine RQ.cons rfl (QOK.call (impl_keyOk_fn ej.key) rfl (.cons (.one (.r .r)) (.nil)) ?_)
    refine RQ.k XK 107 2 rfl ?_
    (conv=>whnf);refine ⟨rfl,?_⟩
    refine RQ.gv rfl rfl rfl rfl (fun h20 => V.fieldR rfl rfl rfl rfl (by decide) rfl (Nat.le_of_ble_eq_true rfl)) (fun h20 => ?_) (fun h20 => ?_)
    ·skip
     refine RQ.k XK 107 1 rfl ?_
     (conv=>whnf);refine ⟨rfl,?_⟩
     refine RQ.guardT rfl rfl rfl rfl (QOK.call (impl_valOk_fn ej.val) rfl (.cons (.one (.r .r)) (.nil)) ?_)
     refine RQ.k XK 107 3 rfl ?_
     (conv=>whnf);refine ⟨rfl,?_⟩
     refine RQ.gv rfl rfl rfl rfl (fun h21 => V.fieldR rfl rfl rfl rfl (by decide) rfl (Nat.le_of_ble_eq_true rfl)) (fun h21 => ?_) (fun h21 => ?_)
     ·skip
      refine RQ.k XK 107 1 rfl ?_
      (conv=>whnf);refine ⟨rfl,?_⟩
      refine RQ.guardT rfl rfl rfl rfl (QOK.call (impl_within_fn ej.ver 1 1000000000) rfl (.cons (.one (.r .r)) (.cons (.one (.r .r)) (.cons (.one (.r .r)) (.nil)))) ?_)
      refine RQ.k XK 107 3 rfl ?_
      (conv=>whnf);refine ⟨rfl,?_⟩
      refine RQ.gv rfl rfl rfl rfl (fun h22 => V.mv (d := I (j : Int)) rfl rfl) (fun h22 => ?_) (fun h22 => ?_)
      ·skip
       refine RQ.k XK 107 2 rfl ?_
       (conv=>whnf);refine ⟨rfl,?_⟩
       refine RQ.gv rfl rfl rfl rfl (fun h23 => V.fieldR rfl rfl rfl rfl (by decide) rfl (Nat.le_of_ble_eq_true rfl)) (fun h23 => ?_) (fun h23 => ?_)
       ·skip
        refine RQ.k XK 107 2 rfl ?_
        (conv=>whnf);refine ⟨rfl,?_⟩
        refine RQ.gt rfl rfl rfl rfl (V.dec (m := j) rfl rfl rfl (by have := h23; simp at this; omega) (by omega)) ?_
        refine RQ.gt rfl rfl rfl rfl (V.indexS rfl rfl rfl rfl rfl rfl Item.len (getD_some (l := k.items) (j := j - 1) (z := Item.z) (by omega))) ?_
        refine RQ.k XK 107 7 rfl ?_
        (conv=>whnf);refine ⟨rfl,?_⟩
        refine RQ.nil ?_
        exact ⟨_, by first | rfl | (simp_all; done) | (simp_all; omega) | grind, rfl, Le.of rfl⟩
       ·skip
        refine RQ.k XK 107 11 rfl ?_
        (conv=>whnf);refine ⟨rfl,?_⟩
        refine RQ.nil ?_
        exact ⟨_, by first | rfl | (simp_all; done) | (simp_all; omega) | grind, rfl, Le.of rfl⟩
      ·skip
       refine RQ.k XK 107 14 rfl ?_
       (conv=>whnf);refine ⟨rfl,?_⟩
       refine RQ.nil ?_
       exact ⟨_, by first | rfl | (simp_all; done) | (simp_all; omega) | grind, rfl, Le.of rfl⟩
     ·skip
      refine RQ.k XK 107 20 rfl ?_
      (conv=>whnf);refine ⟨rfl,?_⟩
      refine RQ.nil ?_
      exact ⟨_, by first | rfl | (simp_all; done) | (simp_all; omega) | grind, rfl, Le.of rfl⟩
    ·skip
     refine RQ.k XK 107 26 rfl ?_
     (conv=>whnf);refine ⟨rfl,?_⟩
     refine RQ.nil ?_
     exact ⟨_, by first | rfl | (simp_all; done) | (simp_all; omega) | grind, rfl, Le.of rfl⟩
   ·intro v19 hv24
    refine CW.cond rfl (fun h25 => ?_) (fun h25 => ?_)
    ·skip
     refine CW.k XK 107 1 [2] rfl ?_
     (conv=>whnf);refine ⟨rfl,?_⟩
     refine CW.ret ?_
     exact Post.one (RV.b rfl (by have ht : itemF none k.items = false := (by rw [← hs, hdj, itemF]; first | (simp_all [itemOk, prevO, prevS]; done) | grind [itemOk, prevO, prevS]); simp [keepOk, ht])) (AOs.a rfl AOs.e)
    ·skip
     refine CW.skip ?_
     refine CW.keep 107 [1,57,58,59] rfl ?_;(conv=>whnf);refine ⟨?_⟩
     refine CW.region ?_
     refine RW.v rfl (V.inc rfl rfl rfl hij hl2) ?_
     refine RW.k XK 107 1 rfl ?_
     (conv=>whnf);refine ⟨rfl,?_⟩
     refine RW.nil ?_
     exact ⟨j + 1, by omega, ⟨by omega, by rw [← hs, hdj, itemF, prevO_succ hej]; first | (simp_all [sessOk, itemOk, emp, prevO, prevGe, prevS]; done) | grind [sessOk, itemOk, emp, prevO, prevGe, prevS]⟩, rfl, Le.c rfl <| Le.c rfl <| Le.c rfl <| Le.c rfl <| Le.e⟩
  ·skip
   have hij : k.items.length ≤ j := by have := h17; simp at this; first | exact this | omega | (simp; done) | (simp; omega)
   have hdj : k.items.drop j = [] := List.drop_eq_nil_of_le hij
   refine CW.exit ?_
   refine CW.keep 107 [1] rfl ?_;(conv=>whnf);refine ⟨?_⟩
   refine CW.seqJ 107 (fun (v26 : Bool) => [(2, Bo v26)]) (fun v26 => v26 = (decide ((k.sessions.length : Int) ≤ 3) && decide ((k.items.length : Int) ≤ 8))) ?_ ?_
   ·refine CW.region ?_
    refine RW.k XK 107 5 rfl ?_
    (conv=>whnf);refine ⟨rfl,?_⟩
    refine RW.gv rfl rfl rfl rfl (fun h27 => V.fieldR rfl rfl rfl rfl (by decide) rfl (Nat.le_of_ble_eq_true rfl)) (fun h27 => ?_) (fun h27 => ?_)
    ·skip
     refine RW.k XK 107 5 rfl ?_
     (conv=>whnf);refine ⟨rfl,?_⟩
     refine RW.nil ?_
     exact ⟨_, by first | rfl | (simp_all; done) | (simp_all; omega) | grind, rfl, Le.of rfl⟩
    ·skip
     refine RW.k XK 107 5 rfl ?_
     (conv=>whnf);refine ⟨rfl,?_⟩
     refine RW.nil ?_
     exact ⟨_, by first | rfl | (simp_all; done) | (simp_all; omega) | grind, rfl, Le.of rfl⟩
   ·intro v26 hv28
    refine CW.ret ?_
    exact Post.one (RV.b rfl (by have ht : sessF none k.sessions = true := (by rw [← hr, hdi]; rfl); have hu : itemF none k.items = true := (by rw [← hs, hdj]; rfl); clear hr hs hdi hdj; first | (simp_all [keepOk]; done) | grind [keepOk])) (AOs.a rfl AOs.e)
set_option maxHeartbeats 4000000 in
theorem spec_l15Sessions_fn (a : List Session) : Eng.Fn E.P 71 [.one (.r (sl 3 Session.c a))] (.one (.one (.w (.v (.bool (sessF none a && decide ((a.length : Int) ≤ 3))))))) [.one (.r (sl 3 Session.c a))] := by
 refine Eng.Fn.intro (E := E) (rvs := [.tmp 2]) Tryd.func71 rfl rfl rfl (by simp [outSlots, moved, rvSlot, sl]) ?_
 intro B g bo
 refine CW.bound (x := .tmp 0) (n := a.length) (AsT.r) (fun hl0 => ?_)
 refine CW.keep 59 [0] rfl ?_;(conv=>whnf);refine ⟨?_⟩
 refine CW.k XK 59 1 [0] rfl ?_
 (conv=>whnf);refine ⟨rfl,?_⟩
 refine CW.seq ?_
 refine CW.k XK 59 1 [0,3] rfl ?_
 (conv=>whnf);refine ⟨rfl,?_⟩
 refine CW.block ?_
 refine CW.loopI 59 (fun (i : Nat) => [(0, .r (sl 3 Session.c a)), (3, I (i : Int))]) (fun (i : Nat) => i ≤ a.length ∧ sessF (prevO Session.token Session.z a i) (a.drop i) = sessF none a) (fun (i : Nat) => a.length - i) 0 rfl (Le.c rfl <| Le.c rfl <| Le.e) ⟨by omega, rfl⟩ ?_
 rintro i ⟨hb, hr⟩
 refine CW.seq ?_
 refine CW.k XK 59 1 [0,3,8] rfl ?_
 (conv=>whnf);refine ⟨rfl,?_⟩
 refine CW.cond rfl (fun h1 => ?_) (fun h1 => ?_)
 ·skip
  have hii : i < a.length := by have := h1; simp at this; first | exact this | omega | (simp; done) | (simp; omega)
  obtain ⟨ei, hei⟩ : ∃ e, a[i]? = some e := ⟨_, List.getElem?_eq_getElem hii⟩
  have hdi := drop_get hei
  refine CW.skip ?_
  refine CW.keep 59 [0,3] rfl ?_;(conv=>whnf);refine ⟨?_⟩
  refine CW.seq ?_
  refine CW.block ?_
  refine CW.seq ?_
  refine CW.region ?_
  refine RW.k XK 59 2 rfl ?_
  (conv=>whnf);refine ⟨rfl,?_⟩
  refine RW.v rfl (V.indexS rfl rfl rfl rfl rfl rfl Session.len hei) ?_
  refine RW.k XK 59 3 rfl ?_
  (conv=>whnf);intro b2;(conv=>whnf);refine ⟨rfl,?_⟩
  refine RW.freezeB (ts := (Session.c ei)) 4 rfl (DRd.r (DRd.r (DRd.r DRd.e))) ?_
  refine RW.nil ?_
  refine CW.keep 59 [0,3,4] rfl ?_;(conv=>whnf);refine ⟨?_⟩
  refine CW.seqJ 59 (fun (v3 : Bool) => [(0, .r (sl 3 Session.c a)), (3, I (i : Int)), (55, Bo v3)]) (fun v3 => v3 = (((((!(inR ei.token 1 1000000)) || (decide ((i : Int) > 0) && decide ((a.getD (i - 1) Session.z).token ≥ ei.token))) || (!(inR ei.last 0 1000000))) || decide ((ei.reply.size : Int) > 40)) || ((ei.last == 0) && (!(ei.reply.toList == (⟨#[]⟩ : ByteArray).toList))))) ?_ ?_
  ·refine CW.drawn (by kernel_rfl) ?_
   refine RQ.k XK 59 2 rfl ?_
   (conv=>whnf);refine ⟨rfl,?_⟩
   refine RQ.cons rfl (QOK.call (spec_l01In_fn ei.token 1 1000000) rfl (.cons (.one (.r .r)) (.cons (.one (.r .r)) (.cons (.one (.r .r)) (.nil)))) ?_)
   refine RQ.k XK 59 2 rfl ?_
   (conv=>whnf);refine ⟨rfl,?_⟩
   refine RQ.gv rfl rfl rfl rfl (fun h4 => V.mv (d := I (i : Int)) rfl rfl) (fun h4 => ?_) (fun h4 => ?_)
   ·skip
    refine RQ.k XK 59 2 rfl ?_
    (conv=>whnf);refine ⟨rfl,?_⟩
    refine RQ.gv rfl rfl rfl rfl (fun h5 => V.mv (d := .r (sl 3 Session.c a)) rfl rfl) (fun h5 => ?_) (fun h5 => ?_)
    ·skip
     refine RQ.k XK 59 1 rfl ?_
     (conv=>whnf);refine ⟨rfl,?_⟩
     refine RQ.gt rfl rfl rfl rfl (V.dec (m := i) rfl rfl rfl (by have := h5; simp at this; omega) (by omega)) ?_
     refine RQ.gt rfl rfl rfl rfl (V.indexS rfl rfl rfl rfl rfl rfl Session.len (getD_some (l := a) (j := i - 1) (z := Session.z) (by omega))) ?_
     refine RQ.k XK 59 8 rfl ?_
     (conv=>whnf);refine ⟨rfl,?_⟩
     refine RQ.gv rfl rfl rfl rfl (fun h6 => V.fieldR rfl rfl rfl rfl (by decide) rfl (Nat.le_of_ble_eq_true rfl)) (fun h6 => ?_) (fun h6 => ?_)
     ·skip
      refine RQ.k XK 59 1 rfl ?_
      (conv=>whnf);refine ⟨rfl,?_⟩
      refine RQ.guardT rfl rfl rfl rfl (QOK.call (spec_l01In_fn ei.last 0 1000000) rfl (.cons (.one (.r .r)) (.cons (.one (.r .r)) (.cons (.one (.r .r)) (.nil)))) ?_)
      refine RQ.k XK 59 3 rfl ?_
      (conv=>whnf);refine ⟨rfl,?_⟩
      refine RQ.gv rfl rfl rfl rfl (fun h7 => V.fieldR rfl rfl rfl rfl (by decide) rfl (Nat.le_of_ble_eq_true rfl)) (fun h7 => ?_) (fun h7 => ?_)
      ·skip
       refine RQ.k XK 59 5 rfl ?_
       (conv=>whnf);refine ⟨rfl,?_⟩
       refine RQ.gv rfl rfl rfl rfl (fun h8 => V.fieldR rfl rfl rfl rfl (by decide) rfl (Nat.le_of_ble_eq_true rfl)) (fun h8 => ?_) (fun h8 => ?_)
       ·skip
        refine RQ.k XK 59 3 rfl ?_
        (conv=>whnf);refine ⟨rfl,?_⟩
        refine RQ.gv rfl rfl rfl rfl (fun h9 => V.fieldR rfl rfl rfl rfl (by decide) rfl (Nat.le_of_ble_eq_true rfl)) (fun h9 => ?_) (fun h9 => ?_)
        ·skip
         refine RQ.k XK 59 4 rfl ?_
         (conv=>whnf);refine ⟨rfl,?_⟩
         refine RQ.nil ?_
         exact ⟨_, by (try clear hr hdi); first | rfl | (simp_all; done) | (simp_all; omega) | grind, rfl, Le.of rfl⟩
        ·skip
         refine RQ.k XK 59 4 rfl ?_
         (conv=>whnf);refine ⟨rfl,?_⟩
         refine RQ.nil ?_
         exact ⟨_, by (try clear hr hdi); first | rfl | (simp_all; done) | (simp_all; omega) | grind, rfl, Le.of rfl⟩
       ·skip
        refine RQ.k XK 59 8 rfl ?_
        (conv=>whnf);refine ⟨rfl,?_⟩
        refine RQ.nil ?_
        exact ⟨_, by (try clear hr hdi); first | rfl | (simp_all; done) | (simp_all; omega) | grind, rfl, Le.of rfl⟩
      ·skip
       refine RQ.k XK 59 14 rfl ?_
       (conv=>whnf);refine ⟨rfl,?_⟩
       refine RQ.nil ?_
       exact ⟨_, by (try clear hr hdi); first | rfl | (simp_all; done) | (simp_all; omega) | grind, rfl, Le.of rfl⟩
     ·skip
      refine RQ.k XK 59 20 rfl ?_
      (conv=>whnf);refine ⟨rfl,?_⟩
      refine RQ.nil ?_
      exact ⟨_, by (try clear hr hdi); first | rfl | (simp_all; done) | (simp_all; omega) | grind, rfl, Le.of rfl⟩
    ·skip
     refine RQ.k XK 59 13 rfl ?_
     (conv=>whnf);refine ⟨rfl,?_⟩
     refine RQ.guardT rfl rfl rfl rfl (QOK.call (spec_l01In_fn ei.last 0 1000000) rfl (.cons (.one (.r .r)) (.cons (.one (.r .r)) (.cons (.one (.r .r)) (.nil)))) ?_)
     refine RQ.k XK 59 3 rfl ?_
     (conv=>whnf);refine ⟨rfl,?_⟩
     refine RQ.gv rfl rfl rfl rfl (fun h10 => V.fieldR rfl rfl rfl rfl (by decide) rfl (Nat.le_of_ble_eq_true rfl)) (fun h10 => ?_) (fun h10 => ?_)
     ·skip
      refine RQ.k XK 59 5 rfl ?_
      (conv=>whnf);refine ⟨rfl,?_⟩
      refine RQ.gv rfl rfl rfl rfl (fun h11 => V.fieldR rfl rfl rfl rfl (by decide) rfl (Nat.le_of_ble_eq_true rfl)) (fun h11 => ?_) (fun h11 => ?_)
      ·skip
       refine RQ.k XK 59 3 rfl ?_
       (conv=>whnf);refine ⟨rfl,?_⟩
       refine RQ.gv rfl rfl rfl rfl (fun h12 => V.fieldR rfl rfl rfl rfl (by decide) rfl (Nat.le_of_ble_eq_true rfl)) (fun h12 => ?_) (fun h12 => ?_)
       ·skip
        refine RQ.k XK 59 4 rfl ?_
        (conv=>whnf);refine ⟨rfl,?_⟩
        refine RQ.nil ?_
        exact ⟨_, by (try clear hr hdi); first | rfl | (simp_all; done) | (simp_all; omega) | grind, rfl, Le.of rfl⟩
       ·skip
        refine RQ.k XK 59 4 rfl ?_
        (conv=>whnf);refine ⟨rfl,?_⟩
        refine RQ.nil ?_
        exact ⟨_, by (try clear hr hdi); first | rfl | (simp_all; done) | (simp_all; omega) | grind, rfl, Le.of rfl⟩
      ·skip
       refine RQ.k XK 59 8 rfl ?_
       (conv=>whnf);refine ⟨rfl,?_⟩
       refine RQ.nil ?_
       exact ⟨_, by (try clear hr hdi); first | rfl | (simp_all; done) | (simp_all; omega) | grind, rfl, Le.of rfl⟩
     ·skip
      refine RQ.k XK 59 14 rfl ?_
      (conv=>whnf);refine ⟨rfl,?_⟩
      refine RQ.nil ?_
      exact ⟨_, by (try clear hr hdi); first | rfl | (simp_all; done) | (simp_all; omega) | grind, rfl, Le.of rfl⟩
   ·skip
    refine RQ.k XK 59 35 rfl ?_
    (conv=>whnf);refine ⟨rfl,?_⟩
    refine RQ.nil ?_
    exact ⟨_, by (try clear hr hdi); first | rfl | (simp_all; done) | (simp_all; omega) | grind, rfl, Le.of rfl⟩
  ·intro v3 hv13
   refine CW.cond rfl (fun h14 => ?_) (fun h14 => ?_)
   ·skip
    refine CW.k XK 59 1 [2] rfl ?_
    (conv=>whnf);refine ⟨rfl,?_⟩
    refine CW.ret ?_
    exact Post.one (RV.b rfl (by have ht : sessF none a = false := (by rw [← hr, hdi, sessF]; first | (simp_all [sessOk, emp, prevO, prevGe]; done) | grind [sessOk, emp, prevO, prevGe]); simp [ht])) (AOs.r AOs.e)
   ·skip
    refine CW.skip ?_
    refine CW.keep 59 [0,3] rfl ?_;(conv=>whnf);refine ⟨?_⟩
    refine CW.region ?_
    refine RW.k XK 59 1 rfl ?_
    (conv=>whnf);refine ⟨rfl,?_⟩
    refine RW.v rfl (V.inc rfl rfl rfl hii hl0) ?_
    refine RW.k XK 59 1 rfl ?_
    (conv=>whnf);refine ⟨rfl,?_⟩
    refine RW.nil ?_
    exact ⟨i + 1, by omega, ⟨by omega, by rw [← hr, hdi, sessF, prevO_succ hei]; first | (simp_all [sessOk, emp, prevO, prevGe]; done) | grind [sessOk, emp, prevO, prevGe]⟩, rfl, Le.c rfl <| Le.c rfl <| Le.e⟩
 ·skip
  have hii : a.length ≤ i := by have := h1; simp at this; first | exact this | omega | (simp; done) | (simp; omega)
  have hdi : a.drop i = [] := List.drop_eq_nil_of_le hii
  refine CW.exit ?_
  refine CW.keep 59 [0] rfl ?_;(conv=>whnf);refine ⟨?_⟩
  refine CW.k XK 59 1 [2] rfl ?_
  (conv=>whnf);refine ⟨rfl,?_⟩
  refine CW.ret ?_
  exact Post.one (RV.b rfl (by have ht : sessF none a = true := (by rw [← hr, hdi]; rfl); simp [ht])) (AOs.r AOs.e)
set_option maxHeartbeats 4000000 in
theorem spec_KeepOk_fn (k : Keep) (hok : okToKeep k) : Eng.Fn E.P 36 [.agg ((Keep.c k).map .r)] (.one (.one (.w (.v (.bool (keepOk k)))))) [.agg ((Keep.c k).map .r)] := by
 refine Eng.Fn.intro (E := E) (rvs := [.tmp 2]) Tryd.func36 rfl rfl rfl (by simp [outSlots, moved, rvSlot, sl]) ?_
 intro B g bo
 refine CW.keep 59 [0] rfl ?_;(conv=>whnf);refine ⟨?_⟩
 have hl1 : k.sessions.length ≤ maxLen := by have := hok.1.1; simp only [maxLen]; omega
 have hl2 : k.items.length ≤ maxLen := by have := hok.2.1; simp only [maxLen]; omega
 refine CW.seq ?_
 refine CW.region ?_
 refine RW.k XK 59 1 rfl ?_
 (conv=>whnf);intro b1;(conv=>whnf);refine ⟨rfl,?_⟩
 refine RW.freezeB (ts := (Keep.c k)) 1 rfl (DRd.r (DRd.r DRd.e)) ?_
 refine RW.k XK 59 1 rfl ?_
 (conv=>whnf);refine ⟨rfl,?_⟩
 refine RW.nil ?_
 refine CW.keep 59 [1] rfl ?_;(conv=>whnf);refine ⟨?_⟩
 refine CW.seq ?_
 refine CW.k XK 59 1 [1,3] rfl ?_
 (conv=>whnf);refine ⟨rfl,?_⟩
 refine CW.block ?_
 refine CW.loopI 59 (fun (i : Nat) => [(1, .rp (Keep.c k)), (3, I (i : Int))]) (fun (i : Nat) => i ≤ k.items.length ∧ itemF (prevO Item.key Item.z k.items i) (k.items.drop i) = itemF none k.items) (fun (i : Nat) => k.items.length - i) 0 rfl (Le.c rfl <| Le.c rfl <| Le.e) ⟨by omega, rfl⟩ ?_
 rintro i ⟨hb, hr⟩
 refine CW.seq ?_
 refine CW.k XK 59 1 [1,3,9] rfl ?_
 (conv=>whnf);refine ⟨rfl,?_⟩
 refine CW.cond rfl (fun h2 => ?_) (fun h2 => ?_)
 ·skip
  have hii : i < k.items.length := by have := h2; simp at this; first | exact this | omega | (simp; done) | (simp; omega)
  obtain ⟨ei, hei⟩ : ∃ e, k.items[i]? = some e := ⟨_, List.getElem?_eq_getElem hii⟩
  have hdi := drop_get hei
  refine CW.skip ?_
  refine CW.keep 59 [1,3] rfl ?_;(conv=>whnf);refine ⟨?_⟩
  refine CW.seq ?_
  refine CW.block ?_
  refine CW.seq ?_
  refine CW.region ?_
  refine RW.k XK 59 3 rfl ?_
  (conv=>whnf);refine ⟨rfl,?_⟩
  refine RW.v rfl (V.indexS rfl rfl rfl rfl rfl rfl Item.len hei) ?_
  refine RW.k XK 59 3 rfl ?_
  (conv=>whnf);intro b3;(conv=>whnf);refine ⟨rfl,?_⟩
  refine RW.freezeB (ts := (Item.c ei)) 4 rfl (DRd.r (DRd.r (DRd.r DRd.e))) ?_
  refine RW.nil ?_
  refine CW.keep 59 [1,3,4] rfl ?_;(conv=>whnf);refine ⟨?_⟩
  refine CW.seqJ 59 (fun (v4 : Bool) => [(1, .rp (Keep.c k)), (3, I (i : Int)), (49, Bo v4)]) (fun v4 => v4 = ((((!(inR (ei.key.size : Int) 1 8)) || (decide ((i : Int) > 0) && (!(Op.bytesLess ((k.items.getD (i - 1) Item.z).key).toList ei.key.toList)))) || decide ((ei.val.size : Int) > 20)) || (!(inR ei.ver 1 1000000000)))) ?_ ?_
  ·refine CW.drawn (by kernel_rfl) ?_
   refine RQ.k XK 59 3 rfl ?_
   (conv=>whnf);refine ⟨rfl,?_⟩
   refine RQ.cons rfl (QOK.call (spec_l01In_fn (ei.key.size : Int) 1 8) rfl (.cons (.one (.r .r)) (.cons (.one (.r .r)) (.cons (.one (.r .r)) (.nil)))) ?_)
   refine RQ.k XK 59 2 rfl ?_
   (conv=>whnf);refine ⟨rfl,?_⟩
   refine RQ.gv rfl rfl rfl rfl (fun h5 => V.mv (d := I (i : Int)) rfl rfl) (fun h5 => ?_) (fun h5 => ?_)
   ·skip
    refine RQ.k XK 59 2 rfl ?_
    (conv=>whnf);refine ⟨rfl,?_⟩
    refine RQ.gv rfl rfl rfl rfl (fun h6 => V.fieldR rfl rfl rfl rfl (by decide) rfl (Nat.le_of_ble_eq_true rfl)) (fun h6 => ?_) (fun h6 => ?_)
    ·skip
     refine RQ.k XK 59 2 rfl ?_
     (conv=>whnf);refine ⟨rfl,?_⟩
     refine RQ.gt rfl rfl rfl rfl (V.dec (m := i) rfl rfl rfl (by have := h6; simp at this; omega) (by omega)) ?_
     refine RQ.gt rfl rfl rfl rfl (V.indexS rfl rfl rfl rfl rfl rfl Item.len (getD_some (l := k.items) (j := i - 1) (z := Item.z) (by omega))) ?_
     refine RQ.k XK 59 8 rfl ?_
     (conv=>whnf);refine ⟨rfl,?_⟩
     refine RQ.gv rfl rfl rfl rfl (fun h7 => V.fieldR rfl rfl rfl rfl (by decide) rfl (Nat.le_of_ble_eq_true rfl)) (fun h7 => ?_) (fun h7 => ?_)
     ·skip
      refine RQ.k XK 59 5 rfl ?_
      (conv=>whnf);refine ⟨rfl,?_⟩
      refine RQ.gv rfl rfl rfl rfl (fun h8 => V.fieldR rfl rfl rfl rfl (by decide) rfl (Nat.le_of_ble_eq_true rfl)) (fun h8 => ?_) (fun h8 => ?_)
      ·skip
       refine RQ.k XK 59 1 rfl ?_
       (conv=>whnf);refine ⟨rfl,?_⟩
       refine RQ.guardT rfl rfl rfl rfl (QOK.call (spec_l01In_fn ei.ver 1 1000000000) rfl (.cons (.one (.r .r)) (.cons (.one (.r .r)) (.cons (.one (.r .r)) (.nil)))) ?_)
       refine RQ.k XK 59 2 rfl ?_
       (conv=>whnf);refine ⟨rfl,?_⟩
       refine RQ.nil ?_
       exact ⟨_, by (try clear hr hdi); first | rfl | (simp_all; done) | (simp_all; omega) | grind, rfl, Le.of rfl⟩
      ·skip
       refine RQ.k XK 59 4 rfl ?_
       (conv=>whnf);refine ⟨rfl,?_⟩
       refine RQ.nil ?_
       exact ⟨_, by (try clear hr hdi); first | rfl | (simp_all; done) | (simp_all; omega) | grind, rfl, Le.of rfl⟩
     ·skip
      refine RQ.k XK 59 10 rfl ?_
      (conv=>whnf);refine ⟨rfl,?_⟩
      refine RQ.nil ?_
      exact ⟨_, by (try clear hr hdi); first | rfl | (simp_all; done) | (simp_all; omega) | grind, rfl, Le.of rfl⟩
    ·skip
     refine RQ.k XK 59 18 rfl ?_
     (conv=>whnf);refine ⟨rfl,?_⟩
     refine RQ.gv rfl rfl rfl rfl (fun h9 => V.fieldR rfl rfl rfl rfl (by decide) rfl (Nat.le_of_ble_eq_true rfl)) (fun h9 => ?_) (fun h9 => ?_)
     ·skip
      refine RQ.k XK 59 1 rfl ?_
      (conv=>whnf);refine ⟨rfl,?_⟩
      refine RQ.guardT rfl rfl rfl rfl (QOK.call (spec_l01In_fn ei.ver 1 1000000000) rfl (.cons (.one (.r .r)) (.cons (.one (.r .r)) (.cons (.one (.r .r)) (.nil)))) ?_)
      refine RQ.k XK 59 2 rfl ?_
      (conv=>whnf);refine ⟨rfl,?_⟩
      refine RQ.nil ?_
      exact ⟨_, by (try clear hr hdi); first | rfl | (simp_all; done) | (simp_all; omega) | grind, rfl, Le.of rfl⟩
     ·skip
      refine RQ.k XK 59 4 rfl ?_
      (conv=>whnf);refine ⟨rfl,?_⟩
      refine RQ.nil ?_
      exact ⟨_, by (try clear hr hdi); first | rfl | (simp_all; done) | (simp_all; omega) | grind, rfl, Le.of rfl⟩
   ·skip
    refine RQ.k XK 59 26 rfl ?_
    (conv=>whnf);refine ⟨rfl,?_⟩
    refine RQ.nil ?_
    exact ⟨_, by (try clear hr hdi); first | rfl | (simp_all; done) | (simp_all; omega) | grind, rfl, Le.of rfl⟩
  ·intro v4 hv10
   refine CW.cond rfl (fun h11 => ?_) (fun h11 => ?_)
   ·skip
    refine CW.k XK 59 1 [2] rfl ?_
    (conv=>whnf);refine ⟨rfl,?_⟩
    refine CW.ret ?_
    exact Post.one (RV.b rfl (by have ht : itemF none k.items = false := (by rw [← hr, hdi, itemF]; first | (simp_all [itemOk, prevO, prevS]; done) | grind [itemOk, prevO, prevS]); simp [keepOk, ht])) (AOs.a rfl AOs.e)
   ·skip
    refine CW.skip ?_
    refine CW.keep 59 [1,3] rfl ?_;(conv=>whnf);refine ⟨?_⟩
    refine CW.region ?_
    refine RW.k XK 59 1 rfl ?_
    (conv=>whnf);refine ⟨rfl,?_⟩
    refine RW.v rfl (V.inc rfl rfl rfl hii hl2) ?_
    refine RW.k XK 59 1 rfl ?_
    (conv=>whnf);refine ⟨rfl,?_⟩
    refine RW.nil ?_
    exact ⟨i + 1, by omega, ⟨by omega, by rw [← hr, hdi, itemF, prevO_succ hei]; first | (simp_all [sessOk, itemOk, emp, prevO, prevGe, prevS]; done) | grind [sessOk, itemOk, emp, prevO, prevGe, prevS]⟩, rfl, Le.c rfl <| Le.c rfl <| Le.e⟩
 ·skip
  have hii : k.items.length ≤ i := by have := h2; simp at this; first | exact this | omega | (simp; done) | (simp; omega)
  have hdi : k.items.drop i = [] := List.drop_eq_nil_of_le hii
  refine CW.exit ?_
  refine CW.keep 59 [1] rfl ?_;(conv=>whnf);refine ⟨?_⟩
  refine CW.seqJ 59 (fun (v12 : Bool) => [(2, Bo v12)]) (fun v12 => v12 = ((sessF none k.sessions && decide ((k.sessions.length : Int) ≤ 3)) && decide ((k.items.length : Int) ≤ 8))) ?_ ?_
  ·refine CW.region ?_
   refine RW.k XK 59 2 rfl ?_
   (conv=>whnf);refine ⟨rfl,?_⟩
   refine RW.call rfl (spec_l15Sessions_fn k.sessions) rfl (.cons (.one (.r .r)) (.nil)) fun g13 => ?_
   refine RW.k XK 59 1 rfl ?_
   (conv=>whnf);refine ⟨rfl,?_⟩
   refine RW.gv rfl rfl rfl rfl (fun h14 => V.fieldR rfl rfl rfl rfl (by decide) rfl (Nat.le_of_ble_eq_true rfl)) (fun h14 => ?_) (fun h14 => ?_)
   ·skip
    refine RW.k XK 59 5 rfl ?_
    (conv=>whnf);refine ⟨rfl,?_⟩
    refine RW.nil ?_
    exact ⟨_, by (try clear hr hdi); first | rfl | (simp_all; done) | (simp_all; omega) | grind, rfl, Le.of rfl⟩
   ·skip
    refine RW.k XK 59 5 rfl ?_
    (conv=>whnf);refine ⟨rfl,?_⟩
    refine RW.nil ?_
    exact ⟨_, by (try clear hr hdi); first | rfl | (simp_all; done) | (simp_all; omega) | grind, rfl, Le.of rfl⟩
  ·intro v12 hv15
   refine CW.ret ?_
   exact Post.one (RV.b rfl (by have hu : itemF none k.items = true := (by rw [← hr, hdi]; rfl); clear hr hdi; first | (simp_all [keepOk]; done) | grind [keepOk])) (AOs.a rfl AOs.e)
set_option maxHeartbeats 4000000 in
theorem spec_l01Figure_fn (d : Int) (hd : d < 10) : Eng.Fn E.P 72 [.one (.r (.v (.int .i64 d)))] (.one (.one (.w (.v (.int .u8 (IntKind.u8.wrap (IntKind.i64.wrap (48 + d)))))))) [.one (.r (.v (.int .i64 d)))] := by
 refine Eng.Fn.intro (E := E) (rvs := [.tmp 2]) Tryd.func72 rfl rfl rfl (by simp [outSlots, moved, rvSlot, sl]) ?_
 intro B g bo
 refine CW.keep 12 [0] rfl ?_;(conv=>whnf);refine ⟨?_⟩
 refine CW.k XK 12 1 [0] rfl ?_
 (conv=>whnf);refine ⟨rfl,?_⟩
 refine CW.seq ?_
 refine CW.k XK 12 1 [0,4] rfl ?_
 (conv=>whnf);refine ⟨rfl,?_⟩
 refine CW.cond rfl (fun h1 => ?_) (fun h1 => ?_)
 ·skip
  refine CW.k XK 12 1 [2] rfl ?_
  (conv=>whnf);refine ⟨rfl,?_⟩
  refine CW.ret ?_
  exact Post.one (RV.v rfl (by rfl)) (AOs.r AOs.e)
 ·skip
  refine CW.skip ?_
  refine CW.keep 12 [0] rfl ?_;(conv=>whnf);refine ⟨?_⟩
  refine CW.k XK 12 1 [2] rfl ?_
  (conv=>whnf);refine ⟨rfl,?_⟩
  refine CW.ret ?_
  exact Post.one (RV.v rfl (by exfalso; simp at h1; omega)) (AOs.r AOs.e)
set_option maxHeartbeats 4000000 in
theorem spec_Decimal_fn (n : Int) (hn : 0 ≤ n ∧ n ≤ 9223372036854775807) : Eng.Fn E.P 37 [.one (.r (.v (.int .i64 n)))] (.one (.one (.w (.v (.string (itoaB n)))))) [.one (.r (.v (.int .i64 n)))] := by
 refine Eng.Fn.intro (E := E) (rvs := [.tmp 2]) Tryd.func37 rfl rfl rfl (by simp [outSlots, moved, rvSlot, sl]) ?_
 intro B g bo
 refine CW.keep 30 [0] rfl ?_;(conv=>whnf);refine ⟨?_⟩
 refine CW.k XK 30 1 [0] rfl ?_
 (conv=>whnf);refine ⟨rfl,?_⟩
 refine CW.seq ?_
 refine CW.k XK 30 1 [0,7] rfl ?_
 (conv=>whnf);refine ⟨rfl,?_⟩
 refine CW.cond rfl (fun h1 => ?_) (fun h1 => ?_)
 ·skip
  refine CW.k XK 30 1 [2] rfl ?_
  (conv=>whnf);refine ⟨rfl,?_⟩
  refine CW.ret ?_
  exact Post.one (RV.s rfl (by rw [show n = 0 by simpa using h1]; exact itoa_zero.symm)) (AOs.r AOs.e)
 ·skip
  refine CW.skip ?_
  refine CW.keep 30 [0] rfl ?_;(conv=>whnf);refine ⟨?_⟩
  refine CW.k XK 30 2 [0,3,4] rfl ?_
  (conv=>whnf);refine ⟨rfl,?_⟩
  refine CW.seq ?_
  refine CW.block ?_
  refine CW.loopI 30 (fun (zz : Int × ByteArray) => match zz with | (m, s) => [(0, I m), (3, Bo (decide (n < 0))), (4, S s)]) (fun (zz : Int × ByteArray) => match zz with | (m, s) => 0 ≤ m ∧ s.size ≤ 60 ∧ m * 10 ^ s.size ≤ 9223372036854775807 ∧ dgs m.toNat s = dgs n.toNat ⟨#[]⟩) (fun (zz : Int × ByteArray) => match zz with | (m, s) => m.toNat) (_, _) rfl (Le.c rfl <| Le.c rfl <| Le.c rfl <| Le.e) ⟨hn.1, by decide, by show n * 10 ^ 0 ≤ _; omega, rfl⟩ ?_
  rintro ⟨m, s⟩ ⟨h0, hs, hp, hr⟩
  refine CW.seq ?_
  refine CW.k XK 30 1 [0,3,4,11] rfl ?_
  (conv=>whnf);refine ⟨rfl,?_⟩
  refine CW.cond rfl (fun h2 => ?_) (fun h2 => ?_)
  ·skip
   have h2p : decide (m > 0) = true := by simp at h2 ⊢; omega
   refine CW.skip ?_
   refine CW.keep 30 [0,3,4] rfl ?_;(conv=>whnf);refine ⟨?_⟩
   refine CW.block ?_
   refine CW.k XK 30 1 [0,3,4,5] rfl ?_
   (conv=>whnf);refine ⟨rfl,?_⟩
   refine CW.seq ?_
   refine CW.k XK 30 1 [0,3,4,5,15] rfl ?_
   (conv=>whnf);refine ⟨rfl,?_⟩
   refine CW.cond rfl (fun h3 => ?_) (fun h3 => ?_)
   ·skip
    exact absurd (Int.tmod_nonneg 10 h0) (by simpa using h3)
   ·skip
    refine CW.skip ?_
    refine CW.keep 30 [0,3,4,5] rfl ?_;(conv=>whnf);refine ⟨?_⟩
    refine CW.seq ?_
    refine CW.region ?_
    refine RW.k XK 30 1 rfl ?_
    (conv=>whnf);refine ⟨rfl,?_⟩
    refine RW.call rfl (spec_l01Figure_fn (Int.tmod m 10) (Int.tmod_lt_of_pos m (by omega))) rfl (.cons (.one (.r .r)) (.nil)) fun g4 => ?_
    refine RW.build1c (c := cU) (v := (IntKind.u8.wrap (IntKind.i64.wrap (48 + (Int.tmod m 10))))) (u := .v (.int .u8 (IntKind.u8.wrap (IntKind.i64.wrap (48 + (Int.tmod m 10)))))) rfl rfl rfl rfl rfl rfl (.inl rfl) rfl rfl fun X5 => ?_
    refine RW.v rfl (V.bytesStr (l := [(IntKind.u8.wrap (IntKind.i64.wrap (48 + (Int.tmod m 10))))]) rfl rfl rfl (by kernel_rfl) (by kernel_rfl) (.al (k := none) (i := 20) (sz := 1) (V := X5) rfl rfl nofun)) ?_
    refine RW.k XK 30 1 rfl ?_
    (conv=>whnf);refine ⟨rfl,?_⟩
    refine RW.v rfl (V.cat rfl rfl rfl (by simp only [bytesOf_one, maxLen]; first | omega | (show 1 + s.size ≤ _; omega))) ?_
    refine RW.k XK 30 1 rfl ?_
    (conv=>whnf);refine ⟨rfl,?_⟩
    refine RW.nil ?_
    refine CW.keep 30 [0,3,4] rfl ?_;(conv=>whnf);refine ⟨?_⟩
    refine CW.region ?_
    refine RW.k XK 30 3 rfl ?_
    (conv=>whnf);refine ⟨rfl,?_⟩
    refine RW.nil ?_
    exact ⟨(_, _), by have := mt_dec h0 hp h2p; simp only []; omega, mt_step h0 hp hr h2p, rfl, Le.c rfl <| Le.c rfl <| Le.c rfl <| Le.e⟩
  ·skip
   refine CW.exit ?_
   refine CW.keep 30 [3,4] rfl ?_;(conv=>whnf);refine ⟨?_⟩
   refine CW.seq ?_
   refine CW.k XK 30 1 [4,26] rfl ?_
   (conv=>whnf);refine ⟨rfl,?_⟩
   refine CW.cond rfl (fun h6 => ?_) (fun h6 => ?_)
   ·skip
    refine CW.seq ?_
    refine CW.region ?_
    refine RW.k XK 30 1 rfl ?_
    (conv=>whnf);refine ⟨rfl,?_⟩
    refine RW.v rfl (V.cat rfl rfl rfl (by simp only [bytesOf_one, maxLen]; first | omega | (show 1 + s.size ≤ _; omega))) ?_
    refine RW.k XK 30 1 rfl ?_
    (conv=>whnf);refine ⟨rfl,?_⟩
    refine RW.nil ?_
    refine CW.keep 30 [2] rfl ?_;(conv=>whnf);refine ⟨?_⟩
    refine CW.ret ?_
    exact Post.one (RV.s rfl (by exfalso; simp_all; omega)) (AOs.r AOs.e)
   ·skip
    refine CW.skip ?_
    refine CW.keep 30 [4] rfl ?_;(conv=>whnf);refine ⟨?_⟩
    refine CW.k XK 30 1 [2] rfl ?_
    (conv=>whnf);refine ⟨rfl,?_⟩
    refine CW.ret ?_
    exact Post.one (RV.s rfl (by rw [itoa_pos (by simp at h1; omega), ← hr, dgs, dif_pos (by simp at h2; omega)])) (AOs.r AOs.e)
set_option maxHeartbeats 4000000 in
theorem impl_ShowKeep_fn (k : Keep) (hok : okToKeep k) : Eng.Fn E.P 12 [.agg ((Keep.c k).map .r)] (.one (.one (.w (.v (.string (showK k)))))) [.agg ((Keep.c k).map .r)] := by
 refine Eng.Fn.intro (E := E) (rvs := [.tmp 2]) Tryd.func12 rfl rfl rfl (by simp [outSlots, moved, rvSlot, sl]) ?_
 intro B g bo
 refine CW.keep 33 [0] rfl ?_;(conv=>whnf);refine ⟨?_⟩
 have hl1 : k.sessions.length ≤ maxLen := by have := hok.1.1; simp only [maxLen]; omega
 have hl2 : k.items.length ≤ maxLen := by have := hok.2.1; simp only [maxLen]; omega
 refine CW.seq ?_
 refine CW.region ?_
 refine RW.k XK 33 1 rfl ?_
 (conv=>whnf);intro b1;(conv=>whnf);refine ⟨rfl,?_⟩
 refine RW.freezeB (ts := (Keep.c k)) 1 rfl (DRd.r (DRd.r DRd.e)) ?_
 refine RW.k XK 33 1 rfl ?_
 (conv=>whnf);refine ⟨rfl,?_⟩
 refine RW.nil ?_
 refine CW.keep 33 [1] rfl ?_;(conv=>whnf);refine ⟨?_⟩
 refine CW.k XK 33 1 [1,3] rfl ?_
 (conv=>whnf);refine ⟨rfl,?_⟩
 refine CW.seq ?_
 refine CW.seq ?_
 refine CW.region ?_
 refine RW.k XK 33 1 rfl ?_
 (conv=>whnf);refine ⟨rfl,?_⟩
 refine RW.call rfl (impl_KeepOk_fn k hok) rfl (.cons (.agg (.cons (.r .r) (.cons (.r .r) (.nil)))) (.nil)) fun g2 => ?_
 refine RW.k XK 33 1 rfl ?_
 (conv=>whnf);refine ⟨rfl,?_⟩
 refine RW.nil ?_
 refine CW.keep 33 [1,3,8] rfl ?_;(conv=>whnf);refine ⟨?_⟩
 refine CW.cond rfl (fun h3 => ?_) (fun h3 => ?_)
 ·skip
  refine CW.k XK 33 1 [2] rfl ?_
  (conv=>whnf);refine ⟨rfl,?_⟩
  refine CW.ret ?_
  exact Post.one (RV.s rfl (by simp_all [showK])) (AOs.a rfl AOs.e)
 ·skip
  have hko : keepOk k = true := by simpa using h3
  have hlen := keepOk_len hko
  have hits := keepOk_it hko
  refine CW.skip ?_
  refine CW.keep 33 [1,3] rfl ?_;(conv=>whnf);refine ⟨?_⟩
  refine CW.seq ?_
  refine CW.k XK 33 1 [3,11,12,13] rfl ?_
  (conv=>whnf);refine ⟨rfl,?_⟩
  refine CW.block ?_
  refine CW.loopI 33 (fun (zz : Nat × ByteArray) => match zz with | (i, s) => [(3, S s), (11, .r (sl 3 Item.c k.items)), (12, I (k.items.length : Int)), (13, I (i : Int))]) (fun (zz : Nat × ByteArray) => match zz with | (i, s) => i ≤ k.items.length ∧ s.size ≤ i * 41 ∧ s = showL (k.items.take i)) (fun (zz : Nat × ByteArray) => match zz with | (i, s) => k.items.length - i) (0, _) rfl (Le.c rfl <| Le.c rfl <| Le.c rfl <| Le.c rfl <| Le.e) ⟨by omega, by decide, rfl⟩ ?_
  rintro ⟨i, s⟩ ⟨hb, hs, hr⟩
  refine CW.k XK 33 1 [3,11,12,13,14] rfl ?_
  (conv=>whnf);refine ⟨rfl,?_⟩
  refine CW.seq ?_
  refine CW.cond rfl (fun h4 => ?_) (fun h4 => ?_)
  ·skip
   have hii : i < k.items.length := by have := h4; simp at this; first | exact this | omega | (simp; done) | (simp; omega)
   obtain ⟨ei, hei⟩ : ∃ e, k.items[i]? = some e := ⟨_, List.getElem?_eq_getElem hii⟩
   have hdi := drop_get hei
   have hit := hits ei (List.mem_of_getElem? hei)
   have hll := line_len hit
   have hq1 := hit.len
   have hq2 := hit.k8
   have hq3 := hit.v
   refine CW.skip ?_
   refine CW.keep 33 [3,11,12,13] rfl ?_;(conv=>whnf);refine ⟨?_⟩
   refine CW.seq ?_
   refine CW.block ?_
   refine CW.seq ?_
   refine CW.region ?_
   refine RW.v rfl (V.indexS rfl rfl rfl rfl rfl rfl Item.len hei) ?_
   refine RW.k XK 33 3 rfl ?_
   (conv=>whnf);intro b5;(conv=>whnf);refine ⟨rfl,?_⟩
   refine RW.freezeB (ts := (Item.c ei)) 5 rfl (DRd.r (DRd.r (DRd.r DRd.e))) ?_
   refine RW.nil ?_
   refine CW.keep 33 [3,5,11,12,13] rfl ?_;(conv=>whnf);refine ⟨?_⟩
   refine CW.anyR2 (fc := []) (L0 := [(11, .r (sl 3 Item.c k.items)), (12, I (k.items.length : Int)), (13, I (i : Int))]) 33 (fun (go6_6_1 : (Nat → Nat → Value)) => [(3, S (s ++ (((((ei.key ++ (⟨#[32]⟩ : ByteArray)) ++ (itoaB ei.ver)) ++ (⟨#[32]⟩ : ByteArray)) ++ ei.val) ++ (⟨#[10]⟩ : ByteArray))))]) (fun all hall f hf b0 hb K hK => ?_) ?_
   ·skip
    have ro6_1 : ∀ B, ∀ (go6_6_1 : Nat → Nat → Value), RA f E B all 0 (bt 15 32767) ⟨33, [(3, S (s ++ (((((ei.key ++ (⟨#[32]⟩ : ByteArray)) ++ (itoaB ei.ver)) ++ (⟨#[32]⟩ : ByteArray)) ++ ei.val) ++ (⟨#[10]⟩ : ByteArray))))] ++ b0⟩ K := by
     intro B go6_6_1
     exact RA.of2 hall hf hb (RA.finH (Tell.of rfl) (by kernel_rfl) (hK go6_6_1 _ rfl (Le.of rfl)))
    have ro6_0 : ∀ B, RA f E B all 7 (bt 15 1599) ⟨33, [(3, S s), (17, S s), (20, S (ei.key ++ (⟨#[32]⟩ : ByteArray))), (22, I ei.ver), (27, S ei.val)] ++ b0⟩ K := by
     intro B
     refine RA.of2 hall hf hb (RA.stepH (L := [6]) (Tell.of rfl) (by kernel_rfl) (by simp) (RA.each ?_ (RA.each0)))
     ·skip
      refine RO.call rfl rfl (impl_Decimal_fn ei.ver (by have h9 := hits ei (List.mem_of_getElem? hei); have hq1 := h9.n1; have hq2 := h9.n9; first | exact okI_of (by omega) (by omega) | (constructor <;> omega))) rfl (.cons (.one (.r .r)) (.nil)) rfl fun go6_6_1 => ?_
      refine RA.first (i := 7) (ls' := (bt 15 1791)) (Tell.of rfl) (by kernel_rfl) rfl rfl rfl (VF.p (V.cat rfl rfl rfl (by have g1 : (⟨#[32]⟩ : ByteArray).size = 1 := rfl; have g2 : (⟨#[10]⟩ : ByteArray).size = 1 := rfl; simp only [ByteArray.size_append, maxLen, g1, g2]; omega))) ?_
      refine RA.first (i := 8) (ls' := (bt 15 2047)) (Tell.of rfl) (by kernel_rfl) rfl rfl rfl (VF.p (V.cat rfl rfl rfl (by have g1 : (⟨#[32]⟩ : ByteArray).size = 1 := rfl; have g2 : (⟨#[10]⟩ : ByteArray).size = 1 := rfl; simp only [ByteArray.size_append, maxLen, g1, g2]; omega))) ?_
      refine RA.first (i := 11) (ls' := (bt 15 4095)) (Tell.of rfl) (by kernel_rfl) rfl rfl rfl (VF.p (V.cat rfl rfl rfl (by have g1 : (⟨#[32]⟩ : ByteArray).size = 1 := rfl; have g2 : (⟨#[10]⟩ : ByteArray).size = 1 := rfl; simp only [ByteArray.size_append, maxLen, g1, g2]; omega))) ?_
      refine RA.first (i := 12) (ls' := (bt 15 8191)) (Tell.of rfl) (by kernel_rfl) rfl rfl rfl (VF.p (V.cat rfl rfl rfl (by have g1 : (⟨#[32]⟩ : ByteArray).size = 1 := rfl; have g2 : (⟨#[10]⟩ : ByteArray).size = 1 := rfl; simp only [ByteArray.size_append, maxLen, g1, g2]; omega))) ?_
      refine RA.first (i := 13) (ls' := (bt 15 16383)) (Tell.of rfl) (by kernel_rfl) rfl rfl rfl (VF.p (V.cat rfl rfl rfl (by have g1 : (⟨#[32]⟩ : ByteArray).size = 1 := rfl; have g2 : (⟨#[10]⟩ : ByteArray).size = 1 := rfl; simp only [ByteArray.size_append, maxLen, g1, g2]; omega))) ?_
      refine RA.fr XK 33 0 [14] (bt 15 32767) rfl rfl (by kernel_rfl) (Tell.of rfl) ?_
      (conv=>whnf);refine ⟨rfl,fun B=>?_⟩
      exact RA.to2 hall hf hb (ro6_1 B go6_6_1) rfl rfl (by kernel_rfl)
    refine RA.start (by kernel_rfl) (by kernel_rfl) (m := 15) (ls' := (bt 15 0)) ?_
    refine RA.fr XK 33 12 [0,1,2] (bt 15 7) rfl rfl (by kernel_rfl) (Tell.of rfl) ?_
    (conv=>whnf);refine ⟨rfl,fun B=>?_⟩
    refine RA.first (i := 3) (ls' := (bt 15 15)) (Tell.of rfl) (by kernel_rfl) rfl rfl rfl (VF.p (V.cat rfl rfl rfl (by have g1 : (⟨#[32]⟩ : ByteArray).size = 1 := rfl; have g2 : (⟨#[10]⟩ : ByteArray).size = 1 := rfl; simp only [ByteArray.size_append, maxLen, g1, g2]; omega))) ?_
    refine RA.fr XK 33 7 [4,5,9,10] (bt 15 1599) rfl rfl (by kernel_rfl) (Tell.of rfl) ?_
    (conv=>whnf);refine ⟨rfl,fun B=>?_⟩
    exact RA.to2 hall hf hb (ro6_0 B) rfl rfl (by kernel_rfl)
   ·rintro go6_6_1
    refine CW.keep 33 [3,11,12,13] rfl ?_;(conv=>whnf);refine ⟨?_⟩
    refine CW.region ?_
    refine RW.v rfl (V.inc rfl rfl rfl hii hl2) ?_
    refine RW.k XK 33 1 rfl ?_
    (conv=>whnf);refine ⟨rfl,?_⟩
    refine RW.nil ?_
    exact ⟨(i + 1, _), by simp only []; omega, (show_step hei hb hs hr hll (by simp only [line, ByteArray.append_assoc])), rfl, Le.c rfl <| Le.c rfl <| Le.c rfl <| Le.c rfl <| Le.e⟩
  ·skip
   have hii : k.items.length ≤ i := by have := h4; simp at this; first | exact this | omega | (simp; done) | (simp; omega)
   have hdi : k.items.drop i = [] := List.drop_eq_nil_of_le hii
   refine CW.exit ?_
   refine CW.keep 33 [3] rfl ?_;(conv=>whnf);refine ⟨?_⟩
   refine CW.k XK 33 1 [2] rfl ?_
   (conv=>whnf);refine ⟨rfl,?_⟩
   refine CW.ret ?_
   exact Post.one (RV.s rfl (by rw [showK, if_pos hko, hr, List.take_of_length_le hii])) (AOs.a rfl AOs.e)
set_option maxHeartbeats 4000000 in
theorem spec_ShowKeep_fn (k : Keep) (hok : okToKeep k) : Eng.Fn E.P 10 [.agg ((Keep.c k).map .r)] (.one (.one (.w (.v (.string (showK k)))))) [.agg ((Keep.c k).map .r)] := by
 refine Eng.Fn.intro (E := E) (rvs := [.tmp 2]) Tryd.func10 rfl rfl rfl (by simp [outSlots, moved, rvSlot, sl]) ?_
 intro B g bo
 refine CW.keep 42 [0] rfl ?_;(conv=>whnf);refine ⟨?_⟩
 have hl1 : k.sessions.length ≤ maxLen := by have := hok.1.1; simp only [maxLen]; omega
 have hl2 : k.items.length ≤ maxLen := by have := hok.2.1; simp only [maxLen]; omega
 refine CW.seq ?_
 refine CW.region ?_
 refine RW.k XK 42 1 rfl ?_
 (conv=>whnf);intro b1;(conv=>whnf);refine ⟨rfl,?_⟩
 refine RW.freezeB (ts := (Keep.c k)) 1 rfl (DRd.r (DRd.r DRd.e)) ?_
 refine RW.k XK 42 1 rfl ?_
 (conv=>whnf);refine ⟨rfl,?_⟩
 refine RW.nil ?_
 refine CW.keep 42 [1] rfl ?_;(conv=>whnf);refine ⟨?_⟩
 refine CW.seq ?_
 refine CW.seq ?_
 refine CW.region ?_
 refine RW.k XK 42 1 rfl ?_
 (conv=>whnf);refine ⟨rfl,?_⟩
 refine RW.call rfl (spec_KeepOk_fn k hok) rfl (.cons (.agg (.cons (.r .r) (.cons (.r .r) (.nil)))) (.nil)) fun g2 => ?_
 refine RW.k XK 42 1 rfl ?_
 (conv=>whnf);refine ⟨rfl,?_⟩
 refine RW.nil ?_
 refine CW.keep 42 [1,7] rfl ?_;(conv=>whnf);refine ⟨?_⟩
 refine CW.cond rfl (fun h3 => ?_) (fun h3 => ?_)
 ·skip
  refine CW.k XK 42 1 [2] rfl ?_
  (conv=>whnf);refine ⟨rfl,?_⟩
  refine CW.ret ?_
  exact Post.one (RV.s rfl (by simp_all [showK])) (AOs.a rfl AOs.e)
 ·skip
  have hko : keepOk k = true := by simpa using h3
  have hlen := keepOk_len hko
  have hits := keepOk_it hko
  refine CW.skip ?_
  refine CW.keep 42 [1] rfl ?_;(conv=>whnf);refine ⟨?_⟩
  refine CW.k XK 42 1 [1,3] rfl ?_
  (conv=>whnf);refine ⟨rfl,?_⟩
  refine CW.seq ?_
  refine CW.k XK 42 1 [1,3,4] rfl ?_
  (conv=>whnf);refine ⟨rfl,?_⟩
  refine CW.block ?_
  refine CW.loopI 42 (fun (zz : Nat × ByteArray) => match zz with | (i, s) => [(1, .rp (Keep.c k)), (3, S s), (4, I (i : Int))]) (fun (zz : Nat × ByteArray) => match zz with | (i, s) => i ≤ k.items.length ∧ s.size ≤ i * 41 ∧ s = showL (k.items.take i)) (fun (zz : Nat × ByteArray) => match zz with | (i, s) => k.items.length - i) (0, _) rfl (Le.c rfl <| Le.c rfl <| Le.c rfl <| Le.e) ⟨by omega, by decide, rfl⟩ ?_
  rintro ⟨i, s⟩ ⟨hb, hs, hr⟩
  refine CW.seq ?_
  refine CW.k XK 42 1 [1,3,4,12] rfl ?_
  (conv=>whnf);refine ⟨rfl,?_⟩
  refine CW.cond rfl (fun h4 => ?_) (fun h4 => ?_)
  ·skip
   have hii : i < k.items.length := by have := h4; simp at this; first | exact this | omega | (simp; done) | (simp; omega)
   obtain ⟨ei, hei⟩ : ∃ e, k.items[i]? = some e := ⟨_, List.getElem?_eq_getElem hii⟩
   have hdi := drop_get hei
   have hit := hits ei (List.mem_of_getElem? hei)
   have hll := line_len hit
   have hq1 := hit.len
   have hq2 := hit.k8
   have hq3 := hit.v
   refine CW.skip ?_
   refine CW.keep 42 [1,3,4] rfl ?_;(conv=>whnf);refine ⟨?_⟩
   refine CW.seq ?_
   refine CW.block ?_
   refine CW.anyR2 (fc := []) (L0 := [(1, .rp (Keep.c k)), (4, I (i : Int))]) 42 (fun (go5_15_1 : (Nat → Nat → Value)) => [(3, S ((((((s ++ ei.key) ++ (⟨#[32]⟩ : ByteArray)) ++ (itoaB ei.ver)) ++ (⟨#[32]⟩ : ByteArray)) ++ ei.val) ++ (⟨#[10]⟩ : ByteArray)))]) (fun all hall f hf b0 hb K hK => ?_) ?_
   ·skip
    have ro5_1 : ∀ B, ∀ (go5_15_1 : Nat → Nat → Value), RA f E B all 0 (bt 27 134217727) ⟨42, [(3, S ((((((s ++ ei.key) ++ (⟨#[32]⟩ : ByteArray)) ++ (itoaB ei.ver)) ++ (⟨#[32]⟩ : ByteArray)) ++ ei.val) ++ (⟨#[10]⟩ : ByteArray)))] ++ b0⟩ K := by
     intro B go5_15_1
     exact RA.of2 hall hf hb (RA.finH (Tell.of rfl) (by kernel_rfl) (hK go5_15_1 _ rfl (Le.of rfl)))
    have ro5_0 : ∀ B, RA f E B all 6 (bt 27 16547839) ⟨42, [(3, S s), (23, S ((s ++ ei.key) ++ (⟨#[32]⟩ : ByteArray))), (29, I ei.ver), (38, S ei.val)] ++ b0⟩ K := by
     intro B
     refine RA.of2 hall hf hb (RA.stepH (L := [15]) (Tell.of rfl) (by kernel_rfl) (by simp) (RA.each ?_ (RA.each0)))
     ·skip
      refine RO.call rfl rfl (spec_Decimal_fn ei.ver (by have h9 := hits ei (List.mem_of_getElem? hei); have hq1 := h9.n1; have hq2 := h9.n9; first | exact okI_of (by omega) (by omega) | (constructor <;> omega))) rfl (.cons (.one (.r .r)) (.nil)) rfl fun go5_15_1 => ?_
      refine RA.first (i := 16) (ls' := (bt 27 16646143)) (Tell.of rfl) (by kernel_rfl) rfl rfl rfl (VF.p (V.cat rfl rfl rfl (by have g1 : (⟨#[32]⟩ : ByteArray).size = 1 := rfl; have g2 : (⟨#[10]⟩ : ByteArray).size = 1 := rfl; simp only [ByteArray.size_append, maxLen, g1, g2]; omega))) ?_
      refine RA.first (i := 17) (ls' := (bt 27 16777215)) (Tell.of rfl) (by kernel_rfl) rfl rfl rfl (VF.p (V.cat rfl rfl rfl (by have g1 : (⟨#[32]⟩ : ByteArray).size = 1 := rfl; have g2 : (⟨#[10]⟩ : ByteArray).size = 1 := rfl; simp only [ByteArray.size_append, maxLen, g1, g2]; omega))) ?_
      refine RA.first (i := 24) (ls' := (bt 27 33554431)) (Tell.of rfl) (by kernel_rfl) rfl rfl rfl (VF.p (V.cat rfl rfl rfl (by have g1 : (⟨#[32]⟩ : ByteArray).size = 1 := rfl; have g2 : (⟨#[10]⟩ : ByteArray).size = 1 := rfl; simp only [ByteArray.size_append, maxLen, g1, g2]; omega))) ?_
      refine RA.first (i := 25) (ls' := (bt 27 67108863)) (Tell.of rfl) (by kernel_rfl) rfl rfl rfl (VF.p (V.cat rfl rfl rfl (by have g1 : (⟨#[32]⟩ : ByteArray).size = 1 := rfl; have g2 : (⟨#[10]⟩ : ByteArray).size = 1 := rfl; simp only [ByteArray.size_append, maxLen, g1, g2]; omega))) ?_
      refine RA.fr XK 42 0 [26] (bt 27 134217727) rfl rfl (by kernel_rfl) (Tell.of rfl) ?_
      (conv=>whnf);refine ⟨rfl,fun B=>?_⟩
      exact RA.to2 hall hf hb (ro5_1 B go5_15_1) rfl rfl (by kernel_rfl)
    refine RA.start (by kernel_rfl) (by kernel_rfl) (m := 27) (ls' := (bt 27 0)) ?_
    refine RA.fr XK 42 23 [0,1,2,3] (bt 27 15) rfl rfl (by kernel_rfl) (Tell.of rfl) ?_
    (conv=>whnf);refine ⟨rfl,fun B=>?_⟩
    refine RA.first (i := 4) (ls' := (bt 27 31)) (Tell.of rfl) (by kernel_rfl) rfl rfl rfl (VF.p (V.indexS rfl rfl rfl rfl rfl rfl Item.len hei)) ?_
    refine RA.fr XK 42 20 [5,6] (bt 27 127) rfl rfl (by kernel_rfl) (Tell.of rfl) ?_
    (conv=>whnf);refine ⟨rfl,fun B=>?_⟩
    refine RA.first (i := 7) (ls' := (bt 27 255)) (Tell.of rfl) (by kernel_rfl) rfl rfl rfl (VF.p (V.cat rfl rfl rfl (by have g1 : (⟨#[32]⟩ : ByteArray).size = 1 := rfl; have g2 : (⟨#[10]⟩ : ByteArray).size = 1 := rfl; simp only [ByteArray.size_append, maxLen, g1, g2]; omega))) ?_
    refine RA.first (i := 8) (ls' := (bt 27 511)) (Tell.of rfl) (by kernel_rfl) rfl rfl rfl (VF.p (V.cat rfl rfl rfl (by have g1 : (⟨#[32]⟩ : ByteArray).size = 1 := rfl; have g2 : (⟨#[10]⟩ : ByteArray).size = 1 := rfl; simp only [ByteArray.size_append, maxLen, g1, g2]; omega))) ?_
    refine RA.fr XK 42 15 [9,10,11] (bt 27 4095) rfl rfl (by kernel_rfl) (Tell.of rfl) ?_
    (conv=>whnf);refine ⟨rfl,fun B=>?_⟩
    refine RA.first (i := 12) (ls' := (bt 27 8191)) (Tell.of rfl) (by kernel_rfl) rfl rfl rfl (VF.p (V.indexS rfl rfl rfl rfl rfl rfl Item.len hei)) ?_
    refine RA.fr XK 42 9 [13,14,18,19,20] (bt 27 1867775) rfl rfl (by kernel_rfl) (Tell.of rfl) ?_
    (conv=>whnf);refine ⟨rfl,fun B=>?_⟩
    refine RA.first (i := 21) (ls' := (bt 27 3964927)) (Tell.of rfl) (by kernel_rfl) rfl rfl rfl (VF.p (V.indexS rfl rfl rfl rfl rfl rfl Item.len hei)) ?_
    refine RA.fr XK 42 6 [22,23] (bt 27 16547839) rfl rfl (by kernel_rfl) (Tell.of rfl) ?_
    (conv=>whnf);refine ⟨rfl,fun B=>?_⟩
    exact RA.to2 hall hf hb (ro5_0 B) rfl rfl (by kernel_rfl)
   ·rintro go5_15_1
    refine CW.keep 42 [1,3,4] rfl ?_;(conv=>whnf);refine ⟨?_⟩
    refine CW.region ?_
    refine RW.k XK 42 1 rfl ?_
    (conv=>whnf);refine ⟨rfl,?_⟩
    refine RW.v rfl (V.inc rfl rfl rfl hii hl2) ?_
    refine RW.k XK 42 1 rfl ?_
    (conv=>whnf);refine ⟨rfl,?_⟩
    refine RW.nil ?_
    exact ⟨(i + 1, _), by simp only []; omega, (show_step hei hb hs hr hll (by simp only [line, ByteArray.append_assoc])), rfl, Le.c rfl <| Le.c rfl <| Le.c rfl <| Le.e⟩
  ·skip
   have hii : k.items.length ≤ i := by have := h4; simp at this; first | exact this | omega | (simp; done) | (simp; omega)
   have hdi : k.items.drop i = [] := List.drop_eq_nil_of_le hii
   refine CW.exit ?_
   refine CW.keep 42 [3] rfl ?_;(conv=>whnf);refine ⟨?_⟩
   refine CW.k XK 42 1 [2] rfl ?_
   (conv=>whnf);refine ⟨rfl,?_⟩
   refine CW.ret ?_
   exact Post.one (RV.s rfl (by rw [showK, if_pos hko, hr, List.take_of_length_le hii])) (AOs.a rfl AOs.e)
end Go.Proofs.YtaeagpakloggfaaDoor.Y
