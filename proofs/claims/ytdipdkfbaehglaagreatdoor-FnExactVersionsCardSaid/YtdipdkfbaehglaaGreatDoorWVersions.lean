import Derived.Test.YtdipdkfbaehglaaGreatDoorWVersionsQ
namespace Go.Proofs.YtdipdkfbaehglaaGreatDoor.Y
open Go Go.RowKit Go.Eng Go.Proofs
set_option maxRecDepth 10000
set_option maxHeartbeats 4000000 in
theorem laws_eqWaitS_fn (a : List Wait) (b : List Wait) : Eng.Fn E.P 42 [.one (.r (sl 4 Wait.c a)), .one (.r (sl 4 Wait.c b))] (.one (.one (.w (.v (.bool (eqS eqWait a b)))))) [.one (.r (sl 4 Wait.c a)), .one (.r (sl 4 Wait.c b))] := by
 refine Eng.Fn.intro (E := E) (rvs := [.tmp 4]) Tryz.func42 rfl rfl rfl (by simp [outSlots, moved, rvSlot, sl]) ?_
 intro B g bo
 refine CW.bound (x := .tmp 0) (n := a.length) (AsT.r) (fun hl0 => ?_)
 refine CW.bound (x := .tmp 1) (n := b.length) (AsT.r) (fun hl1 => ?_)
 refine CW.g XK 27 [.e [0,1],.n 1,.e [0,1],.n 1,.e [0,1,10]] rfl rfl rfl ?_
 refine CW.cond rfl (fun h1 => ?_) (fun h1 => ?_)
 refine CW.g XK 27 [.n 1,.e [4]] rfl rfl rfl ?_
 refine CW.ret ?_
 exact Post.one (RV.b rfl (by first | (simp_all [eqS, eqI, eqStr, eqB]; done) | exact (eqS_ne (by simp_all; omega)).symm)) (AOs.r (AOs.r AOs.e))
 refine CW.g XK 27 [.p,.e [0,1],.n 1,.e [0,1,5],.p] rfl rfl rfl ?_
 refine CW.loopI 27 (fun (i : Nat) => [(0, .r (sl 4 Wait.c a)), (1, .r (sl 4 Wait.c b)), (5, I (i : Int))]) (fun (i : Nat) => i ≤ a.length ∧ eqS eqWait (a.drop i) (b.drop i) = eqS eqWait a b) (fun (i : Nat) => a.length - i) 0 rfl (Le.c rfl <| Le.c rfl <| Le.c rfl <| Le.e) ⟨by omega, by simp⟩ ?_
 rintro i ⟨hb, hr⟩
 have hlen : a.length = b.length := by simp at h1; omega
 refine CW.g XK 27 [.n 1,.e [0,1,5,14]] rfl rfl rfl ?_
 refine CW.cond rfl (fun h2 => ?_) (fun h2 => ?_)
 have hii : i < a.length := by have := h2; simp at this; first | exact this | omega | (simp; done) | (simp; omega)
 obtain ⟨ei, hei⟩ : ∃ e, a[i]? = some e := ⟨_, List.getElem?_eq_getElem hii⟩
 have hdi := drop_get hei
 have hib : i < b.length := by omega
 obtain ⟨eb, heb⟩ : ∃ e, b[i]? = some e := ⟨_, List.getElem?_eq_getElem hib⟩
 have hdb := drop_get heb
 refine CW.g XK 27 [.p,.e [0,1,5],.p,.p,.p] rfl rfl rfl ?_
 refine CW.drawn (by kernel_rfl) ?_
 refine RQ.k XK 27 2 rfl ?_
 (conv=>whnf);refine ⟨rfl,?_⟩
 refine RQ.v rfl (V.indexS rfl rfl rfl rfl rfl rfl Wait.len hei) ?_
 refine RQ.k XK 27 3 rfl ?_
 (conv=>whnf);refine ⟨rfl,?_⟩
 refine RQ.v rfl (V.indexS rfl rfl rfl rfl rfl rfl Wait.len heb) ?_
 refine RQ.k XK 27 1 rfl ?_
 (conv=>whnf);refine ⟨rfl,?_⟩
 refine RQ.cons rfl (QOK.call (laws_eqWait_fn ei eb) rfl (.cons (.agg (.cons (.r .r) (.cons (.r .r) (.cons (.r .r) (.cons (.r .r) (.nil)))))) (.cons (.agg (.cons (.r .r) (.cons (.r .r) (.cons (.r .r) (.cons (.r .r) (.nil)))))) (.nil))) ?_)
 refine RQ.k XK 27 1 rfl ?_
 (conv=>whnf);refine ⟨rfl,?_⟩
 refine RQ.nil ?_
 refine CW.g XK 27 [.e [0,1,5,26]] rfl rfl rfl ?_
 refine CW.cond rfl (fun h3 => ?_) (fun h3 => ?_)
 refine CW.g XK 27 [.n 1,.e [4]] rfl rfl rfl ?_
 refine CW.ret ?_
 exact Post.one (RV.b rfl (by first | (simp_all [eqS, eqI, eqStr, eqB]; done) | exact (eqS_ne (by simp_all; omega)).symm)) (AOs.r (AOs.r AOs.e))
 refine CW.g XK 27 [.p,.e [0,1,5],.o 1] rfl rfl rfl ?_
 refine RW.v rfl (V.inc rfl rfl rfl hii hl0) ?_
 refine RW.g XK 27 [.o 1,.p] rfl rfl rfl ?_
 exact ⟨i + 1, by omega, ⟨by omega, by simp_all [eqS, eqI, eqStr, eqB]⟩, rfl, Le.c rfl <| Le.c rfl <| Le.c rfl <| Le.e⟩
 have hii : a.length ≤ i := by have := h2; simp at this; first | exact this | omega | (simp; done) | (simp; omega)
 have hdi : a.drop i = [] := List.drop_eq_nil_of_le hii
 refine CW.exit ?_
 refine CW.g XK 27 [.e [],.n 1,.e [4]] rfl rfl rfl ?_
 refine CW.ret ?_
 exact Post.one (RV.b rfl (by rw [← hr, hdi, List.drop_eq_nil_of_le (show b.length ≤ i by omega)]; rfl)) (AOs.r (AOs.r AOs.e))
set_option maxHeartbeats 4000000 in
theorem laws_eqLeader_fn (a : Leader) (b : Leader) : Eng.Fn E.P 85 [.agg ((Leader.c a).map .r), .agg ((Leader.c b).map .r)] (.one (.one (.w (.v (.bool (eqLeader a b)))))) [.agg ((Leader.c a).map .r), .agg ((Leader.c b).map .r)] := by
 refine Eng.Fn.intro (E := E) (rvs := [.tmp 4]) Tryz.func85 rfl rfl rfl (by simp [outSlots, moved, rvSlot, sl]) ?_
 intro B g bo
 refine CW.h XK 21 [.e [0,1],.o 1] rfl ?_;(conv=>whnf);intro b1;(conv=>whnf);refine ⟨rfl,?_⟩
 refine RW.freezeB (ts := (Leader.c a)) 2 rfl (DRd.r (DRd.r (DRd.r (DRd.r (DRd.r DRd.e))))) ?_
 refine RW.h XK 21 [.o 1] rfl ?_;(conv=>whnf);intro b2;(conv=>whnf);refine ⟨rfl,?_⟩
 refine RW.freezeB (ts := (Leader.c b)) 3 rfl (DRd.r (DRd.r (DRd.r (DRd.r (DRd.r DRd.e))))) ?_
 refine RW.g XK 21 [.o 1,.p,.e [2,3],.n 1,.e [2,3,9]] rfl rfl rfl ?_
 refine CW.cond rfl (fun h3 => ?_) (fun h3 => ?_)
 refine CW.g XK 21 [.n 1,.e [4]] rfl rfl rfl ?_
 refine CW.ret ?_
 exact Post.one (RV.b rfl (by simp_all [eqLeader])) (AOs.a rfl (AOs.a rfl AOs.e))
 refine CW.g XK 21 [.p,.e [2,3],.n 1,.e [2,3,14]] rfl rfl rfl ?_
 refine CW.cond rfl (fun h4 => ?_) (fun h4 => ?_)
 refine CW.g XK 21 [.n 1,.e [4]] rfl rfl rfl ?_
 refine CW.ret ?_
 exact Post.one (RV.b rfl (by simp_all [eqLeader])) (AOs.a rfl (AOs.a rfl AOs.e))
 refine CW.g XK 21 [.p,.e [2,3],.o 4] rfl rfl rfl ?_
 refine RW.call rfl (laws_eqLog_fn a.log b.log) rfl (.cons (.agg (.cons (.r .r) (.cons (.r .r) (.cons (.r .r) (.nil))))) (.cons (.agg (.cons (.r .r) (.cons (.r .r) (.cons (.r .r) (.nil))))) (.nil))) fun g5 => ?_
 refine RW.g XK 21 [.o 1,.p,.e [20]] rfl rfl rfl ?_
 refine CW.cond rfl (fun h6 => ?_) (fun h6 => ?_)
 refine CW.g XK 21 [.n 1,.e [4]] rfl rfl rfl ?_
 refine CW.ret ?_
 exact Post.one (RV.b rfl (by simp_all [eqLeader])) (AOs.a rfl (AOs.a rfl AOs.e))
 refine CW.g XK 21 [.p,.e [],.n 1,.e [4]] rfl rfl rfl ?_
 refine CW.ret ?_
 exact Post.one (RV.b rfl (by simp_all [eqLeader])) (AOs.a rfl (AOs.a rfl AOs.e))
set_option maxHeartbeats 4000000 in
theorem laws_eqLeaderS_fn (a : List Leader) (b : List Leader) : Eng.Fn E.P 43 [.one (.r (sl 5 Leader.c a)), .one (.r (sl 5 Leader.c b))] (.one (.one (.w (.v (.bool (eqS eqLeader a b)))))) [.one (.r (sl 5 Leader.c a)), .one (.r (sl 5 Leader.c b))] := by
 refine Eng.Fn.intro (E := E) (rvs := [.tmp 4]) Tryz.func43 rfl rfl rfl (by simp [outSlots, moved, rvSlot, sl]) ?_
 intro B g bo
 refine CW.bound (x := .tmp 0) (n := a.length) (AsT.r) (fun hl0 => ?_)
 refine CW.bound (x := .tmp 1) (n := b.length) (AsT.r) (fun hl1 => ?_)
 refine CW.g XK 27 [.e [0,1],.n 1,.e [0,1],.n 1,.e [0,1,10]] rfl rfl rfl ?_
 refine CW.cond rfl (fun h1 => ?_) (fun h1 => ?_)
 refine CW.g XK 27 [.n 1,.e [4]] rfl rfl rfl ?_
 refine CW.ret ?_
 exact Post.one (RV.b rfl (by first | (simp_all [eqS, eqI, eqStr, eqB]; done) | exact (eqS_ne (by simp_all; omega)).symm)) (AOs.r (AOs.r AOs.e))
 refine CW.g XK 27 [.p,.e [0,1],.n 1,.e [0,1,5],.p] rfl rfl rfl ?_
 refine CW.loopI 27 (fun (i : Nat) => [(0, .r (sl 5 Leader.c a)), (1, .r (sl 5 Leader.c b)), (5, I (i : Int))]) (fun (i : Nat) => i ≤ a.length ∧ eqS eqLeader (a.drop i) (b.drop i) = eqS eqLeader a b) (fun (i : Nat) => a.length - i) 0 rfl (Le.c rfl <| Le.c rfl <| Le.c rfl <| Le.e) ⟨by omega, by simp⟩ ?_
 rintro i ⟨hb, hr⟩
 have hlen : a.length = b.length := by simp at h1; omega
 refine CW.g XK 27 [.n 1,.e [0,1,5,14]] rfl rfl rfl ?_
 refine CW.cond rfl (fun h2 => ?_) (fun h2 => ?_)
 have hii : i < a.length := by have := h2; simp at this; first | exact this | omega | (simp; done) | (simp; omega)
 obtain ⟨ei, hei⟩ : ∃ e, a[i]? = some e := ⟨_, List.getElem?_eq_getElem hii⟩
 have hdi := drop_get hei
 have hib : i < b.length := by omega
 obtain ⟨eb, heb⟩ : ∃ e, b[i]? = some e := ⟨_, List.getElem?_eq_getElem hib⟩
 have hdb := drop_get heb
 refine CW.g XK 27 [.p,.e [0,1,5],.p,.p,.p] rfl rfl rfl ?_
 refine CW.drawn (by kernel_rfl) ?_
 refine RQ.k XK 27 2 rfl ?_
 (conv=>whnf);refine ⟨rfl,?_⟩
 refine RQ.v rfl (V.indexS rfl rfl rfl rfl rfl rfl Leader.len hei) ?_
 refine RQ.k XK 27 3 rfl ?_
 (conv=>whnf);refine ⟨rfl,?_⟩
 refine RQ.v rfl (V.indexS rfl rfl rfl rfl rfl rfl Leader.len heb) ?_
 refine RQ.k XK 27 1 rfl ?_
 (conv=>whnf);refine ⟨rfl,?_⟩
 refine RQ.cons rfl (QOK.call (laws_eqLeader_fn ei eb) rfl (.cons (.agg (.cons (.r .r) (.cons (.r .r) (.cons (.r .r) (.cons (.r .r) (.cons (.r .r) (.nil))))))) (.cons (.agg (.cons (.r .r) (.cons (.r .r) (.cons (.r .r) (.cons (.r .r) (.cons (.r .r) (.nil))))))) (.nil))) ?_)
 refine RQ.k XK 27 1 rfl ?_
 (conv=>whnf);refine ⟨rfl,?_⟩
 refine RQ.nil ?_
 refine CW.g XK 27 [.e [0,1,5,26]] rfl rfl rfl ?_
 refine CW.cond rfl (fun h3 => ?_) (fun h3 => ?_)
 refine CW.g XK 27 [.n 1,.e [4]] rfl rfl rfl ?_
 refine CW.ret ?_
 exact Post.one (RV.b rfl (by first | (simp_all [eqS, eqI, eqStr, eqB]; done) | exact (eqS_ne (by simp_all; omega)).symm)) (AOs.r (AOs.r AOs.e))
 refine CW.g XK 27 [.p,.e [0,1,5],.o 1] rfl rfl rfl ?_
 refine RW.v rfl (V.inc rfl rfl rfl hii hl0) ?_
 refine RW.g XK 27 [.o 1,.p] rfl rfl rfl ?_
 exact ⟨i + 1, by omega, ⟨by omega, by simp_all [eqS, eqI, eqStr, eqB]⟩, rfl, Le.c rfl <| Le.c rfl <| Le.c rfl <| Le.e⟩
 have hii : a.length ≤ i := by have := h2; simp at this; first | exact this | omega | (simp; done) | (simp; omega)
 have hdi : a.drop i = [] := List.drop_eq_nil_of_le hii
 refine CW.exit ?_
 refine CW.g XK 27 [.e [],.n 1,.e [4]] rfl rfl rfl ?_
 refine CW.ret ?_
 exact Post.one (RV.b rfl (by rw [← hr, hdi, List.drop_eq_nil_of_le (show b.length ≤ i by omega)]; rfl)) (AOs.r (AOs.r AOs.e))
set_option maxHeartbeats 4000000 in
theorem laws_eqApplied_fn (a : Applied) (b : Applied) : Eng.Fn E.P 86 [.agg ((Applied.c a).map .r), .agg ((Applied.c b).map .r)] (.one (.one (.w (.v (.bool (eqApplied a b)))))) [.agg ((Applied.c a).map .r), .agg ((Applied.c b).map .r)] := by
 refine Eng.Fn.intro (E := E) (rvs := [.tmp 4]) Tryz.func86 rfl rfl rfl (by simp [outSlots, moved, rvSlot, sl]) ?_
 intro B g bo
 refine CW.h XK 26 [.e [0,1],.o 1] rfl ?_;(conv=>whnf);intro b1;(conv=>whnf);refine ⟨rfl,?_⟩
 refine RW.freezeB (ts := (Applied.c a)) 2 rfl (DRd.r (DRd.r (DRd.r (DRd.r (DRd.r (DRd.r DRd.e)))))) ?_
 refine RW.h XK 26 [.o 1] rfl ?_;(conv=>whnf);intro b2;(conv=>whnf);refine ⟨rfl,?_⟩
 refine RW.freezeB (ts := (Applied.c b)) 3 rfl (DRd.r (DRd.r (DRd.r (DRd.r (DRd.r (DRd.r DRd.e)))))) ?_
 refine RW.g XK 26 [.o 1,.p,.e [2,3],.n 1,.e [2,3,9]] rfl rfl rfl ?_
 refine CW.cond rfl (fun h3 => ?_) (fun h3 => ?_)
 refine CW.g XK 26 [.n 1,.e [4]] rfl rfl rfl ?_
 refine CW.ret ?_
 exact Post.one (RV.b rfl (by simp_all [eqApplied])) (AOs.a rfl (AOs.a rfl AOs.e))
 refine CW.g XK 26 [.p,.e [2,3],.n 1,.e [2,3,14]] rfl rfl rfl ?_
 refine CW.cond rfl (fun h4 => ?_) (fun h4 => ?_)
 refine CW.g XK 26 [.n 1,.e [4]] rfl rfl rfl ?_
 refine CW.ret ?_
 exact Post.one (RV.b rfl (by simp_all [eqApplied])) (AOs.a rfl (AOs.a rfl AOs.e))
 refine CW.g XK 26 [.p,.e [2,3],.n 1,.e [2,3,19]] rfl rfl rfl ?_
 refine CW.cond rfl (fun h5 => ?_) (fun h5 => ?_)
 refine CW.g XK 26 [.n 1,.e [4]] rfl rfl rfl ?_
 refine CW.ret ?_
 exact Post.one (RV.b rfl (by simp_all [eqApplied])) (AOs.a rfl (AOs.a rfl AOs.e))
 refine CW.g XK 26 [.p,.e [2,3],.o 4] rfl rfl rfl ?_
 refine RW.call rfl (laws_eqEntry_fn a.entry b.entry) rfl (.cons (.agg (.cons (.r .r) (.cons (.r .r) (.cons (.r .r) (.nil))))) (.cons (.agg (.cons (.r .r) (.cons (.r .r) (.cons (.r .r) (.nil))))) (.nil))) fun g6 => ?_
 refine RW.g XK 26 [.o 1,.p,.e [25]] rfl rfl rfl ?_
 refine CW.cond rfl (fun h7 => ?_) (fun h7 => ?_)
 refine CW.g XK 26 [.n 1,.e [4]] rfl rfl rfl ?_
 refine CW.ret ?_
 exact Post.one (RV.b rfl (by simp_all [eqApplied])) (AOs.a rfl (AOs.a rfl AOs.e))
 refine CW.g XK 26 [.p,.e [],.n 1,.e [4]] rfl rfl rfl ?_
 refine CW.ret ?_
 exact Post.one (RV.b rfl (by simp_all [eqApplied])) (AOs.a rfl (AOs.a rfl AOs.e))
set_option maxHeartbeats 4000000 in
theorem laws_eqAppliedS_fn (a : List Applied) (b : List Applied) : Eng.Fn E.P 44 [.one (.r (sl 6 Applied.c a)), .one (.r (sl 6 Applied.c b))] (.one (.one (.w (.v (.bool (eqS eqApplied a b)))))) [.one (.r (sl 6 Applied.c a)), .one (.r (sl 6 Applied.c b))] := by
 refine Eng.Fn.intro (E := E) (rvs := [.tmp 4]) Tryz.func44 rfl rfl rfl (by simp [outSlots, moved, rvSlot, sl]) ?_
 intro B g bo
 refine CW.bound (x := .tmp 0) (n := a.length) (AsT.r) (fun hl0 => ?_)
 refine CW.bound (x := .tmp 1) (n := b.length) (AsT.r) (fun hl1 => ?_)
 refine CW.g XK 27 [.e [0,1],.n 1,.e [0,1],.n 1,.e [0,1,10]] rfl rfl rfl ?_
 refine CW.cond rfl (fun h1 => ?_) (fun h1 => ?_)
 refine CW.g XK 27 [.n 1,.e [4]] rfl rfl rfl ?_
 refine CW.ret ?_
 exact Post.one (RV.b rfl (by first | (simp_all [eqS, eqI, eqStr, eqB]; done) | exact (eqS_ne (by simp_all; omega)).symm)) (AOs.r (AOs.r AOs.e))
 refine CW.g XK 27 [.p,.e [0,1],.n 1,.e [0,1,5],.p] rfl rfl rfl ?_
 refine CW.loopI 27 (fun (i : Nat) => [(0, .r (sl 6 Applied.c a)), (1, .r (sl 6 Applied.c b)), (5, I (i : Int))]) (fun (i : Nat) => i ≤ a.length ∧ eqS eqApplied (a.drop i) (b.drop i) = eqS eqApplied a b) (fun (i : Nat) => a.length - i) 0 rfl (Le.c rfl <| Le.c rfl <| Le.c rfl <| Le.e) ⟨by omega, by simp⟩ ?_
 rintro i ⟨hb, hr⟩
 have hlen : a.length = b.length := by simp at h1; omega
 refine CW.g XK 27 [.n 1,.e [0,1,5,14]] rfl rfl rfl ?_
 refine CW.cond rfl (fun h2 => ?_) (fun h2 => ?_)
 have hii : i < a.length := by have := h2; simp at this; first | exact this | omega | (simp; done) | (simp; omega)
 obtain ⟨ei, hei⟩ : ∃ e, a[i]? = some e := ⟨_, List.getElem?_eq_getElem hii⟩
 have hdi := drop_get hei
 have hib : i < b.length := by omega
 obtain ⟨eb, heb⟩ : ∃ e, b[i]? = some e := ⟨_, List.getElem?_eq_getElem hib⟩
 have hdb := drop_get heb
 refine CW.g XK 27 [.p,.e [0,1,5],.p,.p,.p] rfl rfl rfl ?_
 refine CW.drawn (by kernel_rfl) ?_
 refine RQ.k XK 27 2 rfl ?_
 (conv=>whnf);refine ⟨rfl,?_⟩
 refine RQ.v rfl (V.indexS rfl rfl rfl rfl rfl rfl Applied.len hei) ?_
 refine RQ.k XK 27 3 rfl ?_
 (conv=>whnf);refine ⟨rfl,?_⟩
 refine RQ.v rfl (V.indexS rfl rfl rfl rfl rfl rfl Applied.len heb) ?_
 refine RQ.k XK 27 1 rfl ?_
 (conv=>whnf);refine ⟨rfl,?_⟩
 refine RQ.cons rfl (QOK.call (laws_eqApplied_fn ei eb) rfl (.cons (.agg (.cons (.r .r) (.cons (.r .r) (.cons (.r .r) (.cons (.r .r) (.cons (.r .r) (.cons (.r .r) (.nil)))))))) (.cons (.agg (.cons (.r .r) (.cons (.r .r) (.cons (.r .r) (.cons (.r .r) (.cons (.r .r) (.cons (.r .r) (.nil)))))))) (.nil))) ?_)
 refine RQ.k XK 27 1 rfl ?_
 (conv=>whnf);refine ⟨rfl,?_⟩
 refine RQ.nil ?_
 refine CW.g XK 27 [.e [0,1,5,26]] rfl rfl rfl ?_
 refine CW.cond rfl (fun h3 => ?_) (fun h3 => ?_)
 refine CW.g XK 27 [.n 1,.e [4]] rfl rfl rfl ?_
 refine CW.ret ?_
 exact Post.one (RV.b rfl (by first | (simp_all [eqS, eqI, eqStr, eqB]; done) | exact (eqS_ne (by simp_all; omega)).symm)) (AOs.r (AOs.r AOs.e))
 refine CW.g XK 27 [.p,.e [0,1,5],.o 1] rfl rfl rfl ?_
 refine RW.v rfl (V.inc rfl rfl rfl hii hl0) ?_
 refine RW.g XK 27 [.o 1,.p] rfl rfl rfl ?_
 exact ⟨i + 1, by omega, ⟨by omega, by simp_all [eqS, eqI, eqStr, eqB]⟩, rfl, Le.c rfl <| Le.c rfl <| Le.c rfl <| Le.e⟩
 have hii : a.length ≤ i := by have := h2; simp at this; first | exact this | omega | (simp; done) | (simp; omega)
 have hdi : a.drop i = [] := List.drop_eq_nil_of_le hii
 refine CW.exit ?_
 refine CW.g XK 27 [.e [],.n 1,.e [4]] rfl rfl rfl ?_
 refine CW.ret ?_
 exact Post.one (RV.b rfl (by rw [← hr, hdi, List.drop_eq_nil_of_le (show b.length ≤ i by omega)]; rfl)) (AOs.r (AOs.r AOs.e))
set_option maxHeartbeats 4000000 in
theorem laws_eqCommand_fn (a : Command) (b : Command) : Eng.Fn E.P 133 [.agg ((Command.c a).map .r), .agg ((Command.c b).map .r)] (.one (.one (.w (.v (.bool (eqCommand a b)))))) [.agg ((Command.c a).map .r), .agg ((Command.c b).map .r)] := by
 refine Eng.Fn.intro (E := E) (rvs := [.tmp 4]) Tryz.func133 rfl rfl rfl (by simp [outSlots, moved, rvSlot, sl]) ?_
 intro B g bo
 refine CW.h XK 35 [.e [0,1],.o 1] rfl ?_;(conv=>whnf);intro b1;(conv=>whnf);refine ⟨rfl,?_⟩
 refine RW.freezeB (ts := (Command.c a)) 2 rfl (DRd.r (DRd.r (DRd.r (DRd.r (DRd.r (DRd.r DRd.e)))))) ?_
 refine RW.h XK 35 [.o 1] rfl ?_;(conv=>whnf);intro b2;(conv=>whnf);refine ⟨rfl,?_⟩
 refine RW.freezeB (ts := (Command.c b)) 3 rfl (DRd.r (DRd.r (DRd.r (DRd.r (DRd.r (DRd.r DRd.e)))))) ?_
 refine RW.g XK 35 [.o 1,.p,.e [2,3],.n 1,.e [2,3,9]] rfl rfl rfl ?_
 refine CW.cond rfl (fun h3 => ?_) (fun h3 => ?_)
 refine CW.g XK 35 [.n 1,.e [4]] rfl rfl rfl ?_
 refine CW.ret ?_
 exact Post.one (RV.b rfl (by simp_all [eqCommand])) (AOs.a rfl (AOs.a rfl AOs.e))
 refine CW.g XK 35 [.p,.e [2,3],.n 1,.e [2,3,14]] rfl rfl rfl ?_
 refine CW.cond rfl (fun h4 => ?_) (fun h4 => ?_)
 refine CW.g XK 35 [.n 1,.e [4]] rfl rfl rfl ?_
 refine CW.ret ?_
 exact Post.one (RV.b rfl (by simp_all [eqCommand])) (AOs.a rfl (AOs.a rfl AOs.e))
 refine CW.g XK 35 [.p,.e [2,3],.n 1,.e [2,3,19]] rfl rfl rfl ?_
 refine CW.cond rfl (fun h5 => ?_) (fun h5 => ?_)
 refine CW.g XK 35 [.n 1,.e [4]] rfl rfl rfl ?_
 refine CW.ret ?_
 exact Post.one (RV.b rfl (by simp_all [eqCommand])) (AOs.a rfl (AOs.a rfl AOs.e))
 refine CW.g XK 35 [.p,.e [2,3],.n 1,.e [2,3,24]] rfl rfl rfl ?_
 refine CW.cond rfl (fun h6 => ?_) (fun h6 => ?_)
 refine CW.g XK 35 [.n 1,.e [4]] rfl rfl rfl ?_
 refine CW.ret ?_
 exact Post.one (RV.b rfl (by simp_all [eqCommand])) (AOs.a rfl (AOs.a rfl AOs.e))
 refine CW.g XK 35 [.p,.e [2,3],.n 1,.e [2,3,29]] rfl rfl rfl ?_
 refine CW.cond rfl (fun h7 => ?_) (fun h7 => ?_)
 refine CW.g XK 35 [.n 1,.e [4]] rfl rfl rfl ?_
 refine CW.ret ?_
 exact Post.one (RV.b rfl (by simp_all [eqCommand])) (AOs.a rfl (AOs.a rfl AOs.e))
 refine CW.g XK 35 [.p,.e [2,3],.n 1,.e [34]] rfl rfl rfl ?_
 refine CW.cond rfl (fun h8 => ?_) (fun h8 => ?_)
 refine CW.g XK 35 [.n 1,.e [4]] rfl rfl rfl ?_
 refine CW.ret ?_
 exact Post.one (RV.b rfl (by simp_all [eqCommand])) (AOs.a rfl (AOs.a rfl AOs.e))
 refine CW.g XK 35 [.p,.e [],.n 1,.e [4]] rfl rfl rfl ?_
 refine CW.ret ?_
 exact Post.one (RV.b rfl (by simp_all [eqCommand])) (AOs.a rfl (AOs.a rfl AOs.e))
set_option maxHeartbeats 4000000 in
theorem laws_eqReply_fn (a : Reply) (b : Reply) : Eng.Fn E.P 87 [.agg ((Reply.c a).map .r), .agg ((Reply.c b).map .r)] (.one (.one (.w (.v (.bool (eqReply a b)))))) [.agg ((Reply.c a).map .r), .agg ((Reply.c b).map .r)] := by
 refine Eng.Fn.intro (E := E) (rvs := [.tmp 4]) Tryz.func87 rfl rfl rfl (by simp [outSlots, moved, rvSlot, sl]) ?_
 intro B g bo
 refine CW.h XK 31 [.e [0,1],.o 1] rfl ?_;(conv=>whnf);intro b1;(conv=>whnf);refine ⟨rfl,?_⟩
 refine RW.freezeB (ts := (Reply.c a)) 2 rfl (DRd.r (DRd.r (DRd.r (DRd.r (DRd.r (DRd.r (DRd.r (DRd.r (DRd.r (DRd.r DRd.e)))))))))) ?_
 refine RW.h XK 31 [.o 1] rfl ?_;(conv=>whnf);intro b2;(conv=>whnf);refine ⟨rfl,?_⟩
 refine RW.freezeB (ts := (Reply.c b)) 3 rfl (DRd.r (DRd.r (DRd.r (DRd.r (DRd.r (DRd.r (DRd.r (DRd.r (DRd.r (DRd.r DRd.e)))))))))) ?_
 refine RW.g XK 31 [.o 1,.p,.e [2,3],.n 1,.e [2,3,9]] rfl rfl rfl ?_
 refine CW.cond rfl (fun h3 => ?_) (fun h3 => ?_)
 refine CW.g XK 31 [.n 1,.e [4]] rfl rfl rfl ?_
 refine CW.ret ?_
 exact Post.one (RV.b rfl (by simp_all [eqReply])) (AOs.a rfl (AOs.a rfl AOs.e))
 refine CW.g XK 31 [.p,.e [2,3],.n 1,.e [2,3,14]] rfl rfl rfl ?_
 refine CW.cond rfl (fun h4 => ?_) (fun h4 => ?_)
 refine CW.g XK 31 [.n 1,.e [4]] rfl rfl rfl ?_
 refine CW.ret ?_
 exact Post.one (RV.b rfl (by simp_all [eqReply])) (AOs.a rfl (AOs.a rfl AOs.e))
 refine CW.g XK 31 [.p,.e [2,3],.n 1,.e [2,3,19]] rfl rfl rfl ?_
 refine CW.cond rfl (fun h5 => ?_) (fun h5 => ?_)
 refine CW.g XK 31 [.n 1,.e [4]] rfl rfl rfl ?_
 refine CW.ret ?_
 exact Post.one (RV.b rfl (by simp_all [eqReply])) (AOs.a rfl (AOs.a rfl AOs.e))
 refine CW.g XK 31 [.p,.e [2,3],.o 4] rfl rfl rfl ?_
 refine RW.call rfl (laws_eqCommand_fn a.command b.command) rfl (.cons (.agg (.cons (.r .r) (.cons (.r .r) (.cons (.r .r) (.cons (.r .r) (.cons (.r .r) (.cons (.r .r) (.nil)))))))) (.cons (.agg (.cons (.r .r) (.cons (.r .r) (.cons (.r .r) (.cons (.r .r) (.cons (.r .r) (.cons (.r .r) (.nil)))))))) (.nil))) fun g6 => ?_
 refine RW.g XK 31 [.o 1,.p,.e [2,3,25]] rfl rfl rfl ?_
 refine CW.cond rfl (fun h7 => ?_) (fun h7 => ?_)
 refine CW.g XK 31 [.n 1,.e [4]] rfl rfl rfl ?_
 refine CW.ret ?_
 exact Post.one (RV.b rfl (by simp_all [eqReply])) (AOs.a rfl (AOs.a rfl AOs.e))
 refine CW.g XK 31 [.p,.e [2,3],.n 1,.e [30]] rfl rfl rfl ?_
 refine CW.cond rfl (fun h8 => ?_) (fun h8 => ?_)
 refine CW.g XK 31 [.n 1,.e [4]] rfl rfl rfl ?_
 refine CW.ret ?_
 exact Post.one (RV.b rfl (by simp_all [eqReply])) (AOs.a rfl (AOs.a rfl AOs.e))
 refine CW.g XK 31 [.p,.e [],.n 1,.e [4]] rfl rfl rfl ?_
 refine CW.ret ?_
 exact Post.one (RV.b rfl (by simp_all [eqReply])) (AOs.a rfl (AOs.a rfl AOs.e))
set_option maxHeartbeats 4000000 in
theorem laws_eqReplyS_fn (a : List Reply) (b : List Reply) : Eng.Fn E.P 45 [.one (.r (sl 10 Reply.c a)), .one (.r (sl 10 Reply.c b))] (.one (.one (.w (.v (.bool (eqS eqReply a b)))))) [.one (.r (sl 10 Reply.c a)), .one (.r (sl 10 Reply.c b))] := by
 refine Eng.Fn.intro (E := E) (rvs := [.tmp 4]) Tryz.func45 rfl rfl rfl (by simp [outSlots, moved, rvSlot, sl]) ?_
 intro B g bo
 refine CW.bound (x := .tmp 0) (n := a.length) (AsT.r) (fun hl0 => ?_)
 refine CW.bound (x := .tmp 1) (n := b.length) (AsT.r) (fun hl1 => ?_)
 refine CW.g XK 27 [.e [0,1],.n 1,.e [0,1],.n 1,.e [0,1,10]] rfl rfl rfl ?_
 refine CW.cond rfl (fun h1 => ?_) (fun h1 => ?_)
 refine CW.g XK 27 [.n 1,.e [4]] rfl rfl rfl ?_
 refine CW.ret ?_
 exact Post.one (RV.b rfl (by first | (simp_all [eqS, eqI, eqStr, eqB]; done) | exact (eqS_ne (by simp_all; omega)).symm)) (AOs.r (AOs.r AOs.e))
 refine CW.g XK 27 [.p,.e [0,1],.n 1,.e [0,1,5],.p] rfl rfl rfl ?_
 refine CW.loopI 27 (fun (i : Nat) => [(0, .r (sl 10 Reply.c a)), (1, .r (sl 10 Reply.c b)), (5, I (i : Int))]) (fun (i : Nat) => i ≤ a.length ∧ eqS eqReply (a.drop i) (b.drop i) = eqS eqReply a b) (fun (i : Nat) => a.length - i) 0 rfl (Le.c rfl <| Le.c rfl <| Le.c rfl <| Le.e) ⟨by omega, by simp⟩ ?_
 rintro i ⟨hb, hr⟩
 have hlen : a.length = b.length := by simp at h1; omega
 refine CW.g XK 27 [.n 1,.e [0,1,5,14]] rfl rfl rfl ?_
 refine CW.cond rfl (fun h2 => ?_) (fun h2 => ?_)
 have hii : i < a.length := by have := h2; simp at this; first | exact this | omega | (simp; done) | (simp; omega)
 obtain ⟨ei, hei⟩ : ∃ e, a[i]? = some e := ⟨_, List.getElem?_eq_getElem hii⟩
 have hdi := drop_get hei
 have hib : i < b.length := by omega
 obtain ⟨eb, heb⟩ : ∃ e, b[i]? = some e := ⟨_, List.getElem?_eq_getElem hib⟩
 have hdb := drop_get heb
 refine CW.g XK 27 [.p,.e [0,1,5],.p,.p,.p] rfl rfl rfl ?_
 refine CW.drawn (by kernel_rfl) ?_
 refine RQ.k XK 27 2 rfl ?_
 (conv=>whnf);refine ⟨rfl,?_⟩
 refine RQ.v rfl (V.indexS rfl rfl rfl rfl rfl rfl Reply.len hei) ?_
 refine RQ.k XK 27 3 rfl ?_
 (conv=>whnf);refine ⟨rfl,?_⟩
 refine RQ.v rfl (V.indexS rfl rfl rfl rfl rfl rfl Reply.len heb) ?_
 refine RQ.k XK 27 1 rfl ?_
 (conv=>whnf);refine ⟨rfl,?_⟩
 refine RQ.cons rfl (QOK.call (laws_eqReply_fn ei eb) rfl (.cons (.agg (.cons (.r .r) (.cons (.r .r) (.cons (.r .r) (.cons (.r .r) (.cons (.r .r) (.cons (.r .r) (.cons (.r .r) (.cons (.r .r) (.cons (.r .r) (.cons (.r .r) (.nil)))))))))))) (.cons (.agg (.cons (.r .r) (.cons (.r .r) (.cons (.r .r) (.cons (.r .r) (.cons (.r .r) (.cons (.r .r) (.cons (.r .r) (.cons (.r .r) (.cons (.r .r) (.cons (.r .r) (.nil)))))))))))) (.nil))) ?_)
 refine RQ.k XK 27 1 rfl ?_
 (conv=>whnf);refine ⟨rfl,?_⟩
 refine RQ.nil ?_
 refine CW.g XK 27 [.e [0,1,5,26]] rfl rfl rfl ?_
 refine CW.cond rfl (fun h3 => ?_) (fun h3 => ?_)
 refine CW.g XK 27 [.n 1,.e [4]] rfl rfl rfl ?_
 refine CW.ret ?_
 exact Post.one (RV.b rfl (by first | (simp_all [eqS, eqI, eqStr, eqB]; done) | exact (eqS_ne (by simp_all; omega)).symm)) (AOs.r (AOs.r AOs.e))
 refine CW.g XK 27 [.p,.e [0,1,5],.o 1] rfl rfl rfl ?_
 refine RW.v rfl (V.inc rfl rfl rfl hii hl0) ?_
 refine RW.g XK 27 [.o 1,.p] rfl rfl rfl ?_
 exact ⟨i + 1, by omega, ⟨by omega, by simp_all [eqS, eqI, eqStr, eqB]⟩, rfl, Le.c rfl <| Le.c rfl <| Le.c rfl <| Le.e⟩
 have hii : a.length ≤ i := by have := h2; simp at this; first | exact this | omega | (simp; done) | (simp; omega)
 have hdi : a.drop i = [] := List.drop_eq_nil_of_le hii
 refine CW.exit ?_
 refine CW.g XK 27 [.e [],.n 1,.e [4]] rfl rfl rfl ?_
 refine CW.ret ?_
 exact Post.one (RV.b rfl (by rw [← hr, hdi, List.drop_eq_nil_of_le (show b.length ≤ i by omega)]; rfl)) (AOs.r (AOs.r AOs.e))
set_option maxHeartbeats 4000000 in
theorem laws_eqWorld_fn (a : World) (b : World) : Eng.Fn E.P 10 [.agg ((World.c a).map .r), .agg ((World.c b).map .r)] (.one (.one (.w (.v (.bool (eqWorld a b)))))) [.agg ((World.c a).map .r), .agg ((World.c b).map .r)] := by
 refine Eng.Fn.intro (E := E) (rvs := [.tmp 4]) Tryz.func10 rfl rfl rfl (by simp [outSlots, moved, rvSlot, sl]) ?_
 intro B g bo
 refine CW.h XK 47 [.e [0,1],.o 1] rfl ?_;(conv=>whnf);intro b1;(conv=>whnf);refine ⟨rfl,?_⟩
 refine RW.freezeB (ts := (World.c a)) 2 rfl (DRd.r (DRd.r (DRd.r (DRd.r (DRd.r (DRd.r (DRd.r DRd.e))))))) ?_
 refine RW.h XK 47 [.o 1] rfl ?_;(conv=>whnf);intro b2;(conv=>whnf);refine ⟨rfl,?_⟩
 refine RW.freezeB (ts := (World.c b)) 3 rfl (DRd.r (DRd.r (DRd.r (DRd.r (DRd.r (DRd.r (DRd.r DRd.e))))))) ?_
 refine RW.g XK 47 [.o 1,.p,.e [2,3],.o 4] rfl rfl rfl ?_
 refine RW.call rfl (laws_eqBoolS_fn a.up b.up) rfl (.cons (.one (.r .r)) (.cons (.one (.r .r)) (.nil))) fun g3 => ?_
 refine RW.g XK 47 [.o 1,.p,.e [2,3,10]] rfl rfl rfl ?_
 refine CW.cond rfl (fun h4 => ?_) (fun h4 => ?_)
 refine CW.g XK 47 [.n 1,.e [4]] rfl rfl rfl ?_
 refine CW.ret ?_
 exact Post.one (RV.b rfl (by simp_all [eqWorld])) (AOs.a rfl (AOs.a rfl AOs.e))
 refine CW.g XK 47 [.p,.e [2,3],.o 4] rfl rfl rfl ?_
 refine RW.call rfl (laws_eqServerS_fn a.servers b.servers) rfl (.cons (.one (.r .r)) (.cons (.one (.r .r)) (.nil))) fun g5 => ?_
 refine RW.g XK 47 [.o 1,.p,.e [2,3,16]] rfl rfl rfl ?_
 refine CW.cond rfl (fun h6 => ?_) (fun h6 => ?_)
 refine CW.g XK 47 [.n 1,.e [4]] rfl rfl rfl ?_
 refine CW.ret ?_
 exact Post.one (RV.b rfl (by simp_all [eqWorld])) (AOs.a rfl (AOs.a rfl AOs.e))
 refine CW.g XK 47 [.p,.e [2,3],.o 4] rfl rfl rfl ?_
 refine RW.call rfl (laws_eqMessageS_fn a.net b.net) rfl (.cons (.one (.r .r)) (.cons (.one (.r .r)) (.nil))) fun g7 => ?_
 refine RW.g XK 47 [.o 1,.p,.e [2,3,22]] rfl rfl rfl ?_
 refine CW.cond rfl (fun h8 => ?_) (fun h8 => ?_)
 refine CW.g XK 47 [.n 1,.e [4]] rfl rfl rfl ?_
 refine CW.ret ?_
 exact Post.one (RV.b rfl (by simp_all [eqWorld])) (AOs.a rfl (AOs.a rfl AOs.e))
 refine CW.g XK 47 [.p,.e [2,3],.o 4] rfl rfl rfl ?_
 refine RW.call rfl (laws_eqWaitS_fn a.waits b.waits) rfl (.cons (.one (.r .r)) (.cons (.one (.r .r)) (.nil))) fun g9 => ?_
 refine RW.g XK 47 [.o 1,.p,.e [2,3,28]] rfl rfl rfl ?_
 refine CW.cond rfl (fun h10 => ?_) (fun h10 => ?_)
 refine CW.g XK 47 [.n 1,.e [4]] rfl rfl rfl ?_
 refine CW.ret ?_
 exact Post.one (RV.b rfl (by simp_all [eqWorld])) (AOs.a rfl (AOs.a rfl AOs.e))
 refine CW.g XK 47 [.p,.e [2,3],.o 4] rfl rfl rfl ?_
 refine RW.call rfl (laws_eqLeaderS_fn a.leaders b.leaders) rfl (.cons (.one (.r .r)) (.cons (.one (.r .r)) (.nil))) fun g11 => ?_
 refine RW.g XK 47 [.o 1,.p,.e [2,3,34]] rfl rfl rfl ?_
 refine CW.cond rfl (fun h12 => ?_) (fun h12 => ?_)
 refine CW.g XK 47 [.n 1,.e [4]] rfl rfl rfl ?_
 refine CW.ret ?_
 exact Post.one (RV.b rfl (by simp_all [eqWorld])) (AOs.a rfl (AOs.a rfl AOs.e))
 refine CW.g XK 47 [.p,.e [2,3],.o 4] rfl rfl rfl ?_
 refine RW.call rfl (laws_eqAppliedS_fn a.applied b.applied) rfl (.cons (.one (.r .r)) (.cons (.one (.r .r)) (.nil))) fun g13 => ?_
 refine RW.g XK 47 [.o 1,.p,.e [2,3,40]] rfl rfl rfl ?_
 refine CW.cond rfl (fun h14 => ?_) (fun h14 => ?_)
 refine CW.g XK 47 [.n 1,.e [4]] rfl rfl rfl ?_
 refine CW.ret ?_
 exact Post.one (RV.b rfl (by simp_all [eqWorld])) (AOs.a rfl (AOs.a rfl AOs.e))
 refine CW.g XK 47 [.p,.e [2,3],.o 4] rfl rfl rfl ?_
 refine RW.call rfl (laws_eqReplyS_fn a.replies b.replies) rfl (.cons (.one (.r .r)) (.cons (.one (.r .r)) (.nil))) fun g15 => ?_
 refine RW.g XK 47 [.o 1,.p,.e [46]] rfl rfl rfl ?_
 refine CW.cond rfl (fun h16 => ?_) (fun h16 => ?_)
 refine CW.g XK 47 [.n 1,.e [4]] rfl rfl rfl ?_
 refine CW.ret ?_
 exact Post.one (RV.b rfl (by simp_all [eqWorld])) (AOs.a rfl (AOs.a rfl AOs.e))
 refine CW.g XK 47 [.p,.e [],.n 1,.e [4]] rfl rfl rfl ?_
 refine CW.ret ?_
 exact Post.one (RV.b rfl (by simp_all [eqWorld])) (AOs.a rfl (AOs.a rfl AOs.e))
set_option maxHeartbeats 4000000 in
theorem laws_FnExactVersions_fn (a : World) (hok : okWorld a) : Eng.Fn E.P 3 [.agg ((World.c a).map .r)] (.one (.one (.w (.v (.bool true))))) [.agg ((World.c a).map .r)] := by
 refine Eng.Fn.intro (E := E) (rvs := [.tmp 2]) Tryz.func3 rfl rfl rfl (by simp [outSlots, moved, rvSlot, sl]) ?_
 intro B g bo
 refine CW.h XK 27 [.e [0],.o 1] rfl ?_;(conv=>whnf);intro b1;(conv=>whnf);refine ⟨rfl,?_⟩
 refine RW.freezeB (ts := (World.c a)) 1 rfl (DRd.r (DRd.r (DRd.r (DRd.r (DRd.r (DRd.r (DRd.r DRd.e))))))) ?_
 refine RW.g XK 27 [.o 1,.p,.e [1],.n 1,.e [1,3],.o 2] rfl rfl rfl ?_
 refine RW.call rfl (laws_szWorld_fn a 1048576) rfl (.cons (.agg (.cons (.r .r) (.cons (.r .r) (.cons (.r .r) (.cons (.r .r) (.cons (.r .r) (.cons (.r .r) (.cons (.r .r) (.nil))))))))) (.cons (.one (.r .r)) (.nil))) fun g2 => ?_
 refine RW.g XK 27 [.o 1,.p,.e [1,3],.n 1,.e [1,11]] rfl rfl rfl ?_
 refine CW.cond rfl (fun h3 => ?_) (fun h3 => ?_)
 refine CW.g XK 27 [.n 1,.e [2]] rfl rfl rfl ?_
 refine CW.ret ?_
 exact Post.one (RV.b rfl (by first | rfl | simp_all [eqWorld_refl])) (AOs.a rfl AOs.e)
 have hP : okToWorld a := (szWorld_ok a 1048576 hok (by omega) (by omega) (by simpa using h3)).1
 refine CW.g XK 27 [.p,.e [1],.o 1] rfl rfl rfl ?_
 refine RW.call rfl (laws_toWorld_fn a hP) rfl (.cons (.agg (.cons (.r .r) (.cons (.r .r) (.cons (.r .r) (.cons (.r .r) (.cons (.r .r) (.cons (.r .r) (.cons (.r .r) (.nil))))))))) (.nil)) fun g4 => ?_
 refine RW.callOwn rfl (spec_Versions_fn a hP) rfl (.cons (.agg (.cons (.r (.ala (k := none) (i := 13) (j := 0) (sz := 1) (V := (g4 0 0)) rfl rfl rfl nofun)) (.cons (.r (.ala (k := none) (i := 13) (j := 1) (sz := 27) (V := (g4 0 1)) rfl rfl rfl nofun)) (.cons (.r (.ala (k := none) (i := 13) (j := 2) (sz := 12) (V := (g4 0 2)) rfl rfl rfl nofun)) (.cons (.r (.ala (k := none) (i := 13) (j := 3) (sz := 4) (V := (g4 0 3)) rfl rfl rfl nofun)) (.cons (.r (.ala (k := none) (i := 13) (j := 4) (sz := 5) (V := (g4 0 4)) rfl rfl rfl nofun)) (.cons (.r (.ala (k := none) (i := 13) (j := 5) (sz := 6) (V := (g4 0 5)) rfl rfl rfl nofun)) (.cons (.r (.ala (k := none) (i := 13) (j := 6) (sz := 10) (V := (g4 0 6)) rfl rfl rfl nofun)) (.nil))))))))) (.nil)) rfl fun g5 => ?_
 refine RW.g XK 27 [.o 1,.p,.e [1,4],.o 1] rfl rfl rfl ?_
 refine RW.call rfl (laws_toWorld_fn a hP) rfl (.cons (.agg (.cons (.r .r) (.cons (.r .r) (.cons (.r .r) (.cons (.r .r) (.cons (.r .r) (.cons (.r .r) (.cons (.r .r) (.nil))))))))) (.nil)) fun g6 => ?_
 refine RW.h XK 27 [.o 2,.e [1,4,5,16]] rfl ?_;(conv=>whnf);intro b7;(conv=>whnf);refine ⟨rfl,?_⟩
 refine RW.pullA (k := 5) (l := 16) (j := 0) 5 16 0 rfl rfl rfl (by decide) rfl rfl rfl rfl ?_
 refine RW.g XK 27 [.e [1,4,5,16]] rfl rfl rfl ?_
 refine RW.pullA (k := 5) (l := 16) (j := 1) 5 16 1 rfl rfl rfl (by decide) rfl rfl rfl rfl ?_
 refine RW.g XK 27 [.e [1,4,5,16]] rfl rfl rfl ?_
 refine RW.pullA (k := 5) (l := 16) (j := 2) 5 16 2 rfl rfl rfl (by decide) rfl rfl rfl rfl ?_
 refine RW.g XK 27 [.e [1,4,5,16]] rfl rfl rfl ?_
 refine RW.pullA (k := 5) (l := 16) (j := 3) 5 16 3 rfl rfl rfl (by decide) rfl rfl rfl rfl ?_
 refine RW.g XK 27 [.e [1,4,5,16]] rfl rfl rfl ?_
 refine RW.pullA (k := 5) (l := 16) (j := 4) 5 16 4 rfl rfl rfl (by decide) rfl rfl rfl rfl ?_
 refine RW.g XK 27 [.e [1,4,5,16]] rfl rfl rfl ?_
 refine RW.pullA (k := 5) (l := 16) (j := 5) 5 16 5 rfl rfl rfl (by decide) rfl rfl rfl rfl ?_
 refine RW.g XK 27 [.e [1,4,5,16]] rfl rfl rfl ?_
 refine RW.pullA (k := 5) (l := 16) (j := 6) 5 16 6 rfl rfl rfl (by decide) rfl rfl rfl rfl ?_
 refine RW.g XK 27 [.e [1,4,5],.p,.e [1,4,5],.o 1] rfl rfl rfl ?_
 refine RW.callOwn rfl (impl_Versions_fn a hP) rfl (.cons (.agg (.cons (.r (.alo (k := none) (i := 5) (j := 0) (sz := 1) (V := (g6 0 0)) rfl rfl rfl nofun)) (.cons (.r (.alo (k := none) (i := 5) (j := 1) (sz := 27) (V := (g6 0 1)) rfl rfl rfl nofun)) (.cons (.r (.alo (k := none) (i := 5) (j := 2) (sz := 12) (V := (g6 0 2)) rfl rfl rfl nofun)) (.cons (.r (.alo (k := none) (i := 5) (j := 3) (sz := 4) (V := (g6 0 3)) rfl rfl rfl nofun)) (.cons (.r (.alo (k := none) (i := 5) (j := 4) (sz := 5) (V := (g6 0 4)) rfl rfl rfl nofun)) (.cons (.r (.alo (k := none) (i := 5) (j := 5) (sz := 6) (V := (g6 0 5)) rfl rfl rfl nofun)) (.cons (.r (.alo (k := none) (i := 5) (j := 6) (sz := 10) (V := (g6 0 6)) rfl rfl rfl nofun)) (.nil))))))))) (.nil)) rfl fun g8 => ?_
 refine RW.g XK 27 [.o 1,.p,.e [1,4,5,6],.o 2] rfl rfl rfl ?_
 refine RW.v rfl (V.eqBool rfl rfl rfl (by kernel_rfl) (.inr ⟨rfl, rfl⟩)) ?_
 refine RW.g XK 27 [.p,.e [1,5,21]] rfl rfl rfl ?_
 refine CW.cond rfl (fun h9 => ?_) (fun h9 => ?_)
 refine CW.g XK 27 [.n 1,.e [2]] rfl rfl rfl ?_
 refine CW.ret ?_
 exact Post.one (RV.b rfl (by first | rfl | simp_all [eqWorld_refl])) (AOs.a rfl AOs.e)
 refine CW.g XK 27 [.p,.e [1,5],.p] rfl rfl rfl ?_
 refine CW.anyJ2 (fc := [(5, b7, [(g6 0 0), (g6 0 1), (g6 0 2), (g6 0 3), (g6 0 4), (g6 0 5), (g6 0 6)])]) (L0 := [(5, .obj b7 [.w (sl 1 cB a.up) (g6 0 0), .w (sl 27 Server.c a.servers) (g6 0 1), .w (sl 12 Message.c a.net) (g6 0 2), .w (sl 4 Wait.c a.waits) (g6 0 3), .w (sl 5 Leader.c a.leaders) (g6 0 4), .w (sl 6 Applied.c a.applied) (g6 0 5), .w (sl 10 Reply.c a.replies) (g6 0 6)])]) 27 (fun (zz : (Nat → Nat → Value) × (Nat → Nat → Value)) => match zz with | (go10_2_1, go10_3_1) => [(26, Bo (!(eqWorld a a)))]) (fun all hall f hf b0 hb K hK => ?_) ?_
 have ro10_2 : ∀ B, ∀ (go10_2_1 : Nat → Nat → Value), ∀ (go10_3_1 : Nat → Nat → Value), RA f E B all 0 (bt 5 31) ⟨27, [(26, Bo (!(eqWorld a a)))] ++ b0⟩ K := by
  intro B go10_2_1 go10_3_1
  exact RA.of2 hall hf hb (RA.finH (Tell.of rfl) (by kernel_rfl) (hK (go10_2_1, go10_3_1) _ rfl (Le.of rfl)))
 have ro10_1 : ∀ B, ∀ (go10_2_1 : Nat → Nat → Value), RA f E B all 2 (bt 5 7) ⟨27, [(22, .agg [.al 5 (some 0) 1 a.up.length (g6 0 0) 0, .al 5 (some 1) 27 a.servers.length (g6 0 1) 0, .al 5 (some 2) 12 a.net.length (g6 0 2) 0, .al 5 (some 3) 4 a.waits.length (g6 0 3) 0, .al 5 (some 4) 5 a.leaders.length (g6 0 4) 0, .al 5 (some 5) 6 a.applied.length (g6 0 5) 0, .al 5 (some 6) 10 a.replies.length (g6 0 6) 0]), (24, .agg [.w (sl 1 cB a.up) (go10_2_1 0 0), .w (sl 27 Server.c a.servers) (go10_2_1 0 1), .w (sl 12 Message.c a.net) (go10_2_1 0 2), .w (sl 4 Wait.c a.waits) (go10_2_1 0 3), .w (sl 5 Leader.c a.leaders) (go10_2_1 0 4), .w (sl 6 Applied.c a.applied) (go10_2_1 0 5), .w (sl 10 Reply.c a.replies) (go10_2_1 0 6)])] ++ b0⟩ K := by
  intro B go10_2_1
  refine RA.of2 hall hf hb (RA.stepH (L := [3]) (Tell.of rfl) (by kernel_rfl) (by simp) (RA.each ?_ (RA.each0)))
  refine RO.callOwn rfl rfl (laws_eqWorld_fn a a) rfl (.cons (.agg (.cons (.r (.alo (k := none) (i := 5) (j := 0) (sz := 1) (V := (g6 0 0)) rfl rfl rfl nofun)) (.cons (.r (.alo (k := none) (i := 5) (j := 1) (sz := 27) (V := (g6 0 1)) rfl rfl rfl nofun)) (.cons (.r (.alo (k := none) (i := 5) (j := 2) (sz := 12) (V := (g6 0 2)) rfl rfl rfl nofun)) (.cons (.r (.alo (k := none) (i := 5) (j := 3) (sz := 4) (V := (g6 0 3)) rfl rfl rfl nofun)) (.cons (.r (.alo (k := none) (i := 5) (j := 4) (sz := 5) (V := (g6 0 4)) rfl rfl rfl nofun)) (.cons (.r (.alo (k := none) (i := 5) (j := 5) (sz := 6) (V := (g6 0 5)) rfl rfl rfl nofun)) (.cons (.r (.alo (k := none) (i := 5) (j := 6) (sz := 10) (V := (g6 0 6)) rfl rfl rfl nofun)) (.nil))))))))) (.cons (.agg (.cons (.r (.ala (k := none) (i := 24) (j := 0) (sz := 1) (V := (go10_2_1 0 0)) rfl rfl rfl nofun)) (.cons (.r (.ala (k := none) (i := 24) (j := 1) (sz := 27) (V := (go10_2_1 0 1)) rfl rfl rfl nofun)) (.cons (.r (.ala (k := none) (i := 24) (j := 2) (sz := 12) (V := (go10_2_1 0 2)) rfl rfl rfl nofun)) (.cons (.r (.ala (k := none) (i := 24) (j := 3) (sz := 4) (V := (go10_2_1 0 3)) rfl rfl rfl nofun)) (.cons (.r (.ala (k := none) (i := 24) (j := 4) (sz := 5) (V := (go10_2_1 0 4)) rfl rfl rfl nofun)) (.cons (.r (.ala (k := none) (i := 24) (j := 5) (sz := 6) (V := (go10_2_1 0 5)) rfl rfl rfl nofun)) (.cons (.r (.ala (k := none) (i := 24) (j := 6) (sz := 10) (V := (go10_2_1 0 6)) rfl rfl rfl nofun)) (.nil))))))))) (.nil))) rfl rfl fun go10_3_1 => ?_
  refine RA.fr XK 27 0 [4] (bt 5 31) rfl rfl (by kernel_rfl) (Tell.of rfl) ?_
  (conv=>whnf);refine ⟨rfl,fun B=>?_⟩
  exact RA.to2 hall hf hb (ro10_2 B go10_2_1 go10_3_1) rfl rfl (by kernel_rfl)
 have ro10_0 : ∀ B, RA f E B all 3 (bt 5 3) ⟨27, [(22, .agg [.al 5 (some 0) 1 a.up.length (g6 0 0) 0, .al 5 (some 1) 27 a.servers.length (g6 0 1) 0, .al 5 (some 2) 12 a.net.length (g6 0 2) 0, .al 5 (some 3) 4 a.waits.length (g6 0 3) 0, .al 5 (some 4) 5 a.leaders.length (g6 0 4) 0, .al 5 (some 5) 6 a.applied.length (g6 0 5) 0, .al 5 (some 6) 10 a.replies.length (g6 0 6) 0]), (23, .agg ((World.c a).map .r))] ++ b0⟩ K := by
  intro B
  refine RA.of2 hall hf hb (RA.stepH (L := [2]) (Tell.of rfl) (by kernel_rfl) (by simp) (RA.each ?_ (RA.each0)))
  refine RO.call rfl rfl (laws_toWorld_fn a hP) rfl (.cons (.agg (.cons (.r .r) (.cons (.r .r) (.cons (.r .r) (.cons (.r .r) (.cons (.r .r) (.cons (.r .r) (.cons (.r .r) (.nil))))))))) (.nil)) rfl fun go10_2_1 => ?_
  exact RA.to2 hall hf hb (ro10_1 B go10_2_1) rfl rfl (by kernel_rfl)
 refine RA.start (by kernel_rfl) (by kernel_rfl) (m := 5) (ls' := (bt 5 0)) ?_
 refine RA.fr XK 27 3 [0,1] (bt 5 3) rfl rfl (by kernel_rfl) (Tell.of rfl) ?_
 (conv=>whnf);refine ⟨rfl,fun B=>?_⟩
 exact RA.to2 hall hf hb (ro10_0 B) rfl rfl (by kernel_rfl)
 rintro ⟨go10_2_1, go10_3_1⟩
 refine CW.cond rfl (fun h11 => ?_) (fun h11 => ?_)
 refine CW.g XK 27 [.n 1,.e [2]] rfl rfl rfl ?_
 refine CW.ret ?_
 exact Post.one (RV.b rfl (by first | rfl | simp_all [eqWorld_refl])) (AOs.a rfl AOs.e)
 refine CW.g XK 27 [.p,.e [],.n 1,.e [2]] rfl rfl rfl ?_
 refine CW.ret ?_
 exact Post.one (RV.b rfl (by first | rfl | simp_all [eqWorld_refl])) (AOs.a rfl AOs.e)
end Go.Proofs.YtdipdkfbaehglaaGreatDoor.Y
