import Derived.Test.YtdipdkfbaehglaaGreatDoorWSoundP
namespace Go.Proofs.YtdipdkfbaehglaaGreatDoor.Y
open Go Go.RowKit Go.Eng Go.Proofs
set_option maxRecDepth 10000
set_option maxHeartbeats 4000000 in
theorem laws_eqApplied_fn (a : Applied) (b : Applied) : Eng.Fn E.P 86 [.agg ((Applied.c a).map .r), .agg ((Applied.c b).map .r)] (.one (.one (.w (.v (.bool (eqApplied a b)))))) [.agg ((Applied.c a).map .r), .agg ((Applied.c b).map .r)] := by
 refine Eng.Fn.intro (E := E) (rvs := [.tmp 4]) Tryz.func86 rfl rfl rfl (by simp [outSlots, moved, rvSlot, sl]) ?_
 intro B g bo
 refine CW.h XK 26 [.e [0,1],.o 1] rfl ?_;(conv=>whnf);intro b1;(conv=>whnf);refine ⟨rfl,?_⟩
 refine RW.freezeB (ts := (Applied.c a)) 2 rfl (DRd.r (DRd.r (DRd.r (DRd.r (DRd.r (DRd.r DRd.e)))))) ?_
 refine RW.h XK 26 [.o 1] rfl ?_;(conv=>whnf);intro b2;(conv=>whnf);refine ⟨rfl,?_⟩
 refine RW.freezeB (ts := (Applied.c b)) 3 rfl (DRd.r (DRd.r (DRd.r (DRd.r (DRd.r (DRd.r DRd.e)))))) ?_
 refine RW.g XK 26 [.o 1,.p,.e [2,3],.n 1,.e [2,3,9]] rfl rfl rfl ?_
 refine CW.cond rfl (fun h3 => ?_) (fun h3 => ?_)
 refine CW.g XK 26 [.n 1,.e [4]] rfl rfl rfl ?_
 refine CW.ret ?_
 exact Post.one (RV.b rfl (by simp_all [eqApplied])) (AOs.a rfl (AOs.a rfl AOs.e))
 refine CW.g XK 26 [.p,.e [2,3],.n 1,.e [2,3,14]] rfl rfl rfl ?_
 refine CW.cond rfl (fun h4 => ?_) (fun h4 => ?_)
 refine CW.g XK 26 [.n 1,.e [4]] rfl rfl rfl ?_
 refine CW.ret ?_
 exact Post.one (RV.b rfl (by simp_all [eqApplied])) (AOs.a rfl (AOs.a rfl AOs.e))
 refine CW.g XK 26 [.p,.e [2,3],.n 1,.e [2,3,19]] rfl rfl rfl ?_
 refine CW.cond rfl (fun h5 => ?_) (fun h5 => ?_)
 refine CW.g XK 26 [.n 1,.e [4]] rfl rfl rfl ?_
 refine CW.ret ?_
 exact Post.one (RV.b rfl (by simp_all [eqApplied])) (AOs.a rfl (AOs.a rfl AOs.e))
 refine CW.g XK 26 [.p,.e [2,3],.o 4] rfl rfl rfl ?_
 refine RW.call rfl (laws_eqEntry_fn a.entry b.entry) rfl (.cons (.agg (.cons (.r .r) (.cons (.r .r) (.cons (.r .r) (.nil))))) (.cons (.agg (.cons (.r .r) (.cons (.r .r) (.cons (.r .r) (.nil))))) (.nil))) fun g6 => ?_
 refine RW.g XK 26 [.o 1,.p,.e [25]] rfl rfl rfl ?_
 refine CW.cond rfl (fun h7 => ?_) (fun h7 => ?_)
 refine CW.g XK 26 [.n 1,.e [4]] rfl rfl rfl ?_
 refine CW.ret ?_
 exact Post.one (RV.b rfl (by simp_all [eqApplied])) (AOs.a rfl (AOs.a rfl AOs.e))
 refine CW.g XK 26 [.p,.e [],.n 1,.e [4]] rfl rfl rfl ?_
 refine CW.ret ?_
 exact Post.one (RV.b rfl (by simp_all [eqApplied])) (AOs.a rfl (AOs.a rfl AOs.e))
set_option maxHeartbeats 4000000 in
theorem laws_eqAppliedS_fn (a : List Applied) (b : List Applied) : Eng.Fn E.P 44 [.one (.r (sl 6 Applied.c a)), .one (.r (sl 6 Applied.c b))] (.one (.one (.w (.v (.bool (eqS eqApplied a b)))))) [.one (.r (sl 6 Applied.c a)), .one (.r (sl 6 Applied.c b))] := by
 refine Eng.Fn.intro (E := E) (rvs := [.tmp 4]) Tryz.func44 rfl rfl rfl (by simp [outSlots, moved, rvSlot, sl]) ?_
 intro B g bo
 refine CW.bound (x := .tmp 0) (n := a.length) (AsT.r) (fun hl0 => ?_)
 refine CW.bound (x := .tmp 1) (n := b.length) (AsT.r) (fun hl1 => ?_)
 refine CW.g XK 27 [.e [0,1],.n 1,.e [0,1],.n 1,.e [0,1,10]] rfl rfl rfl ?_
 refine CW.cond rfl (fun h1 => ?_) (fun h1 => ?_)
 refine CW.g XK 27 [.n 1,.e [4]] rfl rfl rfl ?_
 refine CW.ret ?_
 exact Post.one (RV.b rfl q7) (AOs.r (AOs.r AOs.e))
 refine CW.g XK 27 [.p,.e [0,1],.n 1,.e [0,1,5],.p] rfl rfl rfl ?_
 refine CW.loopI 27 (fun (i : Nat) => [(0, .r (sl 6 Applied.c a)), (1, .r (sl 6 Applied.c b)), (5, I (i : Int))]) (fun (i : Nat) => i ≤ a.length ∧ eqS eqApplied (a.drop i) (b.drop i) = eqS eqApplied a b) (fun (i : Nat) => a.length - i) 0 rfl (Le.c rfl <| Le.c rfl <| Le.c rfl <| Le.e) ⟨by omega, by simp⟩ ?_
 rintro i ⟨hb, hr⟩
 have hlen : a.length = b.length := by simp at h1; omega
 refine CW.g XK 27 [.n 1,.e [0,1,5,14]] rfl rfl rfl ?_
 refine CW.cond rfl (fun h2 => ?_) (fun h2 => ?_)
 have hii : i < a.length := by have := h2; simp at this; first | exact this | omega | (simp; done) | (simp; omega)
 obtain ⟨ei, hei⟩ : ∃ e, a[i]? = some e := ⟨_, List.getElem?_eq_getElem hii⟩
 have hdi := drop_get hei
 have hib : i < b.length := by omega
 obtain ⟨eb, heb⟩ : ∃ e, b[i]? = some e := ⟨_, List.getElem?_eq_getElem hib⟩
 have hdb := drop_get heb
 refine CW.g XK 27 [.p,.e [0,1,5],.p,.p,.p] rfl rfl rfl ?_
 refine CW.drawn (by kernel_rfl) ?_
 refine RQ.k XK 27 2 rfl ?_
 (conv=>whnf);refine ⟨rfl,?_⟩
 refine RQ.v rfl (V.indexS rfl rfl rfl rfl rfl rfl Applied.len hei) ?_
 refine RQ.k XK 27 3 rfl ?_
 (conv=>whnf);refine ⟨rfl,?_⟩
 refine RQ.v rfl (V.indexS rfl rfl rfl rfl rfl rfl Applied.len heb) ?_
 refine RQ.k XK 27 1 rfl ?_
 (conv=>whnf);refine ⟨rfl,?_⟩
 refine RQ.cons rfl (QOK.call (laws_eqApplied_fn ei eb) rfl (.cons (.agg (.cons (.r .r) (.cons (.r .r) (.cons (.r .r) (.cons (.r .r) (.cons (.r .r) (.cons (.r .r) (.nil)))))))) (.cons (.agg (.cons (.r .r) (.cons (.r .r) (.cons (.r .r) (.cons (.r .r) (.cons (.r .r) (.cons (.r .r) (.nil)))))))) (.nil))) ?_)
 refine RQ.k XK 27 1 rfl ?_
 (conv=>whnf);refine ⟨rfl,?_⟩
 refine RQ.nil ?_
 refine CW.g XK 27 [.e [0,1,5,26]] rfl rfl rfl ?_
 refine CW.cond rfl (fun h3 => ?_) (fun h3 => ?_)
 refine CW.g XK 27 [.n 1,.e [4]] rfl rfl rfl ?_
 refine CW.ret ?_
 exact Post.one (RV.b rfl q7) (AOs.r (AOs.r AOs.e))
 refine CW.g XK 27 [.p,.e [0,1,5],.o 1] rfl rfl rfl ?_
 refine RW.v rfl (V.inc rfl rfl rfl hii hl0) ?_
 refine RW.g XK 27 [.o 1,.p] rfl rfl rfl ?_
 exact ⟨i + 1, by omega, ⟨by omega, by simp_all [eqS, eqI, eqStr, eqB]⟩, rfl, Le.c rfl <| Le.c rfl <| Le.c rfl <| Le.e⟩
 have hii : a.length ≤ i := by have := h2; simp at this; first | exact this | omega | (simp; done) | (simp; omega)
 have hdi : a.drop i = [] := List.drop_eq_nil_of_le hii
 refine CW.exit ?_
 refine CW.g XK 27 [.e [],.n 1,.e [4]] rfl rfl rfl ?_
 refine CW.ret ?_
 exact Post.one (RV.b rfl q12) (AOs.r (AOs.r AOs.e))
set_option maxHeartbeats 4000000 in
theorem laws_eqCommand_fn (a : Command) (b : Command) : Eng.Fn E.P 133 [.agg ((Command.c a).map .r), .agg ((Command.c b).map .r)] (.one (.one (.w (.v (.bool (eqCommand a b)))))) [.agg ((Command.c a).map .r), .agg ((Command.c b).map .r)] := by
 refine Eng.Fn.intro (E := E) (rvs := [.tmp 4]) Tryz.func133 rfl rfl rfl (by simp [outSlots, moved, rvSlot, sl]) ?_
 intro B g bo
 refine CW.h XK 35 [.e [0,1],.o 1] rfl ?_;(conv=>whnf);intro b1;(conv=>whnf);refine ⟨rfl,?_⟩
 refine RW.freezeB (ts := (Command.c a)) 2 rfl (DRd.r (DRd.r (DRd.r (DRd.r (DRd.r (DRd.r DRd.e)))))) ?_
 refine RW.h XK 35 [.o 1] rfl ?_;(conv=>whnf);intro b2;(conv=>whnf);refine ⟨rfl,?_⟩
 refine RW.freezeB (ts := (Command.c b)) 3 rfl (DRd.r (DRd.r (DRd.r (DRd.r (DRd.r (DRd.r DRd.e)))))) ?_
 refine RW.g XK 35 [.o 1,.p,.e [2,3],.n 1,.e [2,3,9]] rfl rfl rfl ?_
 refine CW.cond rfl (fun h3 => ?_) (fun h3 => ?_)
 refine CW.g XK 35 [.n 1,.e [4]] rfl rfl rfl ?_
 refine CW.ret ?_
 exact Post.one (RV.b rfl (by simp_all [eqCommand])) (AOs.a rfl (AOs.a rfl AOs.e))
 refine CW.g XK 35 [.p,.e [2,3],.n 1,.e [2,3,14]] rfl rfl rfl ?_
 refine CW.cond rfl (fun h4 => ?_) (fun h4 => ?_)
 refine CW.g XK 35 [.n 1,.e [4]] rfl rfl rfl ?_
 refine CW.ret ?_
 exact Post.one (RV.b rfl (by simp_all [eqCommand])) (AOs.a rfl (AOs.a rfl AOs.e))
 refine CW.g XK 35 [.p,.e [2,3],.n 1,.e [2,3,19]] rfl rfl rfl ?_
 refine CW.cond rfl (fun h5 => ?_) (fun h5 => ?_)
 refine CW.g XK 35 [.n 1,.e [4]] rfl rfl rfl ?_
 refine CW.ret ?_
 exact Post.one (RV.b rfl (by simp_all [eqCommand])) (AOs.a rfl (AOs.a rfl AOs.e))
 refine CW.g XK 35 [.p,.e [2,3],.n 1,.e [2,3,24]] rfl rfl rfl ?_
 refine CW.cond rfl (fun h6 => ?_) (fun h6 => ?_)
 refine CW.g XK 35 [.n 1,.e [4]] rfl rfl rfl ?_
 refine CW.ret ?_
 exact Post.one (RV.b rfl (by simp_all [eqCommand])) (AOs.a rfl (AOs.a rfl AOs.e))
 refine CW.g XK 35 [.p,.e [2,3],.n 1,.e [2,3,29]] rfl rfl rfl ?_
 refine CW.cond rfl (fun h7 => ?_) (fun h7 => ?_)
 refine CW.g XK 35 [.n 1,.e [4]] rfl rfl rfl ?_
 refine CW.ret ?_
 exact Post.one (RV.b rfl (by simp_all [eqCommand])) (AOs.a rfl (AOs.a rfl AOs.e))
 refine CW.g XK 35 [.p,.e [2,3],.n 1,.e [34]] rfl rfl rfl ?_
 refine CW.cond rfl (fun h8 => ?_) (fun h8 => ?_)
 refine CW.g XK 35 [.n 1,.e [4]] rfl rfl rfl ?_
 refine CW.ret ?_
 exact Post.one (RV.b rfl (by simp_all [eqCommand])) (AOs.a rfl (AOs.a rfl AOs.e))
 refine CW.g XK 35 [.p,.e [],.n 1,.e [4]] rfl rfl rfl ?_
 refine CW.ret ?_
 exact Post.one (RV.b rfl (by simp_all [eqCommand])) (AOs.a rfl (AOs.a rfl AOs.e))
set_option maxHeartbeats 4000000 in
theorem laws_eqReply_fn (a : Reply) (b : Reply) : Eng.Fn E.P 87 [.agg ((Reply.c a).map .r), .agg ((Reply.c b).map .r)] (.one (.one (.w (.v (.bool (eqReply a b)))))) [.agg ((Reply.c a).map .r), .agg ((Reply.c b).map .r)] := by
 refine Eng.Fn.intro (E := E) (rvs := [.tmp 4]) Tryz.func87 rfl rfl rfl (by simp [outSlots, moved, rvSlot, sl]) ?_
 intro B g bo
 refine CW.h XK 31 [.e [0,1],.o 1] rfl ?_;(conv=>whnf);intro b1;(conv=>whnf);refine ⟨rfl,?_⟩
 refine RW.freezeB (ts := (Reply.c a)) 2 rfl (DRd.r (DRd.r (DRd.r (DRd.r (DRd.r (DRd.r (DRd.r (DRd.r (DRd.r (DRd.r DRd.e)))))))))) ?_
 refine RW.h XK 31 [.o 1] rfl ?_;(conv=>whnf);intro b2;(conv=>whnf);refine ⟨rfl,?_⟩
 refine RW.freezeB (ts := (Reply.c b)) 3 rfl (DRd.r (DRd.r (DRd.r (DRd.r (DRd.r (DRd.r (DRd.r (DRd.r (DRd.r (DRd.r DRd.e)))))))))) ?_
 refine RW.g XK 31 [.o 1,.p,.e [2,3],.n 1,.e [2,3,9]] rfl rfl rfl ?_
 refine CW.cond rfl (fun h3 => ?_) (fun h3 => ?_)
 refine CW.g XK 31 [.n 1,.e [4]] rfl rfl rfl ?_
 refine CW.ret ?_
 exact Post.one (RV.b rfl (by simp_all [eqReply])) (AOs.a rfl (AOs.a rfl AOs.e))
 refine CW.g XK 31 [.p,.e [2,3],.n 1,.e [2,3,14]] rfl rfl rfl ?_
 refine CW.cond rfl (fun h4 => ?_) (fun h4 => ?_)
 refine CW.g XK 31 [.n 1,.e [4]] rfl rfl rfl ?_
 refine CW.ret ?_
 exact Post.one (RV.b rfl (by simp_all [eqReply])) (AOs.a rfl (AOs.a rfl AOs.e))
 refine CW.g XK 31 [.p,.e [2,3],.n 1,.e [2,3,19]] rfl rfl rfl ?_
 refine CW.cond rfl (fun h5 => ?_) (fun h5 => ?_)
 refine CW.g XK 31 [.n 1,.e [4]] rfl rfl rfl ?_
 refine CW.ret ?_
 exact Post.one (RV.b rfl (by simp_all [eqReply])) (AOs.a rfl (AOs.a rfl AOs.e))
 refine CW.g XK 31 [.p,.e [2,3],.o 4] rfl rfl rfl ?_
 refine RW.call rfl (laws_eqCommand_fn a.command b.command) rfl (.cons (.agg (.cons (.r .r) (.cons (.r .r) (.cons (.r .r) (.cons (.r .r) (.cons (.r .r) (.cons (.r .r) (.nil)))))))) (.cons (.agg (.cons (.r .r) (.cons (.r .r) (.cons (.r .r) (.cons (.r .r) (.cons (.r .r) (.cons (.r .r) (.nil)))))))) (.nil))) fun g6 => ?_
 refine RW.g XK 31 [.o 1,.p,.e [2,3,25]] rfl rfl rfl ?_
 refine CW.cond rfl (fun h7 => ?_) (fun h7 => ?_)
 refine CW.g XK 31 [.n 1,.e [4]] rfl rfl rfl ?_
 refine CW.ret ?_
 exact Post.one (RV.b rfl (by simp_all [eqReply])) (AOs.a rfl (AOs.a rfl AOs.e))
 refine CW.g XK 31 [.p,.e [2,3],.n 1,.e [30]] rfl rfl rfl ?_
 refine CW.cond rfl (fun h8 => ?_) (fun h8 => ?_)
 refine CW.g XK 31 [.n 1,.e [4]] rfl rfl rfl ?_
 refine CW.ret ?_
 exact Post.one (RV.b rfl (by simp_all [eqReply])) (AOs.a rfl (AOs.a rfl AOs.e))
 refine CW.g XK 31 [.p,.e [],.n 1,.e [4]] rfl rfl rfl ?_
 refine CW.ret ?_
 exact Post.one (RV.b rfl (by simp_all [eqReply])) (AOs.a rfl (AOs.a rfl AOs.e))
set_option maxHeartbeats 4000000 in
theorem laws_eqReplyS_fn (a : List Reply) (b : List Reply) : Eng.Fn E.P 45 [.one (.r (sl 10 Reply.c a)), .one (.r (sl 10 Reply.c b))] (.one (.one (.w (.v (.bool (eqS eqReply a b)))))) [.one (.r (sl 10 Reply.c a)), .one (.r (sl 10 Reply.c b))] := by
 refine Eng.Fn.intro (E := E) (rvs := [.tmp 4]) Tryz.func45 rfl rfl rfl (by simp [outSlots, moved, rvSlot, sl]) ?_
 intro B g bo
 refine CW.bound (x := .tmp 0) (n := a.length) (AsT.r) (fun hl0 => ?_)
 refine CW.bound (x := .tmp 1) (n := b.length) (AsT.r) (fun hl1 => ?_)
 refine CW.g XK 27 [.e [0,1],.n 1,.e [0,1],.n 1,.e [0,1,10]] rfl rfl rfl ?_
 refine CW.cond rfl (fun h1 => ?_) (fun h1 => ?_)
 refine CW.g XK 27 [.n 1,.e [4]] rfl rfl rfl ?_
 refine CW.ret ?_
 exact Post.one (RV.b rfl q7) (AOs.r (AOs.r AOs.e))
 refine CW.g XK 27 [.p,.e [0,1],.n 1,.e [0,1,5],.p] rfl rfl rfl ?_
 refine CW.loopI 27 (fun (i : Nat) => [(0, .r (sl 10 Reply.c a)), (1, .r (sl 10 Reply.c b)), (5, I (i : Int))]) (fun (i : Nat) => i ≤ a.length ∧ eqS eqReply (a.drop i) (b.drop i) = eqS eqReply a b) (fun (i : Nat) => a.length - i) 0 rfl (Le.c rfl <| Le.c rfl <| Le.c rfl <| Le.e) ⟨by omega, by simp⟩ ?_
 rintro i ⟨hb, hr⟩
 have hlen : a.length = b.length := by simp at h1; omega
 refine CW.g XK 27 [.n 1,.e [0,1,5,14]] rfl rfl rfl ?_
 refine CW.cond rfl (fun h2 => ?_) (fun h2 => ?_)
 have hii : i < a.length := by have := h2; simp at this; first | exact this | omega | (simp; done) | (simp; omega)
 obtain ⟨ei, hei⟩ : ∃ e, a[i]? = some e := ⟨_, List.getElem?_eq_getElem hii⟩
 have hdi := drop_get hei
 have hib : i < b.length := by omega
 obtain ⟨eb, heb⟩ : ∃ e, b[i]? = some e := ⟨_, List.getElem?_eq_getElem hib⟩
 have hdb := drop_get heb
 refine CW.g XK 27 [.p,.e [0,1,5],.p,.p,.p] rfl rfl rfl ?_
 refine CW.drawn (by kernel_rfl) ?_
 refine RQ.k XK 27 2 rfl ?_
 (conv=>whnf);refine ⟨rfl,?_⟩
 refine RQ.v rfl (V.indexS rfl rfl rfl rfl rfl rfl Reply.len hei) ?_
 refine RQ.k XK 27 3 rfl ?_
 (conv=>whnf);refine ⟨rfl,?_⟩
 refine RQ.v rfl (V.indexS rfl rfl rfl rfl rfl rfl Reply.len heb) ?_
 refine RQ.k XK 27 1 rfl ?_
 (conv=>whnf);refine ⟨rfl,?_⟩
 refine RQ.cons rfl (QOK.call (laws_eqReply_fn ei eb) rfl (.cons (.agg (.cons (.r .r) (.cons (.r .r) (.cons (.r .r) (.cons (.r .r) (.cons (.r .r) (.cons (.r .r) (.cons (.r .r) (.cons (.r .r) (.cons (.r .r) (.cons (.r .r) (.nil)))))))))))) (.cons (.agg (.cons (.r .r) (.cons (.r .r) (.cons (.r .r) (.cons (.r .r) (.cons (.r .r) (.cons (.r .r) (.cons (.r .r) (.cons (.r .r) (.cons (.r .r) (.cons (.r .r) (.nil)))))))))))) (.nil))) ?_)
 refine RQ.k XK 27 1 rfl ?_
 (conv=>whnf);refine ⟨rfl,?_⟩
 refine RQ.nil ?_
 refine CW.g XK 27 [.e [0,1,5,26]] rfl rfl rfl ?_
 refine CW.cond rfl (fun h3 => ?_) (fun h3 => ?_)
 refine CW.g XK 27 [.n 1,.e [4]] rfl rfl rfl ?_
 refine CW.ret ?_
 exact Post.one (RV.b rfl q7) (AOs.r (AOs.r AOs.e))
 refine CW.g XK 27 [.p,.e [0,1,5],.o 1] rfl rfl rfl ?_
 refine RW.v rfl (V.inc rfl rfl rfl hii hl0) ?_
 refine RW.g XK 27 [.o 1,.p] rfl rfl rfl ?_
 exact ⟨i + 1, by omega, ⟨by omega, by simp_all [eqS, eqI, eqStr, eqB]⟩, rfl, Le.c rfl <| Le.c rfl <| Le.c rfl <| Le.e⟩
 have hii : a.length ≤ i := by have := h2; simp at this; first | exact this | omega | (simp; done) | (simp; omega)
 have hdi : a.drop i = [] := List.drop_eq_nil_of_le hii
 refine CW.exit ?_
 refine CW.g XK 27 [.e [],.n 1,.e [4]] rfl rfl rfl ?_
 refine CW.ret ?_
 exact Post.one (RV.b rfl q12) (AOs.r (AOs.r AOs.e))
set_option maxHeartbeats 4000000 in
theorem laws_eqWorld_fn (a : World) (b : World) : Eng.Fn E.P 10 [.agg ((World.c a).map .r), .agg ((World.c b).map .r)] (.one (.one (.w (.v (.bool (eqWorld a b)))))) [.agg ((World.c a).map .r), .agg ((World.c b).map .r)] := by
 refine Eng.Fn.intro (E := E) (rvs := [.tmp 4]) Tryz.func10 rfl rfl rfl (by simp [outSlots, moved, rvSlot, sl]) ?_
 intro B g bo
 refine CW.h XK 47 [.e [0,1],.o 1] rfl ?_;(conv=>whnf);intro b1;(conv=>whnf);refine ⟨rfl,?_⟩
 refine RW.freezeB (ts := (World.c a)) 2 rfl (DRd.r (DRd.r (DRd.r (DRd.r (DRd.r (DRd.r (DRd.r DRd.e))))))) ?_
 refine RW.h XK 47 [.o 1] rfl ?_;(conv=>whnf);intro b2;(conv=>whnf);refine ⟨rfl,?_⟩
 refine RW.freezeB (ts := (World.c b)) 3 rfl (DRd.r (DRd.r (DRd.r (DRd.r (DRd.r (DRd.r (DRd.r DRd.e))))))) ?_
 refine RW.g XK 47 [.o 1,.p,.e [2,3],.o 4] rfl rfl rfl ?_
 refine RW.call rfl (laws_eqBoolS_fn a.up b.up) rfl (.cons (.one (.r .r)) (.cons (.one (.r .r)) (.nil))) fun g3 => ?_
 refine RW.g XK 47 [.o 1,.p,.e [2,3,10]] rfl rfl rfl ?_
 refine CW.cond rfl (fun h4 => ?_) (fun h4 => ?_)
 refine CW.g XK 47 [.n 1,.e [4]] rfl rfl rfl ?_
 refine CW.ret ?_
 exact Post.one (RV.b rfl (by simp_all [eqWorld])) (AOs.a rfl (AOs.a rfl AOs.e))
 refine CW.g XK 47 [.p,.e [2,3],.o 4] rfl rfl rfl ?_
 refine RW.call rfl (laws_eqServerS_fn a.servers b.servers) rfl (.cons (.one (.r .r)) (.cons (.one (.r .r)) (.nil))) fun g5 => ?_
 refine RW.g XK 47 [.o 1,.p,.e [2,3,16]] rfl rfl rfl ?_
 refine CW.cond rfl (fun h6 => ?_) (fun h6 => ?_)
 refine CW.g XK 47 [.n 1,.e [4]] rfl rfl rfl ?_
 refine CW.ret ?_
 exact Post.one (RV.b rfl (by simp_all [eqWorld])) (AOs.a rfl (AOs.a rfl AOs.e))
 refine CW.g XK 47 [.p,.e [2,3],.o 4] rfl rfl rfl ?_
 refine RW.call rfl (laws_eqMessageS_fn a.net b.net) rfl (.cons (.one (.r .r)) (.cons (.one (.r .r)) (.nil))) fun g7 => ?_
 refine RW.g XK 47 [.o 1,.p,.e [2,3,22]] rfl rfl rfl ?_
 refine CW.cond rfl (fun h8 => ?_) (fun h8 => ?_)
 refine CW.g XK 47 [.n 1,.e [4]] rfl rfl rfl ?_
 refine CW.ret ?_
 exact Post.one (RV.b rfl (by simp_all [eqWorld])) (AOs.a rfl (AOs.a rfl AOs.e))
 refine CW.g XK 47 [.p,.e [2,3],.o 4] rfl rfl rfl ?_
 refine RW.call rfl (laws_eqWaitS_fn a.waits b.waits) rfl (.cons (.one (.r .r)) (.cons (.one (.r .r)) (.nil))) fun g9 => ?_
 refine RW.g XK 47 [.o 1,.p,.e [2,3,28]] rfl rfl rfl ?_
 refine CW.cond rfl (fun h10 => ?_) (fun h10 => ?_)
 refine CW.g XK 47 [.n 1,.e [4]] rfl rfl rfl ?_
 refine CW.ret ?_
 exact Post.one (RV.b rfl (by simp_all [eqWorld])) (AOs.a rfl (AOs.a rfl AOs.e))
 refine CW.g XK 47 [.p,.e [2,3],.o 4] rfl rfl rfl ?_
 refine RW.call rfl (laws_eqLeaderS_fn a.leaders b.leaders) rfl (.cons (.one (.r .r)) (.cons (.one (.r .r)) (.nil))) fun g11 => ?_
 refine RW.g XK 47 [.o 1,.p,.e [2,3,34]] rfl rfl rfl ?_
 refine CW.cond rfl (fun h12 => ?_) (fun h12 => ?_)
 refine CW.g XK 47 [.n 1,.e [4]] rfl rfl rfl ?_
 refine CW.ret ?_
 exact Post.one (RV.b rfl (by simp_all [eqWorld])) (AOs.a rfl (AOs.a rfl AOs.e))
 refine CW.g XK 47 [.p,.e [2,3],.o 4] rfl rfl rfl ?_
 refine RW.call rfl (laws_eqAppliedS_fn a.applied b.applied) rfl (.cons (.one (.r .r)) (.cons (.one (.r .r)) (.nil))) fun g13 => ?_
 refine RW.g XK 47 [.o 1,.p,.e [2,3,40]] rfl rfl rfl ?_
 refine CW.cond rfl (fun h14 => ?_) (fun h14 => ?_)
 refine CW.g XK 47 [.n 1,.e [4]] rfl rfl rfl ?_
 refine CW.ret ?_
 exact Post.one (RV.b rfl (by simp_all [eqWorld])) (AOs.a rfl (AOs.a rfl AOs.e))
 refine CW.g XK 47 [.p,.e [2,3],.o 4] rfl rfl rfl ?_
 refine RW.call rfl (laws_eqReplyS_fn a.replies b.replies) rfl (.cons (.one (.r .r)) (.cons (.one (.r .r)) (.nil))) fun g15 => ?_
 refine RW.g XK 47 [.o 1,.p,.e [46]] rfl rfl rfl ?_
 refine CW.cond rfl (fun h16 => ?_) (fun h16 => ?_)
 refine CW.g XK 47 [.n 1,.e [4]] rfl rfl rfl ?_
 refine CW.ret ?_
 exact Post.one (RV.b rfl (by simp_all [eqWorld])) (AOs.a rfl (AOs.a rfl AOs.e))
 refine CW.g XK 47 [.p,.e [],.n 1,.e [4]] rfl rfl rfl ?_
 refine CW.ret ?_
 exact Post.one (RV.b rfl (by simp_all [eqWorld])) (AOs.a rfl (AOs.a rfl AOs.e))
set_option maxHeartbeats 4000000 in
theorem spec_Fold_fn (k : Keep) (l : List Entry) (x : Int) (hk : KOk k) (he : ∀ e ∈ l, entSz e) (hll : l.length ≤ 1048576) (hix : idxOk x l.length) : Eng.Fn E.P 47 [.agg ((Keep.c k).map .r), .one (.r (sl 3 Entry.c l)), .one (.r (.v (.int .i64 x)))] (.tup [.agg ((Keep.c ((foldR x l 0 k).1)).map .r), .one (.r (sl 1 cS ((foldR x l 0 k).2)))]) [.agg ((Keep.c k).map .r), .one (.r (sl 3 Entry.c l)), .one (.r (.v (.int .i64 x)))] := by
 refine Eng.Fn.intro (E := E) (rvs := [.cell 6 59, .tmp 7]) Tryz.func47 rfl rfl rfl (by simp [outSlots, moved, rvSlot, sl]) ?_
 intro B g bo
 refine CW.bound (x := .tmp 1) (n := l.length) (AsT.r) (fun hl1 => ?_)
 refine CW.h XK 71 [.e [0,1,2],.o 1] rfl ?_;(conv=>whnf);intro b1;(conv=>whnf);refine ⟨rfl,?_⟩
 refine RW.freezeB (ts := (Keep.c k)) 3 rfl (DRd.r (DRd.r DRd.e)) ?_
 refine RW.h XK 71 [.o 2,.p,.e [1,2,3,6],.o 1] rfl ?_;(conv=>whnf);intro b2;(conv=>whnf);refine ⟨rfl,?_⟩
 refine RW.call rfl (spec_l15Copy_fn k hk.okTo) rfl (.cons (.agg (.cons (.r .r) (.cons (.r .r) (.nil)))) (.nil)) fun g3 => ?_
 refine RW.h XK 71 [.o 2,.e [1,2,6,8,18]] rfl ?_;(conv=>whnf);intro b4;(conv=>whnf);refine ⟨rfl,?_⟩
 refine RW.pullA (k := 8) (l := 18) (j := 0) 8 18 0 rfl rfl rfl (by decide) rfl rfl rfl rfl ?_
 refine RW.g XK 71 [.e [1,2,6,8,18]] rfl rfl rfl ?_
 refine RW.pullA (k := 8) (l := 18) (j := 1) 8 18 1 rfl rfl rfl (by decide) rfl rfl rfl rfl ?_
 refine RW.g XK 71 [.e [1,2,6,8],.p,.e [1,2,6,8],.p,.p] rfl rfl rfl ?_
 refine RW.build0 cS rfl rfl rfl rfl rfl fun X5 => ?_
 refine RW.assignMove rfl rfl rfl (by decide) (Nat.le_of_ble_eq_true rfl) (Nat.le_of_ble_eq_true rfl) ?_
 refine RW.g XK 71 [.p,.e [1,2,6,8,9],.n 1,.e [1,2,6,8,9,10],.p] rfl rfl rfl ?_
 refine CW.freeze 8 (d' := .obj b4 ((Keep.c k).map .r)) rfl rfl ?_
 refine CW.loopI 71 (fun (zz : Nat × Keep × List ByteArray × Value) => match zz with | (i, o, rs, X) => [(1, .r (sl 3 Entry.c l)), (2, I x), (6, .obj b2 [.r (.v (.slice none 0 0)), .r (.v (.slice none 0 0))]), (8, .obj b4 ((Keep.c o).map .r)), (9, .w (sl 1 cS rs) X), (10, I (i : Int))]) (fun (zz : Nat × Keep × List ByteArray × Value) => match zz with | (i, o, rs, X) => FoP x k l i o rs) (fun (zz : Nat × Keep × List ByteArray × Value) => match zz with | (i, o, rs, X) => l.length - i) (0, _, [], _) rfl (Le.c rfl <| Le.c rfl <| Le.c rfl <| Le.c rfl <| Le.c rfl <| Le.c rfl <| Le.e) (FoP.init hk) ?_
 rintro ⟨i, o, rs, X⟩ hP
 refine CW.g XK 71 [.n 1,.e [1,2,6,8,9,10,23]] rfl rfl rfl ?_
 refine CW.cond rfl (fun h6 => ?_) (fun h6 => ?_)
 have hii : i < l.length := by have := h6; simp at this; first | exact this | omega | (simp; done) | (simp; omega)
 obtain ⟨ei, hei⟩ : ∃ e, l[i]? = some e := ⟨_, List.getElem?_eq_getElem hii⟩
 have hdi := drop_get hei
 refine CW.g XK 71 [.p,.e [1,2,6,8,9,10],.n 1,.e [1,2,6,8,9,10,11],.p] rfl rfl rfl ?_
 refine CW.seqJ 71 (fun (v7 : Bool) => [(1, .r (sl 3 Entry.c l)), (2, I x), (6, .obj b2 [.r (.v (.slice none 0 0)), .r (.v (.slice none 0 0))]), (8, .obj b4 ((Keep.c o).map .r)), (9, .w (sl 1 cS rs) X), (10, I (i : Int)), (11, S (⟨#[]⟩ : ByteArray)), (39, Bo v7)]) (fun v7 => v7 = (((ei.kind == 3) && decide (x ≥ (-1000000))) && decide (x ≤ 1000000))) ?_ ?_
 refine CW.g XK 71 [.o 2] rfl rfl rfl ?_
 refine RW.v rfl (V.indexS rfl rfl rfl rfl rfl rfl Entry.len hei) ?_
 refine RW.g XK 71 [.o 4] rfl rfl rfl ?_
 refine RW.gv rfl rfl rfl rfl (fun h8 => V.mv (d := I x) rfl rfl) (fun h8 => ?_) (fun h8 => ?_)
 refine RW.g XK 71 [.o 3] rfl rfl rfl ?_
 refine RW.gv rfl rfl rfl rfl (fun h9 => V.mv (d := I x) rfl rfl) (fun h9 => ?_) (fun h9 => ?_)
 refine RW.g XK 71 [.o 2,.p] rfl rfl rfl ?_
 exact ⟨_, by first | rfl | (simp_all; done) | (simp_all; omega) | grind, rfl, Le.of rfl⟩
 refine RW.g XK 71 [.o 2,.p] rfl rfl rfl ?_
 exact ⟨_, by first | rfl | (simp_all; done) | (simp_all; omega) | grind, rfl, Le.of rfl⟩
 refine RW.g XK 71 [.o 6,.p] rfl rfl rfl ?_
 exact ⟨_, by first | rfl | (simp_all; done) | (simp_all; omega) | grind, rfl, Le.of rfl⟩
 intro v7 hv10
 refine CW.cond rfl (fun h11 => ?_) (fun h11 => ?_)
 have hvv := hv10.symm.trans h11
 refine CW.g XK 71 [.o 2] rfl rfl rfl ?_
 refine RW.v rfl (V.indexS rfl rfl rfl rfl rfl rfl Entry.len hei) ?_
 refine RW.g XK 71 [.o 2] rfl rfl rfl ?_
 refine RW.call rfl (spec_ReadCommand_fn ei.data (he ei (List.mem_of_getElem? hei))) rfl (.cons (.one (.r .r)) (.nil)) fun g12 => ?_
 refine RW.h XK 71 [.o 5] rfl ?_;(conv=>whnf);intro b13;(conv=>whnf);refine ⟨rfl,?_⟩
 refine RW.freezeB (ts := (Command.c ((rdCmd ei.data).1))) 12 rfl (DRd.r (DRd.r (DRd.r (DRd.r (DRd.r (DRd.r DRd.e)))))) ?_
 refine RW.g XK 71 [.o 1,.p,.e [1,2,6,8,9,10,11,12,13],.o 5] rfl rfl rfl ?_
 refine RW.call rfl (spec_Perform_fn o (IntKind.i64.wrap (x + (i : Int))) ((rdCmd ei.data).1) hP.ok.okTo) rfl (.cons (.agg (.cons (.r .r) (.cons (.r .r) (.nil)))) (.cons (.one (.r .r)) (.cons (.agg (.cons (.r .r) (.cons (.r .r) (.cons (.r .r) (.cons (.r .r) (.cons (.r .r) (.cons (.r .r) (.nil)))))))) (.nil)))) fun g14 => ?_
 refine RW.h XK 71 [.o 6] rfl ?_;(conv=>whnf);intro b15;(conv=>whnf);refine ⟨rfl,?_⟩
 refine RW.freezeB (ts := (Keep.c ((perfK o (IntKind.i64.wrap (x + (i : Int))) ((rdCmd ei.data).1)).1))) 14 rfl (DRd.r (DRd.r DRd.e)) ?_
 refine RW.g XK 71 [.o 2,.p,.e [1,2,6,8,9,10,11,13,14,15,16]] rfl rfl rfl ?_
 refine CW.seqJ 71 (fun (v16 : Bool) => [(1, .r (sl 3 Entry.c l)), (2, I x), (6, .obj b2 [.r (.v (.slice none 0 0)), .r (.v (.slice none 0 0))]), (8, .obj b4 ((Keep.c o).map .r)), (9, .w (sl 1 cS rs) X), (10, I (i : Int)), (11, S (⟨#[]⟩ : ByteArray)), (14, .rp (Keep.c ((perfK o (IntKind.i64.wrap (x + (i : Int))) ((rdCmd ei.data).1)).1))), (15, S ((perfK o (IntKind.i64.wrap (x + (i : Int))) ((rdCmd ei.data).1)).2.1)), (62, Bo v16)]) (fun v16 => v16 = (((rdCmd ei.data).2) && ((perfK o (IntKind.i64.wrap (x + (i : Int))) ((rdCmd ei.data).1)).2.2))) ?_ ?_
 refine CW.g XK 71 [.o 2] rfl rfl rfl ?_
 refine RW.gv rfl rfl rfl rfl (fun h17 => V.mv (d := Bo ((perfK o (IntKind.i64.wrap (x + (i : Int))) ((rdCmd ei.data).1)).2.2)) rfl rfl) (fun h17 => ?_) (fun h17 => ?_)
 refine RW.g XK 71 [.o 1,.p] rfl rfl rfl ?_
 exact ⟨_, by first | rfl | (simp_all; done) | (simp_all; omega) | grind, rfl, Le.of rfl⟩
 refine RW.g XK 71 [.o 1,.p] rfl rfl rfl ?_
 exact ⟨_, by first | rfl | (simp_all; done) | (simp_all; omega) | grind, rfl, Le.of rfl⟩
 intro v16 hv18
 refine CW.cond rfl (fun h19 => ?_) (fun h19 => ?_)
 have hww := hv18.symm.trans h19
 refine CW.g XK 71 [.n 1,.e [1,2,6,8,9,10,15],.o 2,.p,.e [1,2,6,8,9,10,11],.o 2] rfl rfl rfl ?_
 refine RW.build1c (c := cS) (v := ((perfK o (IntKind.i64.wrap (x + (i : Int))) ((rdCmd ei.data).1)).2.1)) (u := .v (.string ((perfK o (IntKind.i64.wrap (x + (i : Int))) ((rdCmd ei.data).1)).2.1))) rfl rfl rfl rfl rfl rfl (.inl rfl) rfl rfl fun X20 => ?_
 refine RW.appendSR (c := cS) (l1 := rs) (l2 := [((perfK o (IntKind.i64.wrap (x + (i : Int))) ((rdCmd ei.data).1)).2.1)]) rfl rfl rfl rfl rfl rfl rfl rfl (.al (k := none) (i := 67) (sz := 1) (V := X20) rfl rfl nofun) (by decide) (Nat.le_of_ble_eq_true rfl) cS.len (fun _ => rfl) rfl q9 q9 fun X21 => ?_
 refine RW.assignMove rfl rfl rfl (by decide) (Nat.le_of_ble_eq_true rfl) (Nat.le_of_ble_eq_true rfl) ?_
 refine RW.g XK 71 [.p,.e [1,2,6,8,9,10],.o 1] rfl rfl rfl ?_
 refine RW.v rfl (V.inc rfl rfl rfl hii hl1) ?_
 refine RW.g XK 71 [.o 1,.p] rfl rfl rfl ?_
 exact ⟨(i + 1, _, _, _), by simp only []; omega, q28, rfl, Le.c rfl <| Le.c rfl <| Le.c rfl <| Le.c rfl <| Le.c rfl <| Le.c rfl <| Le.e⟩
 have hww := hv18.symm.trans h19
 refine CW.g XK 71 [.p,.e [1,2,6,8,9,10,11],.o 2] rfl rfl rfl ?_
 refine RW.build1c (c := cS) (v := (⟨#[]⟩ : ByteArray)) (u := .v (.string (⟨#[]⟩ : ByteArray))) rfl rfl rfl rfl rfl rfl (.inl rfl) rfl rfl fun X22 => ?_
 refine RW.appendSR (c := cS) (l1 := rs) (l2 := [(⟨#[]⟩ : ByteArray)]) rfl rfl rfl rfl rfl rfl rfl rfl (.al (k := none) (i := 67) (sz := 1) (V := X22) rfl rfl nofun) (by decide) (Nat.le_of_ble_eq_true rfl) cS.len (fun _ => rfl) rfl q9 q9 fun X23 => ?_
 refine RW.assignMove rfl rfl rfl (by decide) (Nat.le_of_ble_eq_true rfl) (Nat.le_of_ble_eq_true rfl) ?_
 refine RW.g XK 71 [.p,.e [1,2,6,8,9,10],.o 1] rfl rfl rfl ?_
 refine RW.v rfl (V.inc rfl rfl rfl hii hl1) ?_
 refine RW.g XK 71 [.o 1,.p] rfl rfl rfl ?_
 exact ⟨(i + 1, _, _, _), by simp only []; omega, q28, rfl, Le.c rfl <| Le.c rfl <| Le.c rfl <| Le.c rfl <| Le.c rfl <| Le.c rfl <| Le.e⟩
 have hvv := hv10.symm.trans h11
 refine CW.g XK 71 [.p,.e [1,2,6,8,9,10,11],.o 2] rfl rfl rfl ?_
 refine RW.build1c (c := cS) (v := (⟨#[]⟩ : ByteArray)) (u := .v (.string (⟨#[]⟩ : ByteArray))) rfl rfl rfl rfl rfl rfl (.inl rfl) rfl rfl fun X24 => ?_
 refine RW.appendSR (c := cS) (l1 := rs) (l2 := [(⟨#[]⟩ : ByteArray)]) rfl rfl rfl rfl rfl rfl rfl rfl (.al (k := none) (i := 67) (sz := 1) (V := X24) rfl rfl nofun) (by decide) (Nat.le_of_ble_eq_true rfl) cS.len (fun _ => rfl) rfl q9 q9 fun X25 => ?_
 refine RW.assignMove rfl rfl rfl (by decide) (Nat.le_of_ble_eq_true rfl) (Nat.le_of_ble_eq_true rfl) ?_
 refine RW.g XK 71 [.p,.e [1,2,6,8,9,10],.o 1] rfl rfl rfl ?_
 refine RW.v rfl (V.inc rfl rfl rfl hii hl1) ?_
 refine RW.g XK 71 [.o 1,.p] rfl rfl rfl ?_
 exact ⟨(i + 1, _, _, _), by simp only []; omega, q28, rfl, Le.c rfl <| Le.c rfl <| Le.c rfl <| Le.c rfl <| Le.c rfl <| Le.c rfl <| Le.e⟩
 have hii : l.length ≤ i := by have := h6; simp at this; first | exact this | omega | (simp; done) | (simp; omega)
 have hdi : l.drop i = [] := List.drop_eq_nil_of_le hii
 refine CW.exit ?_
 refine CW.g XK 71 [.e [6,8,9],.o 4] rfl rfl rfl ?_
 refine RW.pullS 7 9 (by decide) rfl rfl ?_
 refine RW.g XK 71 [.p,.e [6,7]] rfl rfl rfl ?_
 refine CW.freeze 7 (d' := .r (sl 1 cS rs)) rfl rfl ?_
 refine CW.ret ?_
 exact Post.tup (by decide) (RVs.c (RV.c (f := fun e => (Keep.c e).map .r) (e' := o) rfl rfl rfl rfl (DT.r (DT.r DT.e)) (by rw [hP.fin hii])) (RVs.c (RV.r rfl (by rw [hP.fin hii])) RVs.e)) (AOs.a rfl (AOs.r (AOs.r AOs.e)))
set_option maxHeartbeats 4000000 in
theorem spec_SameKeep_fn (a : Keep) (b : Keep) (hok : okToKeep a) : Eng.Fn E.P 48 [.agg ((Keep.c a).map .r), .agg ((Keep.c b).map .r)] (.one (.one (.w (.v (.bool (eqKeep a b)))))) [.agg ((Keep.c a).map .r), .agg ((Keep.c b).map .r)] := by
 refine Eng.Fn.intro (E := E) (rvs := [.tmp 4]) Tryz.func48 rfl rfl rfl (by simp [outSlots, moved, rvSlot, sl]) ?_
 intro B g bo
 refine CW.g XK 59 [.e [0,1]] rfl rfl rfl ?_
 have hl1 : a.sessions.length ≤ maxLen := by have := hok.1.1; simp only [maxLen]; omega
 have hl2 : a.items.length ≤ maxLen := by have := hok.2.1; simp only [maxLen]; omega
 refine CW.h XK 59 [.o 1] rfl ?_;(conv=>whnf);intro b1;(conv=>whnf);refine ⟨rfl,?_⟩
 refine RW.freezeB (ts := (Keep.c a)) 2 rfl (DRd.r (DRd.r DRd.e)) ?_
 refine RW.h XK 59 [.o 1] rfl ?_;(conv=>whnf);intro b2;(conv=>whnf);refine ⟨rfl,?_⟩
 refine RW.freezeB (ts := (Keep.c b)) 3 rfl (DRd.r (DRd.r DRd.e)) ?_
 refine RW.g XK 59 [.o 1,.p,.e [2,3],.p] rfl rfl rfl ?_
 refine CW.seqJ 59 (fun (v3 : Bool) => [(2, .rp (Keep.c a)), (3, .rp (Keep.c b)), (22, Bo v3)]) (fun v3 => v3 = (((a.sessions.length : Int) != (b.sessions.length : Int)) || ((a.items.length : Int) != (b.items.length : Int)))) ?_ ?_
 refine CW.g XK 59 [.o 8] rfl rfl rfl ?_
 refine RW.gv rfl rfl rfl rfl (fun h4 => V.fieldR rfl rfl rfl rfl (by decide) rfl (Nat.le_of_ble_eq_true rfl)) (fun h4 => ?_) (fun h4 => ?_)
 refine RW.g XK 59 [.o 7,.p] rfl rfl rfl ?_
 exact ⟨_, by first | rfl | (simp_all; done) | (simp_all; omega) | grind, rfl, Le.of rfl⟩
 refine RW.g XK 59 [.o 7,.p] rfl rfl rfl ?_
 exact ⟨_, by first | rfl | (simp_all; done) | (simp_all; omega) | grind, rfl, Le.of rfl⟩
 intro v3 hv5
 refine CW.cond rfl (fun h6 => ?_) (fun h6 => ?_)
 have hne := hv5.symm.trans h6
 refine CW.g XK 59 [.n 1,.e [4]] rfl rfl rfl ?_
 refine CW.ret ?_
 exact Post.one (RV.b rfl (by exact (eqK_len hne).symm)) (AOs.a rfl (AOs.a rfl AOs.e))
 obtain ⟨he1, he2⟩ : a.sessions.length = b.sessions.length ∧ a.items.length = b.items.length := by have hne := hv5.symm.trans h6; simp at hne; omega
 refine CW.g XK 59 [.p,.e [2,3],.n 1,.e [2,3,5],.p] rfl rfl rfl ?_
 refine CW.loopI 59 (fun (i : Nat) => [(2, .rp (Keep.c a)), (3, .rp (Keep.c b)), (5, I (i : Int))]) (fun (i : Nat) => i ≤ a.sessions.length ∧ eqS eqSession (a.sessions.drop i) (b.sessions.drop i) = eqS eqSession a.sessions b.sessions) (fun (i : Nat) => a.sessions.length - i) 0 rfl (Le.c rfl <| Le.c rfl <| Le.c rfl <| Le.e) ⟨by omega, rfl⟩ ?_
 rintro i ⟨hbi, hri⟩
 refine CW.g XK 59 [.n 1,.e [2,3,5,27]] rfl rfl rfl ?_
 refine CW.cond rfl (fun h7 => ?_) (fun h7 => ?_)
 have hii : i < a.sessions.length := by have := h7; simp at this; first | exact this | omega | (simp; done) | (simp; omega)
 obtain ⟨ei, hei⟩ : ∃ e, a.sessions[i]? = some e := ⟨_, List.getElem?_eq_getElem hii⟩
 have hdi := drop_get hei
 obtain ⟨fi, hfi⟩ : ∃ e, b.sessions[i]? = some e := ⟨_, List.getElem?_eq_getElem (by omega)⟩
 refine CW.g XK 59 [.p,.e [2,3,5],.p,.p,.p] rfl rfl rfl ?_
 refine CW.drawn (by kernel_rfl) ?_
 refine RQ.k XK 59 3 rfl ?_
 (conv=>whnf);refine ⟨rfl,?_⟩
 refine RQ.v rfl (V.indexS rfl rfl rfl rfl rfl rfl Session.len hei) ?_
 refine RQ.k XK 59 4 rfl ?_
 (conv=>whnf);refine ⟨rfl,?_⟩
 refine RQ.v rfl (V.indexS rfl rfl rfl rfl rfl rfl Session.len hfi) ?_
 refine RQ.k XK 59 1 rfl ?_
 (conv=>whnf);refine ⟨rfl,?_⟩
 refine RQ.v rfl (V.eqAgg (xs := Session.vs ei) (ys := Session.vs fi) rfl rfl rfl (by kernel_rfl) (eq156 ei fi) (.inr ⟨rfl, rfl⟩)) ?_
 refine RQ.nil ?_
 refine CW.g XK 59 [.e [2,3,5,40]] rfl rfl rfl ?_
 refine CW.cond rfl (fun h8 => ?_) (fun h8 => ?_)
 have he9 := h8
 refine CW.g XK 59 [.n 1,.e [4]] rfl rfl rfl ?_
 refine CW.ret ?_
 exact Post.one (RV.b rfl (by rw [eqKeep, ← hri, eqS_step hei hfi, if_neg (by simpa using he9)]; rfl)) (AOs.a rfl (AOs.a rfl AOs.e))
 have he9 := h8
 refine CW.g XK 59 [.p,.e [2,3,5],.o 1] rfl rfl rfl ?_
 refine RW.v rfl (V.inc rfl rfl rfl hii hl1) ?_
 refine RW.g XK 59 [.o 1,.p] rfl rfl rfl ?_
 exact ⟨i + 1, by omega, ⟨by omega, by rw [← hri, eqS_step hei hfi, if_pos (by simpa using he9)]⟩, rfl, Le.c rfl <| Le.c rfl <| Le.c rfl <| Le.e⟩
 have hii : a.sessions.length ≤ i := by have := h7; simp at this; first | exact this | omega | (simp; done) | (simp; omega)
 have hdi : a.sessions.drop i = [] := List.drop_eq_nil_of_le hii
 have hqi : eqS eqSession a.sessions b.sessions = true := by rw [← hri]; exact eqS_end hii he1
 refine CW.exit ?_
 refine CW.g XK 59 [.e [2,3],.n 1,.e [2,3,6],.p] rfl rfl rfl ?_
 refine CW.loopI 59 (fun (j : Nat) => [(2, .rp (Keep.c a)), (3, .rp (Keep.c b)), (6, I (j : Int))]) (fun (j : Nat) => j ≤ a.items.length ∧ eqS eqItem (a.items.drop j) (b.items.drop j) = eqS eqItem a.items b.items) (fun (j : Nat) => a.items.length - j) 0 rfl (Le.c rfl <| Le.c rfl <| Le.c rfl <| Le.e) ⟨by omega, rfl⟩ ?_
 rintro j ⟨hbj, hrj⟩
 refine CW.g XK 59 [.n 1,.e [2,3,6,45]] rfl rfl rfl ?_
 refine CW.cond rfl (fun h9 => ?_) (fun h9 => ?_)
 have hij : j < a.items.length := by have := h9; simp at this; first | exact this | omega | (simp; done) | (simp; omega)
 obtain ⟨ej, hej⟩ : ∃ e, a.items[j]? = some e := ⟨_, List.getElem?_eq_getElem hij⟩
 have hdj := drop_get hej
 obtain ⟨fj, hfj⟩ : ∃ e, b.items[j]? = some e := ⟨_, List.getElem?_eq_getElem (by omega)⟩
 refine CW.g XK 59 [.p,.e [2,3,6],.p,.p,.p] rfl rfl rfl ?_
 refine CW.drawn (by kernel_rfl) ?_
 refine RQ.k XK 59 3 rfl ?_
 (conv=>whnf);refine ⟨rfl,?_⟩
 refine RQ.v rfl (V.indexS rfl rfl rfl rfl rfl rfl Item.len hej) ?_
 refine RQ.k XK 59 4 rfl ?_
 (conv=>whnf);refine ⟨rfl,?_⟩
 refine RQ.v rfl (V.indexS rfl rfl rfl rfl rfl rfl Item.len hfj) ?_
 refine RQ.k XK 59 1 rfl ?_
 (conv=>whnf);refine ⟨rfl,?_⟩
 refine RQ.v rfl (V.eqAgg (xs := Item.vs ej) (ys := Item.vs fj) rfl rfl rfl (by kernel_rfl) (eq71 ej fj) (.inr ⟨rfl, rfl⟩)) ?_
 refine RQ.nil ?_
 refine CW.g XK 59 [.e [2,3,6,58]] rfl rfl rfl ?_
 refine CW.cond rfl (fun h10 => ?_) (fun h10 => ?_)
 have he9 := h10
 refine CW.g XK 59 [.n 1,.e [4]] rfl rfl rfl ?_
 refine CW.ret ?_
 exact Post.one (RV.b rfl (by rw [eqKeep, ← hrj, eqS_step hej hfj, if_neg (by simpa using he9)]; simp)) (AOs.a rfl (AOs.a rfl AOs.e))
 have he9 := h10
 refine CW.g XK 59 [.p,.e [2,3,6],.o 1] rfl rfl rfl ?_
 refine RW.v rfl (V.inc rfl rfl rfl hij hl2) ?_
 refine RW.g XK 59 [.o 1,.p] rfl rfl rfl ?_
 exact ⟨j + 1, by omega, ⟨by omega, by rw [← hrj, eqS_step hej hfj, if_pos (by simpa using he9)]⟩, rfl, Le.c rfl <| Le.c rfl <| Le.c rfl <| Le.e⟩
 have hij : a.items.length ≤ j := by have := h9; simp at this; first | exact this | omega | (simp; done) | (simp; omega)
 have hdj : a.items.drop j = [] := List.drop_eq_nil_of_le hij
 have hqj : eqS eqItem a.items b.items = true := by rw [← hrj]; exact eqS_end hij he2
 refine CW.exit ?_
 refine CW.g XK 59 [.e [],.n 1,.e [4]] rfl rfl rfl ?_
 refine CW.ret ?_
 exact Post.one (RV.b rfl (by rw [eqKeep, hqi, hqj]; rfl)) (AOs.a rfl (AOs.a rfl AOs.e))
end Go.Proofs.YtdipdkfbaehglaaGreatDoor.Y
