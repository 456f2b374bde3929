import Derived.Test.YtdipdkfbaehglaaGreatDoorWSoundA
namespace Go.Proofs.YtdipdkfbaehglaaGreatDoor.Y
open Go Go.RowKit Go.Eng Go.Proofs
set_option maxRecDepth 10000
set_option maxHeartbeats 4000000 in
theorem laws_szServer_fn (a : Server) (left : Int) : Eng.Fn E.P 59 [.agg ((Server.c a).map .r), .one (.r (.v (.int .i64 left)))] (.one (.one (.w (.v (.int .i64 (szServer a left)))))) [.agg ((Server.c a).map .r), .one (.r (.v (.int .i64 left)))] := by
 refine Eng.Fn.intro (E := E) (rvs := [.tmp 4]) Tryz.func59 rfl rfl rfl (by simp [outSlots, moved, rvSlot, sl]) ?_
 intro B g bo
 refine CW.h XK 37 [.e [0,1],.o 1] rfl ?_;(conv=>whnf);intro b1;(conv=>whnf);refine ⟨rfl,?_⟩
 refine RW.freezeB (ts := (Server.c a)) 2 rfl (DRd.r (DRd.r (DRd.r (DRd.r (DRd.r (DRd.r (DRd.r (DRd.r (DRd.r (DRd.r (DRd.r (DRd.r (DRd.r (DRd.r (DRd.r (DRd.r (DRd.r (DRd.r (DRd.r (DRd.r (DRd.r (DRd.r (DRd.r (DRd.r (DRd.r (DRd.r (DRd.r DRd.e))))))))))))))))))))))))))) ?_
 refine RW.g XK 37 [.o 1,.p,.e [1,2],.o 3] rfl rfl rfl ?_
 refine RW.call rfl (laws_szNode_fn a.node left) rfl (.cons (.agg (.cons (.r .r) (.cons (.r .r) (.cons (.r .r) (.cons (.r .r) (.cons (.r .r) (.cons (.r .r) (.cons (.r .r) (.cons (.r .r) (.cons (.r .r) (.cons (.r .r) (.cons (.r .r) (.cons (.r .r) (.cons (.r .r) (.cons (.r .r) (.nil)))))))))))))))) (.cons (.one (.r .r)) (.nil))) fun g2 => ?_
 refine RW.g XK 37 [.o 1,.p,.e [1,2],.n 1,.e [1,2,10]] rfl rfl rfl ?_
 refine CW.cond rfl (fun h3 => ?_) (fun h3 => ?_)
 refine CW.g XK 37 [.n 1,.e [4]] rfl rfl rfl ?_
 refine CW.ret ?_
 exact Post.one (RV.i rfl q22) (AOs.a rfl (AOs.r AOs.e))
 refine CW.g XK 37 [.p,.e [1,2],.o 3] rfl rfl rfl ?_
 refine RW.call rfl (laws_szDisk_fn a.disk (szNode a.node left)) rfl (.cons (.agg (.cons (.r .r) (.nil))) (.cons (.one (.r .r)) (.nil))) fun g4 => ?_
 refine RW.g XK 37 [.o 1,.p,.e [1,2],.n 1,.e [1,2,16]] rfl rfl rfl ?_
 refine CW.cond rfl (fun h5 => ?_) (fun h5 => ?_)
 refine CW.g XK 37 [.n 1,.e [4]] rfl rfl rfl ?_
 refine CW.ret ?_
 exact Post.one (RV.i rfl q22) (AOs.a rfl (AOs.r AOs.e))
 refine CW.g XK 37 [.p,.e [1,2],.o 3] rfl rfl rfl ?_
 refine RW.call rfl (laws_szJournal_fn a.journal (szDisk a.disk (szNode a.node left))) rfl (.cons (.agg (.cons (.r .r) (.cons (.r .r) (.cons (.r .r) (.cons (.r .r) (.cons (.r .r) (.cons (.r .r) (.nil)))))))) (.cons (.one (.r .r)) (.nil))) fun g6 => ?_
 refine RW.g XK 37 [.o 1,.p,.e [1,2],.n 1,.e [1,2,22]] rfl rfl rfl ?_
 refine CW.cond rfl (fun h7 => ?_) (fun h7 => ?_)
 refine CW.g XK 37 [.n 1,.e [4]] rfl rfl rfl ?_
 refine CW.ret ?_
 exact Post.one (RV.i rfl q22) (AOs.a rfl (AOs.r AOs.e))
 refine CW.g XK 37 [.p,.e [1,2],.o 3] rfl rfl rfl ?_
 refine RW.call rfl (laws_szKeep_fn a.keep (szJournal a.journal (szDisk a.disk (szNode a.node left)))) rfl (.cons (.agg (.cons (.r .r) (.cons (.r .r) (.nil)))) (.cons (.one (.r .r)) (.nil))) fun g8 => ?_
 refine RW.g XK 37 [.o 1,.p,.e [1,2],.n 1,.e [1,2,28]] rfl rfl rfl ?_
 refine CW.cond rfl (fun h9 => ?_) (fun h9 => ?_)
 refine CW.g XK 37 [.n 1,.e [4]] rfl rfl rfl ?_
 refine CW.ret ?_
 exact Post.one (RV.i rfl q22) (AOs.a rfl (AOs.r AOs.e))
 refine CW.g XK 37 [.p,.e [1,2],.n 1,.e [1],.n 1,.e [1,35]] rfl rfl rfl ?_
 refine CW.cond rfl (fun h10 => ?_) (fun h10 => ?_)
 refine CW.g XK 37 [.n 1,.e [4]] rfl rfl rfl ?_
 refine CW.ret ?_
 exact Post.one (RV.i rfl q22) (AOs.a rfl (AOs.r AOs.e))
 refine CW.g XK 37 [.p,.e [1],.n 1,.e [4]] rfl rfl rfl ?_
 refine CW.ret ?_
 exact Post.one (RV.i rfl q22) (AOs.a rfl (AOs.r AOs.e))
set_option maxHeartbeats 4000000 in
theorem laws_szServerS_fn (a : List Server) (left : Int) : Eng.Fn E.P 16 [.one (.r (sl 27 Server.c a)), .one (.r (.v (.int .i64 left)))] (.one (.one (.w (.v (.int .i64 (szS szServer a left)))))) [.one (.r (sl 27 Server.c a)), .one (.r (.v (.int .i64 left)))] := by
 refine Eng.Fn.intro (E := E) (rvs := [.tmp 4]) Tryz.func16 rfl rfl rfl (by simp [outSlots, moved, rvSlot, sl]) ?_
 intro B g bo
 refine CW.bound (x := .tmp 0) (n := a.length) (AsT.r) (fun hl0 => ?_)
 refine CW.g XK 27 [.e [0,1],.n 2,.e [0,1],.n 1,.e [0,1,11]] rfl rfl rfl ?_
 refine CW.cond rfl (fun h1 => ?_) (fun h1 => ?_)
 refine CW.g XK 27 [.n 1,.e [4]] rfl rfl rfl ?_
 refine CW.ret ?_
 exact Post.one (RV.i rfl q8) (AOs.r (AOs.r AOs.e))
 refine CW.g XK 27 [.p,.e [0,1],.n 1,.e [0,1,5],.p] rfl rfl rfl ?_
 refine CW.loopI 27 (fun (zz : Nat × Int) => match zz with | (i, l) => [(0, .r (sl 27 Server.c a)), (1, I l), (5, I (i : Int))]) (fun (zz : Nat × Int) => match zz with | (i, l) => i ≤ a.length ∧ szL szServer (a.drop i) l = szS szServer a left) (fun (zz : Nat × Int) => match zz with | (i, l) => a.length - i) (0, _) rfl (Le.c rfl <| Le.c rfl <| Le.c rfl <| Le.e) ⟨by omega, by first | (simp_all [szS]; done) | grind [szS]⟩ ?_
 rintro ⟨i, l⟩ ⟨hb, hr⟩
 refine CW.g XK 27 [.n 1,.e [0,1,5,15]] rfl rfl rfl ?_
 refine CW.cond rfl (fun h2 => ?_) (fun h2 => ?_)
 have hii : i < a.length := by have := h2; simp at this; first | exact this | omega | (simp; done) | (simp; omega)
 obtain ⟨ei, hei⟩ : ∃ e, a[i]? = some e := ⟨_, List.getElem?_eq_getElem hii⟩
 have hdi := drop_get hei
 refine CW.g XK 27 [.p,.e [0,1,5],.o 2] rfl rfl rfl ?_
 refine RW.v rfl (V.indexS rfl rfl rfl rfl rfl rfl Server.len hei) ?_
 refine RW.g XK 27 [.o 2] rfl rfl rfl ?_
 refine RW.call rfl (laws_szServer_fn ei l) rfl (.cons (.agg (.cons (.r .r) (.cons (.r .r) (.cons (.r .r) (.cons (.r .r) (.cons (.r .r) (.cons (.r .r) (.cons (.r .r) (.cons (.r .r) (.cons (.r .r) (.cons (.r .r) (.cons (.r .r) (.cons (.r .r) (.cons (.r .r) (.cons (.r .r) (.cons (.r .r) (.cons (.r .r) (.cons (.r .r) (.cons (.r .r) (.cons (.r .r) (.cons (.r .r) (.cons (.r .r) (.cons (.r .r) (.cons (.r .r) (.cons (.r .r) (.cons (.r .r) (.cons (.r .r) (.cons (.r .r) (.nil))))))))))))))))))))))))))))) (.cons (.one (.r .r)) (.nil))) fun g3 => ?_
 refine RW.g XK 27 [.o 1,.p,.e [0,1,5],.n 1,.e [0,1,5,25]] rfl rfl rfl ?_
 refine CW.cond rfl (fun h4 => ?_) (fun h4 => ?_)
 refine CW.g XK 27 [.n 1,.e [4]] rfl rfl rfl ?_
 refine CW.ret ?_
 exact Post.one (RV.i rfl q8) (AOs.r (AOs.r AOs.e))
 refine CW.g XK 27 [.p,.e [0,1,5],.o 1] rfl rfl rfl ?_
 refine RW.v rfl (V.inc rfl rfl rfl hii hl0) ?_
 refine RW.g XK 27 [.o 1,.p] rfl rfl rfl ?_
 exact ⟨(i + 1, _), by simp only []; omega, ⟨by omega, by first | (simp_all [szL, szStr, szI]; done) | grind [szL, szStr, szI]⟩, rfl, Le.c rfl <| Le.c rfl <| Le.c rfl <| Le.e⟩
 have hii : a.length ≤ i := by have := h2; simp at this; first | exact this | omega | (simp; done) | (simp; omega)
 have hdi : a.drop i = [] := List.drop_eq_nil_of_le hii
 refine CW.exit ?_
 refine CW.g XK 27 [.e [1],.n 1,.e [4]] rfl rfl rfl ?_
 refine CW.ret ?_
 exact Post.one (RV.i rfl q8) (AOs.r (AOs.r AOs.e))
set_option maxHeartbeats 4000000 in
theorem laws_szMessage_fn (a : Message) (left : Int) : Eng.Fn E.P 60 [.agg ((Message.c a).map .r), .one (.r (.v (.int .i64 left)))] (.one (.one (.w (.v (.int .i64 (szMessage a left)))))) [.agg ((Message.c a).map .r), .one (.r (.v (.int .i64 left)))] := by
 refine Eng.Fn.intro (E := E) (rvs := [.tmp 4]) Tryz.func60 rfl rfl rfl (by simp [outSlots, moved, rvSlot, sl]) ?_
 intro B g bo
 refine CW.h XK 25 [.e [0,1],.o 1] rfl ?_;(conv=>whnf);intro b1;(conv=>whnf);refine ⟨rfl,?_⟩
 refine RW.freezeB (ts := (Message.c a)) 2 rfl (DRd.r (DRd.r (DRd.r (DRd.r (DRd.r (DRd.r (DRd.r (DRd.r (DRd.r (DRd.r (DRd.r (DRd.r DRd.e)))))))))))) ?_
 refine RW.g XK 25 [.o 1,.p,.e [1,2],.o 3] rfl rfl rfl ?_
 refine RW.call rfl (laws_szEntryS_fn a.entries left) rfl (.cons (.one (.r .r)) (.cons (.one (.r .r)) (.nil))) fun g2 => ?_
 refine RW.g XK 25 [.o 1,.p,.e [1,2],.n 1,.e [1,2,10]] rfl rfl rfl ?_
 refine CW.cond rfl (fun h3 => ?_) (fun h3 => ?_)
 refine CW.g XK 25 [.n 1,.e [4]] rfl rfl rfl ?_
 refine CW.ret ?_
 exact Post.one (RV.i rfl q27) (AOs.a rfl (AOs.r AOs.e))
 refine CW.g XK 25 [.p,.e [1,2],.o 3] rfl rfl rfl ?_
 refine RW.call rfl (laws_szIntS_fn a.conf (szS szEntry a.entries left)) rfl (.cons (.one (.r .r)) (.cons (.one (.r .r)) (.nil))) fun g4 => ?_
 refine RW.g XK 25 [.o 1,.p,.e [1,2],.n 1,.e [1,2,16]] rfl rfl rfl ?_
 refine CW.cond rfl (fun h5 => ?_) (fun h5 => ?_)
 refine CW.g XK 25 [.n 1,.e [4]] rfl rfl rfl ?_
 refine CW.ret ?_
 exact Post.one (RV.i rfl q27) (AOs.a rfl (AOs.r AOs.e))
 refine CW.g XK 25 [.p,.e [1,2],.n 1,.e [1],.n 1,.e [1,23]] rfl rfl rfl ?_
 refine CW.cond rfl (fun h6 => ?_) (fun h6 => ?_)
 refine CW.g XK 25 [.n 1,.e [4]] rfl rfl rfl ?_
 refine CW.ret ?_
 exact Post.one (RV.i rfl q27) (AOs.a rfl (AOs.r AOs.e))
 refine CW.g XK 25 [.p,.e [1],.n 1,.e [4]] rfl rfl rfl ?_
 refine CW.ret ?_
 exact Post.one (RV.i rfl q27) (AOs.a rfl (AOs.r AOs.e))
set_option maxHeartbeats 4000000 in
theorem laws_szMessageS_fn (a : List Message) (left : Int) : Eng.Fn E.P 17 [.one (.r (sl 12 Message.c a)), .one (.r (.v (.int .i64 left)))] (.one (.one (.w (.v (.int .i64 (szS szMessage a left)))))) [.one (.r (sl 12 Message.c a)), .one (.r (.v (.int .i64 left)))] := by
 refine Eng.Fn.intro (E := E) (rvs := [.tmp 4]) Tryz.func17 rfl rfl rfl (by simp [outSlots, moved, rvSlot, sl]) ?_
 intro B g bo
 refine CW.bound (x := .tmp 0) (n := a.length) (AsT.r) (fun hl0 => ?_)
 refine CW.g XK 27 [.e [0,1],.n 2,.e [0,1],.n 1,.e [0,1,11]] rfl rfl rfl ?_
 refine CW.cond rfl (fun h1 => ?_) (fun h1 => ?_)
 refine CW.g XK 27 [.n 1,.e [4]] rfl rfl rfl ?_
 refine CW.ret ?_
 exact Post.one (RV.i rfl q8) (AOs.r (AOs.r AOs.e))
 refine CW.g XK 27 [.p,.e [0,1],.n 1,.e [0,1,5],.p] rfl rfl rfl ?_
 refine CW.loopI 27 (fun (zz : Nat × Int) => match zz with | (i, l) => [(0, .r (sl 12 Message.c a)), (1, I l), (5, I (i : Int))]) (fun (zz : Nat × Int) => match zz with | (i, l) => i ≤ a.length ∧ szL szMessage (a.drop i) l = szS szMessage a left) (fun (zz : Nat × Int) => match zz with | (i, l) => a.length - i) (0, _) rfl (Le.c rfl <| Le.c rfl <| Le.c rfl <| Le.e) ⟨by omega, by first | (simp_all [szS]; done) | grind [szS]⟩ ?_
 rintro ⟨i, l⟩ ⟨hb, hr⟩
 refine CW.g XK 27 [.n 1,.e [0,1,5,15]] rfl rfl rfl ?_
 refine CW.cond rfl (fun h2 => ?_) (fun h2 => ?_)
 have hii : i < a.length := by have := h2; simp at this; first | exact this | omega | (simp; done) | (simp; omega)
 obtain ⟨ei, hei⟩ : ∃ e, a[i]? = some e := ⟨_, List.getElem?_eq_getElem hii⟩
 have hdi := drop_get hei
 refine CW.g XK 27 [.p,.e [0,1,5],.o 2] rfl rfl rfl ?_
 refine RW.v rfl (V.indexS rfl rfl rfl rfl rfl rfl Message.len hei) ?_
 refine RW.g XK 27 [.o 2] rfl rfl rfl ?_
 refine RW.call rfl (laws_szMessage_fn ei l) rfl (.cons (.agg (.cons (.r .r) (.cons (.r .r) (.cons (.r .r) (.cons (.r .r) (.cons (.r .r) (.cons (.r .r) (.cons (.r .r) (.cons (.r .r) (.cons (.r .r) (.cons (.r .r) (.cons (.r .r) (.cons (.r .r) (.nil)))))))))))))) (.cons (.one (.r .r)) (.nil))) fun g3 => ?_
 refine RW.g XK 27 [.o 1,.p,.e [0,1,5],.n 1,.e [0,1,5,25]] rfl rfl rfl ?_
 refine CW.cond rfl (fun h4 => ?_) (fun h4 => ?_)
 refine CW.g XK 27 [.n 1,.e [4]] rfl rfl rfl ?_
 refine CW.ret ?_
 exact Post.one (RV.i rfl q8) (AOs.r (AOs.r AOs.e))
 refine CW.g XK 27 [.p,.e [0,1,5],.o 1] rfl rfl rfl ?_
 refine RW.v rfl (V.inc rfl rfl rfl hii hl0) ?_
 refine RW.g XK 27 [.o 1,.p] rfl rfl rfl ?_
 exact ⟨(i + 1, _), by simp only []; omega, ⟨by omega, by first | (simp_all [szL, szStr, szI]; done) | grind [szL, szStr, szI]⟩, rfl, Le.c rfl <| Le.c rfl <| Le.c rfl <| Le.e⟩
 have hii : a.length ≤ i := by have := h2; simp at this; first | exact this | omega | (simp; done) | (simp; omega)
 have hdi : a.drop i = [] := List.drop_eq_nil_of_le hii
 refine CW.exit ?_
 refine CW.g XK 27 [.e [1],.n 1,.e [4]] rfl rfl rfl ?_
 refine CW.ret ?_
 exact Post.one (RV.i rfl q8) (AOs.r (AOs.r AOs.e))
set_option maxHeartbeats 4000000 in
theorem laws_szWaitS_fn (a : List Wait) (left : Int) : Eng.Fn E.P 18 [.one (.r (sl 4 Wait.c a)), .one (.r (.v (.int .i64 left)))] (.one (.one (.w (.v (.int .i64 (szI a left)))))) [.one (.r (sl 4 Wait.c a)), .one (.r (.v (.int .i64 left)))] := by
 refine Eng.Fn.intro (E := E) (rvs := [.tmp 4]) Tryz.func18 rfl rfl rfl (by simp [outSlots, moved, rvSlot, sl]) ?_
 intro B g bo
 refine CW.bound (x := .tmp 0) (n := a.length) (AsT.r) (fun hl0 => ?_)
 refine CW.g XK 12 [.e [0,1],.n 2,.e [1],.n 1,.e [1,10]] rfl rfl rfl ?_
 refine CW.cond rfl (fun h1 => ?_) (fun h1 => ?_)
 refine CW.g XK 12 [.n 1,.e [4]] rfl rfl rfl ?_
 refine CW.ret ?_
 exact Post.one (RV.i rfl q23) (AOs.r (AOs.r AOs.e))
 refine CW.g XK 12 [.p,.e [1],.n 1,.e [4]] rfl rfl rfl ?_
 refine CW.ret ?_
 exact Post.one (RV.i rfl q23) (AOs.r (AOs.r AOs.e))
set_option maxHeartbeats 4000000 in
theorem laws_szLeader_fn (a : Leader) (left : Int) : Eng.Fn E.P 61 [.agg ((Leader.c a).map .r), .one (.r (.v (.int .i64 left)))] (.one (.one (.w (.v (.int .i64 (szLeader a left)))))) [.agg ((Leader.c a).map .r), .one (.r (.v (.int .i64 left)))] := by
 refine Eng.Fn.intro (E := E) (rvs := [.tmp 4]) Tryz.func61 rfl rfl rfl (by simp [outSlots, moved, rvSlot, sl]) ?_
 intro B g bo
 refine CW.h XK 12 [.e [0,1],.o 1] rfl ?_;(conv=>whnf);intro b1;(conv=>whnf);refine ⟨rfl,?_⟩
 refine RW.freezeB (ts := (Leader.c a)) 2 rfl (DRd.r (DRd.r (DRd.r (DRd.r (DRd.r DRd.e))))) ?_
 refine RW.g XK 12 [.o 1,.p,.e [1,2],.o 3] rfl rfl rfl ?_
 refine RW.call rfl (laws_szLog_fn a.log left) rfl (.cons (.agg (.cons (.r .r) (.cons (.r .r) (.cons (.r .r) (.nil))))) (.cons (.one (.r .r)) (.nil))) fun g2 => ?_
 refine RW.g XK 12 [.o 1,.p,.e [1],.n 1,.e [1,10]] rfl rfl rfl ?_
 refine CW.cond rfl (fun h3 => ?_) (fun h3 => ?_)
 refine CW.g XK 12 [.n 1,.e [4]] rfl rfl rfl ?_
 refine CW.ret ?_
 exact Post.one (RV.i rfl (by first | (simp_all [szLeader]; done) | (simp_all [szLeader]; omega) | grind [szLeader])) (AOs.a rfl (AOs.r AOs.e))
 refine CW.g XK 12 [.p,.e [1],.n 1,.e [4]] rfl rfl rfl ?_
 refine CW.ret ?_
 exact Post.one (RV.i rfl (by first | (simp_all [szLeader]; done) | (simp_all [szLeader]; omega) | grind [szLeader])) (AOs.a rfl (AOs.r AOs.e))
set_option maxHeartbeats 4000000 in
theorem laws_szLeaderS_fn (a : List Leader) (left : Int) : Eng.Fn E.P 19 [.one (.r (sl 5 Leader.c a)), .one (.r (.v (.int .i64 left)))] (.one (.one (.w (.v (.int .i64 (szS szLeader a left)))))) [.one (.r (sl 5 Leader.c a)), .one (.r (.v (.int .i64 left)))] := by
 refine Eng.Fn.intro (E := E) (rvs := [.tmp 4]) Tryz.func19 rfl rfl rfl (by simp [outSlots, moved, rvSlot, sl]) ?_
 intro B g bo
 refine CW.bound (x := .tmp 0) (n := a.length) (AsT.r) (fun hl0 => ?_)
 refine CW.g XK 27 [.e [0,1],.n 2,.e [0,1],.n 1,.e [0,1,11]] rfl rfl rfl ?_
 refine CW.cond rfl (fun h1 => ?_) (fun h1 => ?_)
 refine CW.g XK 27 [.n 1,.e [4]] rfl rfl rfl ?_
 refine CW.ret ?_
 exact Post.one (RV.i rfl q8) (AOs.r (AOs.r AOs.e))
 refine CW.g XK 27 [.p,.e [0,1],.n 1,.e [0,1,5],.p] rfl rfl rfl ?_
 refine CW.loopI 27 (fun (zz : Nat × Int) => match zz with | (i, l) => [(0, .r (sl 5 Leader.c a)), (1, I l), (5, I (i : Int))]) (fun (zz : Nat × Int) => match zz with | (i, l) => i ≤ a.length ∧ szL szLeader (a.drop i) l = szS szLeader a left) (fun (zz : Nat × Int) => match zz with | (i, l) => a.length - i) (0, _) rfl (Le.c rfl <| Le.c rfl <| Le.c rfl <| Le.e) ⟨by omega, by first | (simp_all [szS]; done) | grind [szS]⟩ ?_
 rintro ⟨i, l⟩ ⟨hb, hr⟩
 refine CW.g XK 27 [.n 1,.e [0,1,5,15]] rfl rfl rfl ?_
 refine CW.cond rfl (fun h2 => ?_) (fun h2 => ?_)
 have hii : i < a.length := by have := h2; simp at this; first | exact this | omega | (simp; done) | (simp; omega)
 obtain ⟨ei, hei⟩ : ∃ e, a[i]? = some e := ⟨_, List.getElem?_eq_getElem hii⟩
 have hdi := drop_get hei
 refine CW.g XK 27 [.p,.e [0,1,5],.o 2] rfl rfl rfl ?_
 refine RW.v rfl (V.indexS rfl rfl rfl rfl rfl rfl Leader.len hei) ?_
 refine RW.g XK 27 [.o 2] rfl rfl rfl ?_
 refine RW.call rfl (laws_szLeader_fn ei l) rfl (.cons (.agg (.cons (.r .r) (.cons (.r .r) (.cons (.r .r) (.cons (.r .r) (.cons (.r .r) (.nil))))))) (.cons (.one (.r .r)) (.nil))) fun g3 => ?_
 refine RW.g XK 27 [.o 1,.p,.e [0,1,5],.n 1,.e [0,1,5,25]] rfl rfl rfl ?_
 refine CW.cond rfl (fun h4 => ?_) (fun h4 => ?_)
 refine CW.g XK 27 [.n 1,.e [4]] rfl rfl rfl ?_
 refine CW.ret ?_
 exact Post.one (RV.i rfl q8) (AOs.r (AOs.r AOs.e))
 refine CW.g XK 27 [.p,.e [0,1,5],.o 1] rfl rfl rfl ?_
 refine RW.v rfl (V.inc rfl rfl rfl hii hl0) ?_
 refine RW.g XK 27 [.o 1,.p] rfl rfl rfl ?_
 exact ⟨(i + 1, _), by simp only []; omega, ⟨by omega, by first | (simp_all [szL, szStr, szI]; done) | grind [szL, szStr, szI]⟩, rfl, Le.c rfl <| Le.c rfl <| Le.c rfl <| Le.e⟩
 have hii : a.length ≤ i := by have := h2; simp at this; first | exact this | omega | (simp; done) | (simp; omega)
 have hdi : a.drop i = [] := List.drop_eq_nil_of_le hii
 refine CW.exit ?_
 refine CW.g XK 27 [.e [1],.n 1,.e [4]] rfl rfl rfl ?_
 refine CW.ret ?_
 exact Post.one (RV.i rfl q8) (AOs.r (AOs.r AOs.e))
set_option maxHeartbeats 4000000 in
theorem laws_szApplied_fn (a : Applied) (left : Int) : Eng.Fn E.P 62 [.agg ((Applied.c a).map .r), .one (.r (.v (.int .i64 left)))] (.one (.one (.w (.v (.int .i64 (szApplied a left)))))) [.agg ((Applied.c a).map .r), .one (.r (.v (.int .i64 left)))] := by
 refine Eng.Fn.intro (E := E) (rvs := [.tmp 4]) Tryz.func62 rfl rfl rfl (by simp [outSlots, moved, rvSlot, sl]) ?_
 intro B g bo
 refine CW.h XK 12 [.e [0,1],.o 1] rfl ?_;(conv=>whnf);intro b1;(conv=>whnf);refine ⟨rfl,?_⟩
 refine RW.freezeB (ts := (Applied.c a)) 2 rfl (DRd.r (DRd.r (DRd.r (DRd.r (DRd.r (DRd.r DRd.e)))))) ?_
 refine RW.g XK 12 [.o 1,.p,.e [1,2],.o 3] rfl rfl rfl ?_
 refine RW.call rfl (laws_szEntry_fn a.entry left) rfl (.cons (.agg (.cons (.r .r) (.cons (.r .r) (.cons (.r .r) (.nil))))) (.cons (.one (.r .r)) (.nil))) fun g2 => ?_
 refine RW.g XK 12 [.o 1,.p,.e [1],.n 1,.e [1,10]] rfl rfl rfl ?_
 refine CW.cond rfl (fun h3 => ?_) (fun h3 => ?_)
 refine CW.g XK 12 [.n 1,.e [4]] rfl rfl rfl ?_
 refine CW.ret ?_
 exact Post.one (RV.i rfl (by first | (simp_all [szApplied]; done) | (simp_all [szApplied]; omega) | grind [szApplied])) (AOs.a rfl (AOs.r AOs.e))
 refine CW.g XK 12 [.p,.e [1],.n 1,.e [4]] rfl rfl rfl ?_
 refine CW.ret ?_
 exact Post.one (RV.i rfl (by first | (simp_all [szApplied]; done) | (simp_all [szApplied]; omega) | grind [szApplied])) (AOs.a rfl (AOs.r AOs.e))
set_option maxHeartbeats 4000000 in
theorem laws_szAppliedS_fn (a : List Applied) (left : Int) : Eng.Fn E.P 20 [.one (.r (sl 6 Applied.c a)), .one (.r (.v (.int .i64 left)))] (.one (.one (.w (.v (.int .i64 (szS szApplied a left)))))) [.one (.r (sl 6 Applied.c a)), .one (.r (.v (.int .i64 left)))] := by
 refine Eng.Fn.intro (E := E) (rvs := [.tmp 4]) Tryz.func20 rfl rfl rfl (by simp [outSlots, moved, rvSlot, sl]) ?_
 intro B g bo
 refine CW.bound (x := .tmp 0) (n := a.length) (AsT.r) (fun hl0 => ?_)
 refine CW.g XK 27 [.e [0,1],.n 2,.e [0,1],.n 1,.e [0,1,11]] rfl rfl rfl ?_
 refine CW.cond rfl (fun h1 => ?_) (fun h1 => ?_)
 refine CW.g XK 27 [.n 1,.e [4]] rfl rfl rfl ?_
 refine CW.ret ?_
 exact Post.one (RV.i rfl q8) (AOs.r (AOs.r AOs.e))
 refine CW.g XK 27 [.p,.e [0,1],.n 1,.e [0,1,5],.p] rfl rfl rfl ?_
 refine CW.loopI 27 (fun (zz : Nat × Int) => match zz with | (i, l) => [(0, .r (sl 6 Applied.c a)), (1, I l), (5, I (i : Int))]) (fun (zz : Nat × Int) => match zz with | (i, l) => i ≤ a.length ∧ szL szApplied (a.drop i) l = szS szApplied a left) (fun (zz : Nat × Int) => match zz with | (i, l) => a.length - i) (0, _) rfl (Le.c rfl <| Le.c rfl <| Le.c rfl <| Le.e) ⟨by omega, by first | (simp_all [szS]; done) | grind [szS]⟩ ?_
 rintro ⟨i, l⟩ ⟨hb, hr⟩
 refine CW.g XK 27 [.n 1,.e [0,1,5,15]] rfl rfl rfl ?_
 refine CW.cond rfl (fun h2 => ?_) (fun h2 => ?_)
 have hii : i < a.length := by have := h2; simp at this; first | exact this | omega | (simp; done) | (simp; omega)
 obtain ⟨ei, hei⟩ : ∃ e, a[i]? = some e := ⟨_, List.getElem?_eq_getElem hii⟩
 have hdi := drop_get hei
 refine CW.g XK 27 [.p,.e [0,1,5],.o 2] rfl rfl rfl ?_
 refine RW.v rfl (V.indexS rfl rfl rfl rfl rfl rfl Applied.len hei) ?_
 refine RW.g XK 27 [.o 2] rfl rfl rfl ?_
 refine RW.call rfl (laws_szApplied_fn ei l) rfl (.cons (.agg (.cons (.r .r) (.cons (.r .r) (.cons (.r .r) (.cons (.r .r) (.cons (.r .r) (.cons (.r .r) (.nil)))))))) (.cons (.one (.r .r)) (.nil))) fun g3 => ?_
 refine RW.g XK 27 [.o 1,.p,.e [0,1,5],.n 1,.e [0,1,5,25]] rfl rfl rfl ?_
 refine CW.cond rfl (fun h4 => ?_) (fun h4 => ?_)
 refine CW.g XK 27 [.n 1,.e [4]] rfl rfl rfl ?_
 refine CW.ret ?_
 exact Post.one (RV.i rfl q8) (AOs.r (AOs.r AOs.e))
 refine CW.g XK 27 [.p,.e [0,1,5],.o 1] rfl rfl rfl ?_
 refine RW.v rfl (V.inc rfl rfl rfl hii hl0) ?_
 refine RW.g XK 27 [.o 1,.p] rfl rfl rfl ?_
 exact ⟨(i + 1, _), by simp only []; omega, ⟨by omega, by first | (simp_all [szL, szStr, szI]; done) | grind [szL, szStr, szI]⟩, rfl, Le.c rfl <| Le.c rfl <| Le.c rfl <| Le.e⟩
 have hii : a.length ≤ i := by have := h2; simp at this; first | exact this | omega | (simp; done) | (simp; omega)
 have hdi : a.drop i = [] := List.drop_eq_nil_of_le hii
 refine CW.exit ?_
 refine CW.g XK 27 [.e [1],.n 1,.e [4]] rfl rfl rfl ?_
 refine CW.ret ?_
 exact Post.one (RV.i rfl q8) (AOs.r (AOs.r AOs.e))
set_option maxHeartbeats 4000000 in
theorem laws_szCommand_fn (a : Command) (left : Int) : Eng.Fn E.P 100 [.agg ((Command.c a).map .r), .one (.r (.v (.int .i64 left)))] (.one (.one (.w (.v (.int .i64 (szCommand a left)))))) [.agg ((Command.c a).map .r), .one (.r (.v (.int .i64 left)))] := by
 refine Eng.Fn.intro (E := E) (rvs := [.tmp 4]) Tryz.func100 rfl rfl rfl (by simp [outSlots, moved, rvSlot, sl]) ?_
 intro B g bo
 refine CW.h XK 20 [.e [0,1],.o 1] rfl ?_;(conv=>whnf);intro b1;(conv=>whnf);refine ⟨rfl,?_⟩
 refine RW.freezeB (ts := (Command.c a)) 2 rfl (DRd.r (DRd.r (DRd.r (DRd.r (DRd.r (DRd.r DRd.e)))))) ?_
 refine RW.g XK 20 [.o 1,.p,.e [1,2],.n 1,.e [1,2],.n 1,.e [1,2,11]] rfl rfl rfl ?_
 refine CW.cond rfl (fun h2 => ?_) (fun h2 => ?_)
 refine CW.g XK 20 [.n 1,.e [4]] rfl rfl rfl ?_
 refine CW.ret ?_
 exact Post.one (RV.i rfl q35) (AOs.a rfl (AOs.r AOs.e))
 refine CW.g XK 20 [.p,.e [1,2],.n 1,.e [1],.n 1,.e [1,18]] rfl rfl rfl ?_
 refine CW.cond rfl (fun h3 => ?_) (fun h3 => ?_)
 refine CW.g XK 20 [.n 1,.e [4]] rfl rfl rfl ?_
 refine CW.ret ?_
 exact Post.one (RV.i rfl q35) (AOs.a rfl (AOs.r AOs.e))
 refine CW.g XK 20 [.p,.e [1],.n 1,.e [4]] rfl rfl rfl ?_
 refine CW.ret ?_
 exact Post.one (RV.i rfl q35) (AOs.a rfl (AOs.r AOs.e))
set_option maxHeartbeats 4000000 in
theorem laws_szReply_fn (a : Reply) (left : Int) : Eng.Fn E.P 63 [.agg ((Reply.c a).map .r), .one (.r (.v (.int .i64 left)))] (.one (.one (.w (.v (.int .i64 (szReply a left)))))) [.agg ((Reply.c a).map .r), .one (.r (.v (.int .i64 left)))] := by
 refine Eng.Fn.intro (E := E) (rvs := [.tmp 4]) Tryz.func63 rfl rfl rfl (by simp [outSlots, moved, rvSlot, sl]) ?_
 intro B g bo
 refine CW.h XK 19 [.e [0,1],.o 1] rfl ?_;(conv=>whnf);intro b1;(conv=>whnf);refine ⟨rfl,?_⟩
 refine RW.freezeB (ts := (Reply.c a)) 2 rfl (DRd.r (DRd.r (DRd.r (DRd.r (DRd.r (DRd.r (DRd.r (DRd.r (DRd.r (DRd.r DRd.e)))))))))) ?_
 refine RW.g XK 19 [.o 1,.p,.e [1,2],.o 3] rfl rfl rfl ?_
 refine RW.call rfl (laws_szCommand_fn a.command left) rfl (.cons (.agg (.cons (.r .r) (.cons (.r .r) (.cons (.r .r) (.cons (.r .r) (.cons (.r .r) (.cons (.r .r) (.nil)))))))) (.cons (.one (.r .r)) (.nil))) fun g2 => ?_
 refine RW.g XK 19 [.o 1,.p,.e [1,2],.n 1,.e [1,2,10]] rfl rfl rfl ?_
 refine CW.cond rfl (fun h3 => ?_) (fun h3 => ?_)
 refine CW.g XK 19 [.n 1,.e [4]] rfl rfl rfl ?_
 refine CW.ret ?_
 exact Post.one (RV.i rfl q36) (AOs.a rfl (AOs.r AOs.e))
 refine CW.g XK 19 [.p,.e [1,2],.n 1,.e [1],.n 1,.e [1,17]] rfl rfl rfl ?_
 refine CW.cond rfl (fun h4 => ?_) (fun h4 => ?_)
 refine CW.g XK 19 [.n 1,.e [4]] rfl rfl rfl ?_
 refine CW.ret ?_
 exact Post.one (RV.i rfl q36) (AOs.a rfl (AOs.r AOs.e))
 refine CW.g XK 19 [.p,.e [1],.n 1,.e [4]] rfl rfl rfl ?_
 refine CW.ret ?_
 exact Post.one (RV.i rfl q36) (AOs.a rfl (AOs.r AOs.e))
set_option maxHeartbeats 4000000 in
theorem laws_szReplyS_fn (a : List Reply) (left : Int) : Eng.Fn E.P 21 [.one (.r (sl 10 Reply.c a)), .one (.r (.v (.int .i64 left)))] (.one (.one (.w (.v (.int .i64 (szS szReply a left)))))) [.one (.r (sl 10 Reply.c a)), .one (.r (.v (.int .i64 left)))] := by
 refine Eng.Fn.intro (E := E) (rvs := [.tmp 4]) Tryz.func21 rfl rfl rfl (by simp [outSlots, moved, rvSlot, sl]) ?_
 intro B g bo
 refine CW.bound (x := .tmp 0) (n := a.length) (AsT.r) (fun hl0 => ?_)
 refine CW.g XK 27 [.e [0,1],.n 2,.e [0,1],.n 1,.e [0,1,11]] rfl rfl rfl ?_
 refine CW.cond rfl (fun h1 => ?_) (fun h1 => ?_)
 refine CW.g XK 27 [.n 1,.e [4]] rfl rfl rfl ?_
 refine CW.ret ?_
 exact Post.one (RV.i rfl q8) (AOs.r (AOs.r AOs.e))
 refine CW.g XK 27 [.p,.e [0,1],.n 1,.e [0,1,5],.p] rfl rfl rfl ?_
 refine CW.loopI 27 (fun (zz : Nat × Int) => match zz with | (i, l) => [(0, .r (sl 10 Reply.c a)), (1, I l), (5, I (i : Int))]) (fun (zz : Nat × Int) => match zz with | (i, l) => i ≤ a.length ∧ szL szReply (a.drop i) l = szS szReply a left) (fun (zz : Nat × Int) => match zz with | (i, l) => a.length - i) (0, _) rfl (Le.c rfl <| Le.c rfl <| Le.c rfl <| Le.e) ⟨by omega, by first | (simp_all [szS]; done) | grind [szS]⟩ ?_
 rintro ⟨i, l⟩ ⟨hb, hr⟩
 refine CW.g XK 27 [.n 1,.e [0,1,5,15]] rfl rfl rfl ?_
 refine CW.cond rfl (fun h2 => ?_) (fun h2 => ?_)
 have hii : i < a.length := by have := h2; simp at this; first | exact this | omega | (simp; done) | (simp; omega)
 obtain ⟨ei, hei⟩ : ∃ e, a[i]? = some e := ⟨_, List.getElem?_eq_getElem hii⟩
 have hdi := drop_get hei
 refine CW.g XK 27 [.p,.e [0,1,5],.o 2] rfl rfl rfl ?_
 refine RW.v rfl (V.indexS rfl rfl rfl rfl rfl rfl Reply.len hei) ?_
 refine RW.g XK 27 [.o 2] rfl rfl rfl ?_
 refine RW.call rfl (laws_szReply_fn ei l) rfl (.cons (.agg (.cons (.r .r) (.cons (.r .r) (.cons (.r .r) (.cons (.r .r) (.cons (.r .r) (.cons (.r .r) (.cons (.r .r) (.cons (.r .r) (.cons (.r .r) (.cons (.r .r) (.nil)))))))))))) (.cons (.one (.r .r)) (.nil))) fun g3 => ?_
 refine RW.g XK 27 [.o 1,.p,.e [0,1,5],.n 1,.e [0,1,5,25]] rfl rfl rfl ?_
 refine CW.cond rfl (fun h4 => ?_) (fun h4 => ?_)
 refine CW.g XK 27 [.n 1,.e [4]] rfl rfl rfl ?_
 refine CW.ret ?_
 exact Post.one (RV.i rfl q8) (AOs.r (AOs.r AOs.e))
 refine CW.g XK 27 [.p,.e [0,1,5],.o 1] rfl rfl rfl ?_
 refine RW.v rfl (V.inc rfl rfl rfl hii hl0) ?_
 refine RW.g XK 27 [.o 1,.p] rfl rfl rfl ?_
 exact ⟨(i + 1, _), by simp only []; omega, ⟨by omega, by first | (simp_all [szL, szStr, szI]; done) | grind [szL, szStr, szI]⟩, rfl, Le.c rfl <| Le.c rfl <| Le.c rfl <| Le.e⟩
 have hii : a.length ≤ i := by have := h2; simp at this; first | exact this | omega | (simp; done) | (simp; omega)
 have hdi : a.drop i = [] := List.drop_eq_nil_of_le hii
 refine CW.exit ?_
 refine CW.g XK 27 [.e [1],.n 1,.e [4]] rfl rfl rfl ?_
 refine CW.ret ?_
 exact Post.one (RV.i rfl q8) (AOs.r (AOs.r AOs.e))
set_option maxHeartbeats 4000000 in
theorem laws_szWorld_fn (a : World) (left : Int) : Eng.Fn E.P 6 [.agg ((World.c a).map .r), .one (.r (.v (.int .i64 left)))] (.one (.one (.w (.v (.int .i64 (szWorld a left)))))) [.agg ((World.c a).map .r), .one (.r (.v (.int .i64 left)))] := by
 refine Eng.Fn.intro (E := E) (rvs := [.tmp 4]) Tryz.func6 rfl rfl rfl (by simp [outSlots, moved, rvSlot, sl]) ?_
 intro B g bo
 refine CW.h XK 48 [.e [0,1],.o 1] rfl ?_;(conv=>whnf);intro b1;(conv=>whnf);refine ⟨rfl,?_⟩
 refine RW.freezeB (ts := (World.c a)) 2 rfl (DRd.r (DRd.r (DRd.r (DRd.r (DRd.r (DRd.r (DRd.r DRd.e))))))) ?_
 refine RW.g XK 48 [.o 1,.p,.e [1,2],.o 3] rfl rfl rfl ?_
 refine RW.call rfl (laws_szBoolS_fn a.up left) rfl (.cons (.one (.r .r)) (.cons (.one (.r .r)) (.nil))) fun g2 => ?_
 refine RW.g XK 48 [.o 1,.p,.e [1,2],.n 1,.e [1,2,10]] rfl rfl rfl ?_
 refine CW.cond rfl (fun h3 => ?_) (fun h3 => ?_)
 refine CW.g XK 48 [.n 1,.e [4]] rfl rfl rfl ?_
 refine CW.ret ?_
 exact Post.one (RV.i rfl q18) (AOs.a rfl (AOs.r AOs.e))
 refine CW.g XK 48 [.p,.e [1,2],.o 3] rfl rfl rfl ?_
 refine RW.call rfl (laws_szServerS_fn a.servers (szI a.up left)) rfl (.cons (.one (.r .r)) (.cons (.one (.r .r)) (.nil))) fun g4 => ?_
 refine RW.g XK 48 [.o 1,.p,.e [1,2],.n 1,.e [1,2,16]] rfl rfl rfl ?_
 refine CW.cond rfl (fun h5 => ?_) (fun h5 => ?_)
 refine CW.g XK 48 [.n 1,.e [4]] rfl rfl rfl ?_
 refine CW.ret ?_
 exact Post.one (RV.i rfl q18) (AOs.a rfl (AOs.r AOs.e))
 refine CW.g XK 48 [.p,.e [1,2],.o 3] rfl rfl rfl ?_
 refine RW.call rfl (laws_szMessageS_fn a.net (szS szServer a.servers (szI a.up left))) rfl (.cons (.one (.r .r)) (.cons (.one (.r .r)) (.nil))) fun g6 => ?_
 refine RW.g XK 48 [.o 1,.p,.e [1,2],.n 1,.e [1,2,22]] rfl rfl rfl ?_
 refine CW.cond rfl (fun h7 => ?_) (fun h7 => ?_)
 refine CW.g XK 48 [.n 1,.e [4]] rfl rfl rfl ?_
 refine CW.ret ?_
 exact Post.one (RV.i rfl q18) (AOs.a rfl (AOs.r AOs.e))
 refine CW.g XK 48 [.p,.e [1,2],.o 3] rfl rfl rfl ?_
 refine RW.call rfl (laws_szWaitS_fn a.waits (szS szMessage a.net (szS szServer a.servers (szI a.up left)))) rfl (.cons (.one (.r .r)) (.cons (.one (.r .r)) (.nil))) fun g8 => ?_
 refine RW.g XK 48 [.o 1,.p,.e [1,2],.n 1,.e [1,2,28]] rfl rfl rfl ?_
 refine CW.cond rfl (fun h9 => ?_) (fun h9 => ?_)
 refine CW.g XK 48 [.n 1,.e [4]] rfl rfl rfl ?_
 refine CW.ret ?_
 exact Post.one (RV.i rfl q18) (AOs.a rfl (AOs.r AOs.e))
 refine CW.g XK 48 [.p,.e [1,2],.o 3] rfl rfl rfl ?_
 refine RW.call rfl (laws_szLeaderS_fn a.leaders (szI a.waits (szS szMessage a.net (szS szServer a.servers (szI a.up left))))) rfl (.cons (.one (.r .r)) (.cons (.one (.r .r)) (.nil))) fun g10 => ?_
 refine RW.g XK 48 [.o 1,.p,.e [1,2],.n 1,.e [1,2,34]] rfl rfl rfl ?_
 refine CW.cond rfl (fun h11 => ?_) (fun h11 => ?_)
 refine CW.g XK 48 [.n 1,.e [4]] rfl rfl rfl ?_
 refine CW.ret ?_
 exact Post.one (RV.i rfl q18) (AOs.a rfl (AOs.r AOs.e))
 refine CW.g XK 48 [.p,.e [1,2],.o 3] rfl rfl rfl ?_
 refine RW.call rfl (laws_szAppliedS_fn a.applied (szS szLeader a.leaders (szI a.waits (szS szMessage a.net (szS szServer a.servers (szI a.up left)))))) rfl (.cons (.one (.r .r)) (.cons (.one (.r .r)) (.nil))) fun g12 => ?_
 refine RW.g XK 48 [.o 1,.p,.e [1,2],.n 1,.e [1,2,40]] rfl rfl rfl ?_
 refine CW.cond rfl (fun h13 => ?_) (fun h13 => ?_)
 refine CW.g XK 48 [.n 1,.e [4]] rfl rfl rfl ?_
 refine CW.ret ?_
 exact Post.one (RV.i rfl q18) (AOs.a rfl (AOs.r AOs.e))
 refine CW.g XK 48 [.p,.e [1,2],.o 3] rfl rfl rfl ?_
 refine RW.call rfl (laws_szReplyS_fn a.replies (szS szApplied a.applied (szS szLeader a.leaders (szI a.waits (szS szMessage a.net (szS szServer a.servers (szI a.up left))))))) rfl (.cons (.one (.r .r)) (.cons (.one (.r .r)) (.nil))) fun g14 => ?_
 refine RW.g XK 48 [.o 1,.p,.e [1],.n 1,.e [1,46]] rfl rfl rfl ?_
 refine CW.cond rfl (fun h15 => ?_) (fun h15 => ?_)
 refine CW.g XK 48 [.n 1,.e [4]] rfl rfl rfl ?_
 refine CW.ret ?_
 exact Post.one (RV.i rfl q18) (AOs.a rfl (AOs.r AOs.e))
 refine CW.g XK 48 [.p,.e [1],.n 1,.e [4]] rfl rfl rfl ?_
 refine CW.ret ?_
 exact Post.one (RV.i rfl q18) (AOs.a rfl (AOs.r AOs.e))
set_option maxHeartbeats 4000000 in
theorem spec_SameApplied_fn (a : List Applied) : Eng.Fn E.P 52 [.one (.r (sl 6 Applied.c a))] (.one (.one (.w (.v (.bool (pairs badApplied [] a)))))) [.one (.r (sl 6 Applied.c a))] := by
 refine Eng.Fn.intro (E := E) (rvs := [.tmp 2]) Tryz.func52 rfl rfl rfl (by simp [outSlots, moved, rvSlot, sl]) ?_
 intro B g bo
 refine CW.bound (x := .tmp 0) (n := a.length) (AsT.r) (fun hl0 => ?_)
 refine CW.g XK 40 [.e [0],.n 1,.e [0],.n 1,.e [0,3],.p] rfl rfl rfl ?_
 refine CW.loopI 40 (fun (i : Nat) => [(0, .r (sl 6 Applied.c a)), (3, I (i : Int))]) (fun (i : Nat) => i ≤ a.length ∧ pairs badApplied (a.take i) (a.drop i) = pairs badApplied [] a) (fun (i : Nat) => a.length - i) 0 rfl (Le.c rfl <| Le.c rfl <| Le.e) ⟨by omega, by simp⟩ ?_
 rintro i ⟨hb, hr⟩
 refine CW.g XK 40 [.n 1,.e [0,3,8]] rfl rfl rfl ?_
 refine CW.cond rfl (fun h1 => ?_) (fun h1 => ?_)
 have hii : i < a.length := by have := h1; simp at this; first | exact this | omega | (simp; done) | (simp; omega)
 obtain ⟨ei, hei⟩ : ∃ e, a[i]? = some e := ⟨_, List.getElem?_eq_getElem hii⟩
 have hdi := drop_get hei
 refine CW.g XK 40 [.p,.e [0,3],.n 1,.e [0,3,4],.p] rfl rfl rfl ?_
 refine CW.loopI 40 (fun (k : Nat) => [(0, .r (sl 6 Applied.c a)), (3, I (i : Int)), (4, I (k : Int))]) (fun (k : Nat) => k ≤ i ∧ ((a.take i).drop k).any (badApplied ei) = (a.take i).any (badApplied ei)) (fun (k : Nat) => i - k) 0 rfl (Le.c rfl <| Le.c rfl <| Le.c rfl <| Le.e) ⟨by omega, by simp⟩ ?_
 rintro k ⟨hc, hs⟩
 refine CW.g XK 40 [.n 1,.e [0,3,4,13]] rfl rfl rfl ?_
 refine CW.cond rfl (fun h2 => ?_) (fun h2 => ?_)
 have hik : k < (a.take i).length := by have := h2; simp at this; first | exact this | omega | (simp; done) | (simp; omega)
 obtain ⟨ek, hek⟩ : ∃ e, (a.take i)[k]? = some e := ⟨_, List.getElem?_eq_getElem hik⟩
 have hdk := drop_get hek
 have hkl : k < i := by first | exact hik | (simp at hik; omega)
 have hek2 : a[k]? = some ek := by rw [← hek]; exact (List.getElem?_take_of_lt hkl).symm
 refine CW.g XK 40 [.p,.e [0,3,4],.p,.p] rfl rfl rfl ?_
 refine CW.seqJ 40 (fun (v3 : Bool) => [(0, .r (sl 6 Applied.c a)), (3, I (i : Int)), (4, I (k : Int)), (39, Bo v3)]) (fun v3 => v3 = ((ei.index == ek.index) && (!eqEntry ei.entry ek.entry))) ?_ ?_
 refine CW.drawn (by kernel_rfl) ?_
 refine RQ.k XK 40 2 rfl ?_
 (conv=>whnf);refine ⟨rfl,?_⟩
 refine RQ.v rfl (V.indexS rfl rfl rfl rfl rfl rfl Applied.len hei) ?_
 refine RQ.k XK 40 4 rfl ?_
 (conv=>whnf);refine ⟨rfl,?_⟩
 refine RQ.v rfl (V.indexS rfl rfl rfl rfl rfl rfl Applied.len hek2) ?_
 refine RQ.k XK 40 4 rfl ?_
 (conv=>whnf);refine ⟨rfl,?_⟩
 refine RQ.gv rfl rfl rfl rfl (fun h4 => V.mv (d := .r (sl 6 Applied.c a)) rfl rfl) (fun h4 => ?_) (fun h4 => ?_)
 refine RQ.k XK 40 1 rfl ?_
 (conv=>whnf);refine ⟨rfl,?_⟩
 refine RQ.gt rfl rfl rfl rfl (V.indexS rfl rfl rfl rfl rfl rfl Applied.len hei) ?_
 refine RQ.k XK 40 4 rfl ?_
 (conv=>whnf);refine ⟨rfl,?_⟩
 refine RQ.gt rfl rfl rfl rfl (V.indexS rfl rfl rfl rfl rfl rfl Applied.len hek2) ?_
 refine RQ.k XK 40 2 rfl ?_
 (conv=>whnf);refine ⟨rfl,?_⟩
 refine RQ.gt rfl rfl rfl rfl (V.eqAgg (xs := Entry.vs ei.entry) (ys := Entry.vs ek.entry) rfl rfl rfl (by kernel_rfl) (eq67 ei.entry ek.entry) (.inr ⟨rfl, rfl⟩)) ?_
 refine RQ.k XK 40 1 rfl ?_
 (conv=>whnf);refine ⟨rfl,?_⟩
 refine RQ.nil ?_
 exact ⟨_, by first | rfl | (simp_all; done) | (simp_all; omega) | grind, rfl, Le.of rfl⟩
 refine RQ.k XK 40 11 rfl ?_
 (conv=>whnf);refine ⟨rfl,?_⟩
 refine RQ.nil ?_
 exact ⟨_, by first | rfl | (simp_all; done) | (simp_all; omega) | grind, rfl, Le.of rfl⟩
 intro v3 hv5
 refine CW.cond rfl (fun h6 => ?_) (fun h6 => ?_)
 refine CW.g XK 40 [.n 1,.e [2]] rfl rfl rfl ?_
 refine CW.ret ?_
 exact Post.one (RV.b rfl (by rw [← hr, hdi, pairs, ← hs, hdk, List.any_cons, show badApplied ei ek = true from by clear hr hs; first | (simp_all [badApplied]; done) | grind [badApplied]]; simp)) (AOs.r AOs.e)
 refine CW.g XK 40 [.p,.e [0,3,4],.o 1] rfl rfl rfl ?_
 refine RW.v rfl (V.inc rfl rfl rfl hkl (Nat.le_trans (Nat.le_of_lt hii) hl0)) ?_
 refine RW.g XK 40 [.o 1,.p] rfl rfl rfl ?_
 exact ⟨k + 1, by omega, ⟨by omega, by rw [← hs, hdk, List.any_cons, show badApplied ei ek = false from by clear hr hs; first | (simp_all [badApplied]; done) | grind [badApplied]]; simp⟩, rfl, Le.c rfl <| Le.c rfl <| Le.c rfl <| Le.e⟩
 have hik : (a.take i).length ≤ k := by have := h2; simp at this; first | exact this | omega | (simp; done) | (simp; omega)
 have hdk : (a.take i).drop k = [] := List.drop_eq_nil_of_le hik
 refine CW.exit ?_
 refine CW.g XK 40 [.e [0,3],.o 1] rfl rfl rfl ?_
 refine RW.v rfl (V.inc rfl rfl rfl hii hl0) ?_
 refine RW.g XK 40 [.o 1,.p] rfl rfl rfl ?_
 exact ⟨i + 1, by omega, ⟨by omega, by rw [← hr, hdi, pairs, ← hs, hdk, take_snoc hei]; simp⟩, rfl, Le.c rfl <| Le.c rfl <| Le.e⟩
 have hii : a.length ≤ i := by have := h1; simp at this; first | exact this | omega | (simp; done) | (simp; omega)
 have hdi : a.drop i = [] := List.drop_eq_nil_of_le hii
 refine CW.exit ?_
 refine CW.g XK 40 [.e [],.n 1,.e [2]] rfl rfl rfl ?_
 refine CW.ret ?_
 exact Post.one (RV.b rfl q29) (AOs.r AOs.e)
end Go.Proofs.YtdipdkfbaehglaaGreatDoor.Y
