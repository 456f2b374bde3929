import Derived.Test.YtdipdkfbaehglaaGreatDoorWSoundI
namespace Go.Proofs.YtdipdkfbaehglaaGreatDoor.Y
open Go Go.RowKit Go.Eng Go.Proofs
set_option maxRecDepth 10000
set_option maxHeartbeats 4000000 in
theorem laws_toAppliedS_fn (a : List Applied) (hm : a.length ≤ 1048576) (hs : ∀ x ∈ a, okToApplied x) : Eng.Fn E.P 33 [.one (.r (sl 6 Applied.c a))] (.one (.one (.w (sl 6 Applied.c a)))) [.one (.r (sl 6 Applied.c a))] := by
 refine Eng.Fn.intro (E := E) (rvs := [.tmp 2]) Tryz.func33 rfl rfl rfl (by simp [outSlots, moved, rvSlot, sl]) ?_
 intro B g bo
 refine CW.bound (x := .tmp 0) (n := a.length) (AsT.r) (fun hl0 => ?_)
 refine CW.g XK 23 [.e [0],.n 1,.e [0],.o 2] rfl rfl rfl ?_
 refine RW.makeS (n := a.length) (c := Applied.c) Applied.z rfl rfl rfl rfl rfl rfl rfl rfl (ZT.v (ZT.v (ZT.v (ZT.v (ZT.v (ZT.v ZT.e)))))) (by show 56 * a.length ≤ 281474976710656; omega) (by simp only [maxLen]; omega) fun X1 => ?_
 refine RW.assignMove rfl rfl rfl (by decide) (Nat.le_of_ble_eq_true rfl) (Nat.le_of_ble_eq_true rfl) ?_
 refine RW.g XK 23 [.p,.e [0,3],.n 1,.e [0,3,4],.p] rfl rfl rfl ?_
 refine CW.loopI 23 (fun (i : Nat) => [(0, .r (sl 6 Applied.c a)), (3, .w (sl 6 Applied.c (a.take i ++ List.replicate (a.length - i) Applied.z)) X1), (4, I (i : Int))]) (fun (i : Nat) => i ≤ a.length) (fun (i : Nat) => a.length - i) 0 rfl (Le.c rfl <| Le.c rfl <| Le.c rfl <| Le.e) (by omega) ?_
 rintro i hb
 refine CW.g XK 23 [.n 1,.e [0,3,4,11]] rfl rfl rfl ?_
 refine CW.cond rfl (fun h2 => ?_) (fun h2 => ?_)
 have hii : i < a.length := by have := h2; simp at this; first | exact this | omega | (simp; done) | (simp; omega)
 obtain ⟨ei, hei⟩ : ∃ e, a[i]? = some e := ⟨_, List.getElem?_eq_getElem hii⟩
 have hdi := drop_get hei
 refine CW.g XK 23 [.p,.e [0,3,4],.o 4] rfl rfl rfl ?_
 refine RW.v rfl (V.indexS rfl rfl rfl rfl rfl rfl Applied.len hei) ?_
 refine RW.g XK 23 [.o 1] rfl rfl rfl ?_
 refine RW.call rfl (laws_toApplied_fn ei (hs ei (List.mem_of_getElem? hei))) rfl (.cons (.agg (.cons (.r .r) (.cons (.r .r) (.cons (.r .r) (.cons (.r .r) (.cons (.r .r) (.cons (.r .r) (.nil)))))))) (.nil)) fun g3 => ?_
 refine RW.v rfl (V.indexW rfl rfl rfl rfl rfl rfl rfl (by simp; omega)) ?_
 refine RW.storeS (v := ei) rfl rfl rfl rfl rfl rfl rfl (DW.v (DW.v (DW.v (DW.v (DW.v (DW.v DW.e)))))) Applied.len (by decide) (by simp; omega) rfl ?_
 refine RW.g XK 23 [.p,.e [0,3,4],.o 1] rfl rfl rfl ?_
 refine RW.v rfl (V.inc rfl rfl rfl hii hl0) ?_
 refine RW.g XK 23 [.o 1,.p] rfl rfl rfl ?_
 exact ⟨i + 1, by omega, by omega, rfl, Le.c rfl <| Le.c (congrArg (fun l => D.w (sl _ Applied.c l) X1) (take_set hei)) <| Le.c rfl <| Le.e⟩
 have hii : a.length ≤ i := by have := h2; simp at this; first | exact this | omega | (simp; done) | (simp; omega)
 have hdi : a.drop i = [] := List.drop_eq_nil_of_le hii
 refine CW.exit ?_
 refine CW.g XK 23 [.e [3],.o 2] rfl rfl rfl ?_
 refine RW.pullS 2 3 (by decide) rfl rfl ?_
 refine RW.g XK 23 [.p,.e [2]] rfl rfl rfl ?_
 refine CW.ret ?_
 exact Post.one (RV.w rfl q14) (AOs.r AOs.e)
set_option maxHeartbeats 4000000 in
theorem laws_toCommand_fn (a : Command) (hs : okToCommand a) : Eng.Fn E.P 116 [.agg ((Command.c a).map .r)] (.one (.agg ((Command.c a).map .w))) [.agg ((Command.c a).map .r)] := by
 refine Eng.Fn.intro (E := E) (rvs := [.cell 2 63]) Tryz.func116 rfl rfl rfl (by simp [outSlots, moved, rvSlot, sl]) ?_
 intro B g bo
 refine CW.h XK 23 [.e [0],.o 1] rfl ?_;(conv=>whnf);intro b1;(conv=>whnf);refine ⟨rfl,?_⟩
 refine RW.freezeB (ts := (Command.c a)) 1 rfl (DRd.r (DRd.r (DRd.r (DRd.r (DRd.r (DRd.r DRd.e)))))) ?_
 refine RW.h XK 23 [.o 1,.p,.e [1,2],.n 8,.e [2]] rfl ?_;(conv=>whnf);intro b2;(conv=>whnf);intro b3;(conv=>whnf);refine ⟨rfl,?_⟩
 refine CW.ret ?_
 exact Post.one (RV.c (f := fun e => (Command.c e).map .w) (e' := a) rfl rfl rfl rfl (DT.v (DT.v (DT.v (DT.v (DT.v (DT.v DT.e)))))) (by simp_all)) (AOs.a rfl AOs.e)
set_option maxHeartbeats 4000000 in
theorem laws_toReply_fn (a : Reply) (hs : okToReply a) : Eng.Fn E.P 77 [.agg ((Reply.c a).map .r)] (.one (.agg ((Reply.c a).map .w))) [.agg ((Reply.c a).map .r)] := by
 refine Eng.Fn.intro (E := E) (rvs := [.cell 2 173]) Tryz.func77 rfl rfl rfl (by simp [outSlots, moved, rvSlot, sl]) ?_
 intro B g bo
 refine CW.h XK 21 [.e [0],.o 1] rfl ?_;(conv=>whnf);intro b1;(conv=>whnf);refine ⟨rfl,?_⟩
 refine RW.freezeB (ts := (Reply.c a)) 1 rfl (DRd.r (DRd.r (DRd.r (DRd.r (DRd.r (DRd.r (DRd.r (DRd.r (DRd.r (DRd.r DRd.e)))))))))) ?_
 refine RW.h XK 21 [.o 1,.p,.e [1,2],.n 4,.e [1,2,3],.o 2] rfl ?_;(conv=>whnf);intro b2;(conv=>whnf);intro b3;(conv=>whnf);refine ⟨rfl,?_⟩
 refine RW.call rfl (laws_toCommand_fn a.command hs.1) rfl (.cons (.agg (.cons (.r .r) (.cons (.r .r) (.cons (.r .r) (.cons (.r .r) (.cons (.r .r) (.cons (.r .r) (.nil)))))))) (.nil)) fun g4 => ?_
 refine RW.g XK 21 [.o 2,.p,.e [1,2,3],.n 2,.e [2]] rfl rfl rfl ?_
 refine CW.ret ?_
 exact Post.one (RV.c (f := fun e => (Reply.c e).map .w) (e' := a) rfl rfl rfl rfl (DT.v (DT.v (DT.v (DT.v (DT.v (DT.v (DT.v (DT.v (DT.v (DT.v DT.e)))))))))) (by simp_all)) (AOs.a rfl AOs.e)
set_option maxHeartbeats 4000000 in
theorem laws_toReplyS_fn (a : List Reply) (hm : a.length ≤ 1048576) (hs : ∀ x ∈ a, okToReply x) : Eng.Fn E.P 34 [.one (.r (sl 10 Reply.c a))] (.one (.one (.w (sl 10 Reply.c a)))) [.one (.r (sl 10 Reply.c a))] := by
 refine Eng.Fn.intro (E := E) (rvs := [.tmp 2]) Tryz.func34 rfl rfl rfl (by simp [outSlots, moved, rvSlot, sl]) ?_
 intro B g bo
 refine CW.bound (x := .tmp 0) (n := a.length) (AsT.r) (fun hl0 => ?_)
 refine CW.g XK 23 [.e [0],.n 1,.e [0],.o 2] rfl rfl rfl ?_
 refine RW.makeS (n := a.length) (c := Reply.c) Reply.z rfl rfl rfl rfl rfl rfl rfl rfl (ZT.v (ZT.v (ZT.v (ZT.v (ZT.v (ZT.v (ZT.v (ZT.v (ZT.v (ZT.v ZT.e)))))))))) (by show 104 * a.length ≤ 281474976710656; omega) (by simp only [maxLen]; omega) fun X1 => ?_
 refine RW.assignMove rfl rfl rfl (by decide) (Nat.le_of_ble_eq_true rfl) (Nat.le_of_ble_eq_true rfl) ?_
 refine RW.g XK 23 [.p,.e [0,3],.n 1,.e [0,3,4],.p] rfl rfl rfl ?_
 refine CW.loopI 23 (fun (i : Nat) => [(0, .r (sl 10 Reply.c a)), (3, .w (sl 10 Reply.c (a.take i ++ List.replicate (a.length - i) Reply.z)) X1), (4, I (i : Int))]) (fun (i : Nat) => i ≤ a.length) (fun (i : Nat) => a.length - i) 0 rfl (Le.c rfl <| Le.c rfl <| Le.c rfl <| Le.e) (by omega) ?_
 rintro i hb
 refine CW.g XK 23 [.n 1,.e [0,3,4,11]] rfl rfl rfl ?_
 refine CW.cond rfl (fun h2 => ?_) (fun h2 => ?_)
 have hii : i < a.length := by have := h2; simp at this; first | exact this | omega | (simp; done) | (simp; omega)
 obtain ⟨ei, hei⟩ : ∃ e, a[i]? = some e := ⟨_, List.getElem?_eq_getElem hii⟩
 have hdi := drop_get hei
 refine CW.g XK 23 [.p,.e [0,3,4],.o 4] rfl rfl rfl ?_
 refine RW.v rfl (V.indexS rfl rfl rfl rfl rfl rfl Reply.len hei) ?_
 refine RW.g XK 23 [.o 1] rfl rfl rfl ?_
 refine RW.call rfl (laws_toReply_fn ei (hs ei (List.mem_of_getElem? hei))) rfl (.cons (.agg (.cons (.r .r) (.cons (.r .r) (.cons (.r .r) (.cons (.r .r) (.cons (.r .r) (.cons (.r .r) (.cons (.r .r) (.cons (.r .r) (.cons (.r .r) (.cons (.r .r) (.nil)))))))))))) (.nil)) fun g3 => ?_
 refine RW.v rfl (V.indexW rfl rfl rfl rfl rfl rfl rfl (by simp; omega)) ?_
 refine RW.storeS (v := ei) rfl rfl rfl rfl rfl rfl rfl (DW.v (DW.v (DW.v (DW.v (DW.v (DW.v (DW.v (DW.v (DW.v (DW.v DW.e)))))))))) Reply.len (by decide) (by simp; omega) rfl ?_
 refine RW.g XK 23 [.p,.e [0,3,4],.o 1] rfl rfl rfl ?_
 refine RW.v rfl (V.inc rfl rfl rfl hii hl0) ?_
 refine RW.g XK 23 [.o 1,.p] rfl rfl rfl ?_
 exact ⟨i + 1, by omega, by omega, rfl, Le.c rfl <| Le.c (congrArg (fun l => D.w (sl _ Reply.c l) X1) (take_set hei)) <| Le.c rfl <| Le.e⟩
 have hii : a.length ≤ i := by have := h2; simp at this; first | exact this | omega | (simp; done) | (simp; omega)
 have hdi : a.drop i = [] := List.drop_eq_nil_of_le hii
 refine CW.exit ?_
 refine CW.g XK 23 [.e [3],.o 2] rfl rfl rfl ?_
 refine RW.pullS 2 3 (by decide) rfl rfl ?_
 refine RW.g XK 23 [.p,.e [2]] rfl rfl rfl ?_
 refine CW.ret ?_
 exact Post.one (RV.w rfl q14) (AOs.r AOs.e)
set_option maxHeartbeats 4000000 in
theorem laws_toWorld_fn (a : World) (hs : okToWorld a) : Eng.Fn E.P 8 [.agg ((World.c a).map .r)] (.one (.agg ((World.c a).map .w))) [.agg ((World.c a).map .r)] := by
 refine Eng.Fn.intro (E := E) (rvs := [.cell 2 40]) Tryz.func8 rfl rfl rfl (by simp [outSlots, moved, rvSlot, sl]) ?_
 intro B g bo
 refine CW.h XK 33 [.e [0],.o 1] rfl ?_;(conv=>whnf);intro b1;(conv=>whnf);refine ⟨rfl,?_⟩
 refine RW.freezeB (ts := (World.c a)) 1 rfl (DRd.r (DRd.r (DRd.r (DRd.r (DRd.r (DRd.r (DRd.r DRd.e))))))) ?_
 refine RW.h XK 33 [.o 1,.p,.e [1,2],.n 1,.e [1,2,3],.o 2] rfl ?_;(conv=>whnf);intro b2;(conv=>whnf);intro b3;(conv=>whnf);refine ⟨rfl,?_⟩
 refine RW.call rfl (laws_toBoolS_fn a.up hs.1.1) rfl (.cons (.one (.r .r)) (.nil)) fun g4 => ?_
 refine RW.g XK 33 [.o 2,.e [1,2,3,6]] rfl rfl rfl ?_
 refine RW.pullT (k := 3) (l := 6) (j := 0) 3 6 0 rfl rfl rfl (by decide) rfl rfl rfl ?_
 refine RW.g XK 33 [.e [1,2,3],.p,.e [1,2,3],.o 2] rfl rfl rfl ?_
 refine RW.call rfl (laws_toServerS_fn a.servers hs.2.1.1 hs.2.1.2) rfl (.cons (.one (.r .r)) (.nil)) fun g5 => ?_
 refine RW.g XK 33 [.o 2,.e [1,2,3,10]] rfl rfl rfl ?_
 refine RW.pullT (k := 3) (l := 10) (j := 1) 3 10 1 rfl rfl rfl (by decide) rfl rfl rfl ?_
 refine RW.g XK 33 [.e [1,2,3],.p,.e [1,2,3],.o 2] rfl rfl rfl ?_
 refine RW.call rfl (laws_toMessageS_fn a.net hs.2.2.1.1 hs.2.2.1.2) rfl (.cons (.one (.r .r)) (.nil)) fun g6 => ?_
 refine RW.g XK 33 [.o 2,.e [1,2,3,14]] rfl rfl rfl ?_
 refine RW.pullT (k := 3) (l := 14) (j := 2) 3 14 2 rfl rfl rfl (by decide) rfl rfl rfl ?_
 refine RW.g XK 33 [.e [1,2,3],.p,.e [1,2,3],.o 2] rfl rfl rfl ?_
 refine RW.call rfl (laws_toWaitS_fn a.waits hs.2.2.2.1.1) rfl (.cons (.one (.r .r)) (.nil)) fun g7 => ?_
 refine RW.g XK 33 [.o 2,.e [1,2,3,18]] rfl rfl rfl ?_
 refine RW.pullT (k := 3) (l := 18) (j := 3) 3 18 3 rfl rfl rfl (by decide) rfl rfl rfl ?_
 refine RW.g XK 33 [.e [1,2,3],.p,.e [1,2,3],.o 2] rfl rfl rfl ?_
 refine RW.call rfl (laws_toLeaderS_fn a.leaders hs.2.2.2.2.1.1 hs.2.2.2.2.1.2) rfl (.cons (.one (.r .r)) (.nil)) fun g8 => ?_
 refine RW.g XK 33 [.o 2,.e [1,2,3,22]] rfl rfl rfl ?_
 refine RW.pullT (k := 3) (l := 22) (j := 4) 3 22 4 rfl rfl rfl (by decide) rfl rfl rfl ?_
 refine RW.g XK 33 [.e [1,2,3],.p,.e [1,2,3],.o 2] rfl rfl rfl ?_
 refine RW.call rfl (laws_toAppliedS_fn a.applied hs.2.2.2.2.2.1.1 hs.2.2.2.2.2.1.2) rfl (.cons (.one (.r .r)) (.nil)) fun g9 => ?_
 refine RW.g XK 33 [.o 2,.e [1,2,3,26]] rfl rfl rfl ?_
 refine RW.pullT (k := 3) (l := 26) (j := 5) 3 26 5 rfl rfl rfl (by decide) rfl rfl rfl ?_
 refine RW.g XK 33 [.e [1,2,3],.p,.e [1,2,3],.o 2] rfl rfl rfl ?_
 refine RW.call rfl (laws_toReplyS_fn a.replies hs.2.2.2.2.2.2.1 hs.2.2.2.2.2.2.2) rfl (.cons (.one (.r .r)) (.nil)) fun g10 => ?_
 refine RW.g XK 33 [.o 2,.e [2,3,30]] rfl rfl rfl ?_
 refine RW.pullT (k := 3) (l := 30) (j := 6) 3 30 6 rfl rfl rfl (by decide) rfl rfl rfl ?_
 refine RW.g XK 33 [.e [2,3],.p,.e [2,3],.o 2,.e [2,3]] rfl rfl rfl ?_
 refine RW.pullO (k := 2) (l := 3) (j := 0) 2 3 0 rfl rfl rfl (by decide) rfl rfl rfl rfl ?_
 refine RW.g XK 33 [.e [2,3]] rfl rfl rfl ?_
 refine RW.pullO (k := 2) (l := 3) (j := 1) 2 3 1 rfl rfl rfl (by decide) rfl rfl rfl rfl ?_
 refine RW.g XK 33 [.e [2,3]] rfl rfl rfl ?_
 refine RW.pullO (k := 2) (l := 3) (j := 2) 2 3 2 rfl rfl rfl (by decide) rfl rfl rfl rfl ?_
 refine RW.g XK 33 [.e [2,3]] rfl rfl rfl ?_
 refine RW.pullO (k := 2) (l := 3) (j := 3) 2 3 3 rfl rfl rfl (by decide) rfl rfl rfl rfl ?_
 refine RW.g XK 33 [.e [2,3]] rfl rfl rfl ?_
 refine RW.pullO (k := 2) (l := 3) (j := 4) 2 3 4 rfl rfl rfl (by decide) rfl rfl rfl rfl ?_
 refine RW.g XK 33 [.e [2,3]] rfl rfl rfl ?_
 refine RW.pullO (k := 2) (l := 3) (j := 5) 2 3 5 rfl rfl rfl (by decide) rfl rfl rfl rfl ?_
 refine RW.g XK 33 [.e [2,3]] rfl rfl rfl ?_
 refine RW.pullO (k := 2) (l := 3) (j := 6) 2 3 6 rfl rfl rfl (by decide) rfl rfl rfl rfl ?_
 refine RW.g XK 33 [.e [2],.p,.e [2]] rfl rfl rfl ?_
 refine CW.ret ?_
 exact Post.one (RV.c (f := fun e => (World.c e).map .w) (e' := a) rfl rfl rfl rfl (DT.w (DT.w (DT.w (DT.w (DT.w (DT.w (DT.w DT.e))))))) (by simp_all)) (AOs.a rfl AOs.e)
set_option maxHeartbeats 4000000 in
theorem impl_SameApplied_fn (a : List Applied) : Eng.Fn E.P 56 [.one (.r (sl 6 Applied.c a))] (.one (.one (.w (.v (.bool (pairs badApplied [] a)))))) [.one (.r (sl 6 Applied.c a))] := by
 refine Eng.Fn.intro (E := E) (rvs := [.tmp 2]) Tryz.func56 rfl rfl rfl (by simp [outSlots, moved, rvSlot, sl]) ?_
 intro B g bo
 refine CW.bound (x := .tmp 0) (n := a.length) (AsT.r) (fun hl0 => ?_)
 refine CW.g XK 36 [.e [0],.n 1,.e [0],.n 1,.e [0,7,8,9],.p] rfl rfl rfl ?_
 refine CW.loopI 36 (fun (i : Nat) => [(0, .r (sl 6 Applied.c a)), (7, .r (sl 6 Applied.c a)), (8, I (a.length : Int)), (9, I (i : Int))]) (fun (i : Nat) => i ≤ a.length ∧ pairs badApplied (a.take i) (a.drop i) = pairs badApplied [] a) (fun (i : Nat) => a.length - i) 0 rfl (Le.c rfl <| Le.c rfl <| Le.c rfl <| Le.c rfl <| Le.e) ⟨by omega, by simp⟩ ?_
 rintro i ⟨hb, hr⟩
 refine CW.g XK 36 [.n 1,.e [0,7,8,9,10],.p] rfl rfl rfl ?_
 refine CW.cond rfl (fun h1 => ?_) (fun h1 => ?_)
 have hii : i < a.length := by have := h1; simp at this; first | exact this | omega | (simp; done) | (simp; omega)
 obtain ⟨ei, hei⟩ : ∃ e, a[i]? = some e := ⟨_, List.getElem?_eq_getElem hii⟩
 have hdi := drop_get hei
 refine CW.g XK 36 [.p,.e [0,7,8,9],.o 1] rfl rfl rfl ?_
 refine RW.v rfl (V.indexS rfl rfl rfl rfl rfl rfl Applied.len hei) ?_
 refine RW.h XK 36 [.o 4] rfl ?_;(conv=>whnf);intro b2;(conv=>whnf);refine ⟨rfl,?_⟩
 refine RW.freezeB (ts := (Applied.c ei)) 4 rfl (DRd.r (DRd.r (DRd.r (DRd.r (DRd.r (DRd.r DRd.e)))))) ?_
 refine RW.g XK 36 [.p,.e [0,3,4,7,8,9],.o 2] rfl rfl rfl ?_
 refine RW.v rfl (V.takeS (m := i) rfl rfl rfl rfl rfl rfl Applied.len (Nat.le_of_lt hii)) ?_
 refine RW.g XK 36 [.o 2,.p,.e [0,4,7,8,9,16,17,18],.p] rfl rfl rfl ?_
 refine CW.loopI 36 (fun (k : Nat) => [(0, .r (sl 6 Applied.c a)), (4, .rp (Applied.c ei)), (7, .r (sl 6 Applied.c a)), (8, I (a.length : Int)), (9, I (i : Int)), (16, .r (sl 6 Applied.c (a.take i))), (17, I ((a.take i).length : Int)), (18, I (k : Int))]) (fun (k : Nat) => k ≤ i ∧ ((a.take i).drop k).any (badApplied ei) = (a.take i).any (badApplied ei)) (fun (k : Nat) => i - k) 0 rfl (Le.c rfl <| Le.c rfl <| Le.c rfl <| Le.c rfl <| Le.c rfl <| Le.c rfl <| Le.c rfl <| Le.c rfl <| Le.e) ⟨by omega, by simp⟩ ?_
 rintro k ⟨hc, hs⟩
 refine CW.g XK 36 [.n 1,.e [0,4,7,8,9,16,17,18,19],.p] rfl rfl rfl ?_
 refine CW.cond rfl (fun h3 => ?_) (fun h3 => ?_)
 have hik : k < (a.take i).length := by have := h3; simp at this; first | exact this | omega | (simp; done) | (simp; omega)
 obtain ⟨ek, hek⟩ : ∃ e, (a.take i)[k]? = some e := ⟨_, List.getElem?_eq_getElem hik⟩
 have hdk := drop_get hek
 have hkl : k < i := by first | exact hik | (simp at hik; omega)
 refine CW.g XK 36 [.p,.e [0,4,7,8,9,16,17,18],.p,.p,.p,.p] rfl rfl rfl ?_
 refine RW.v rfl (V.indexS rfl rfl rfl rfl rfl rfl Applied.len hek) ?_
 refine RW.h XK 36 [.o 3] rfl ?_;(conv=>whnf);intro b4;(conv=>whnf);refine ⟨rfl,?_⟩
 refine RW.freezeB (ts := (Applied.c ek)) 6 rfl (DRd.r (DRd.r (DRd.r (DRd.r (DRd.r (DRd.r DRd.e)))))) ?_
 refine RW.g XK 36 [.p,.e [0,4,6,7,8,9,16,17,18]] rfl rfl rfl ?_
 refine CW.seqJ 36 (fun (v5 : Bool) => [(0, .r (sl 6 Applied.c a)), (4, .rp (Applied.c ei)), (7, .r (sl 6 Applied.c a)), (8, I (a.length : Int)), (9, I (i : Int)), (16, .r (sl 6 Applied.c (a.take i))), (17, I ((a.take i).length : Int)), (18, I (k : Int)), (33, Bo v5)]) (fun v5 => v5 = ((ei.index == ek.index) && (!eqEntry ei.entry ek.entry))) ?_ ?_
 refine CW.g XK 36 [.o 6] rfl rfl rfl ?_
 refine RW.gv rfl rfl rfl rfl (fun h6 => V.fieldR rfl rfl rfl rfl (by decide) rfl (Nat.le_of_ble_eq_true rfl)) (fun h6 => ?_) (fun h6 => ?_)
 refine RW.g XK 36 [.o 3] rfl rfl rfl ?_
 refine RW.gt rfl rfl rfl rfl (V.eqAgg (xs := Entry.vs ei.entry) (ys := Entry.vs ek.entry) rfl rfl rfl (by kernel_rfl) (eq67 ei.entry ek.entry) (.inr ⟨rfl, rfl⟩)) ?_
 refine RW.g XK 36 [.o 1,.p] rfl rfl rfl ?_
 exact ⟨_, by first | rfl | (simp_all; done) | (simp_all; omega) | grind, rfl, Le.of rfl⟩
 refine RW.g XK 36 [.o 5,.p] rfl rfl rfl ?_
 exact ⟨_, by first | rfl | (simp_all; done) | (simp_all; omega) | grind, rfl, Le.of rfl⟩
 intro v5 hv7
 refine CW.cond rfl (fun h8 => ?_) (fun h8 => ?_)
 refine CW.g XK 36 [.n 1,.e [2]] rfl rfl rfl ?_
 refine CW.ret ?_
 exact Post.one (RV.b rfl (by rw [← hr, hdi, pairs, ← hs, hdk, List.any_cons, show badApplied ei ek = true from by clear hr hs; first | (simp_all [badApplied]; done) | grind [badApplied]]; simp)) (AOs.r AOs.e)
 refine CW.g XK 36 [.p,.e [0,4,7,8,9,16,17,18],.p] rfl rfl rfl ?_
 refine RW.v rfl (V.inc rfl rfl rfl hkl (Nat.le_trans (Nat.le_of_lt hii) hl0)) ?_
 refine RW.g XK 36 [.o 1,.p] rfl rfl rfl ?_
 exact ⟨k + 1, by omega, ⟨by omega, by rw [← hs, hdk, List.any_cons, show badApplied ei ek = false from by clear hr hs; first | (simp_all [badApplied]; done) | grind [badApplied]]; simp⟩, rfl, Le.c rfl <| Le.c rfl <| Le.c rfl <| Le.c rfl <| Le.c rfl <| Le.c rfl <| Le.c rfl <| Le.c rfl <| Le.e⟩
 have hik : (a.take i).length ≤ k := by have := h3; simp at this; first | exact this | omega | (simp; done) | (simp; omega)
 have hdk : (a.take i).drop k = [] := List.drop_eq_nil_of_le hik
 refine CW.exit ?_
 refine CW.g XK 36 [.e [0,7,8,9],.p] rfl rfl rfl ?_
 refine RW.v rfl (V.inc rfl rfl rfl hii hl0) ?_
 refine RW.g XK 36 [.o 1,.p] rfl rfl rfl ?_
 exact ⟨i + 1, by omega, ⟨by omega, by rw [← hr, hdi, pairs, ← hs, hdk, take_snoc hei]; simp⟩, rfl, Le.c rfl <| Le.c rfl <| Le.c rfl <| Le.c rfl <| Le.e⟩
 have hii : a.length ≤ i := by have := h1; simp at this; first | exact this | omega | (simp; done) | (simp; omega)
 have hdi : a.drop i = [] := List.drop_eq_nil_of_le hii
 refine CW.exit ?_
 refine CW.g XK 36 [.e [],.n 1,.e [2]] rfl rfl rfl ?_
 refine CW.ret ?_
 exact Post.one (RV.b rfl q29) (AOs.r AOs.e)
set_option maxHeartbeats 4000000 in
theorem impl_Entries_fn (a : List Applied) (hm : a.length ≤ 1048576) : Eng.Fn E.P 35 [.one (.r (sl 6 Applied.c a))] (.tup [.one (.r (sl 3 Entry.c (ents a))), .one (.w (.v (.bool (pairs badApplied [] a))))]) [.one (.r (sl 6 Applied.c a))] := by
 refine Eng.Fn.intro (E := E) (rvs := [.tmp 2, .tmp 3]) Tryz.func35 rfl rfl rfl (by simp [outSlots, moved, rvSlot, sl]) ?_
 intro B g bo
 refine CW.bound (x := .tmp 0) (n := a.length) (AsT.r) (fun hl0 => ?_)
 refine CW.g XK 32 [.e [0],.n 1,.e [0],.o 1] rfl rfl rfl ?_
 refine RW.call rfl (impl_SameApplied_fn a) rfl (.cons (.one (.r .r)) (.nil)) fun g1 => ?_
 refine RW.g XK 32 [.o 1,.p,.e [0,10]] rfl rfl rfl ?_
 refine CW.cond rfl (fun h2 => ?_) (fun h2 => ?_)
 refine CW.g XK 32 [.n 1,.e [2,3]] rfl rfl rfl ?_
 refine CW.ret ?_
 exact Post.tup (by decide) (RVs.c (RV.nr rfl (by exact (ents_no (by simpa using h2)).symm)) (RVs.c (RV.b rfl (by simp_all)) RVs.e)) (AOs.r AOs.e)
 refine CW.g XK 32 [.p,.e [0],.p,.p] rfl rfl rfl ?_
 refine RW.build0 Entry.c rfl rfl rfl rfl rfl fun X3 => ?_
 refine RW.assignMove rfl rfl rfl (by decide) (Nat.le_of_ble_eq_true rfl) (Nat.le_of_ble_eq_true rfl) ?_
 refine RW.g XK 32 [.p,.e [0,4],.n 1,.e [0,4,5],.p] rfl rfl rfl ?_
 refine CW.loopI 32 (fun (zz : Bool × List Entry × Value) => match zz with | (f, out, X) => [(0, .r (sl 6 Applied.c a)), (4, .w (sl 3 Entry.c out) X), (5, Bo f)]) (fun (zz : Bool × List Entry × Value) => match zz with | (f, out, X) => GoodE a out ∧ (f = false → FinE a out)) (fun (zz : Bool × List Entry × Value) => match zz with | (f, out, X) => 2 * (a.length - out.length) + (if f = true then 1 else 0)) (true, [], _) rfl (Le.c rfl <| Le.c rfl <| Le.c rfl <| Le.e) ⟨good_nil a, by simp⟩ ?_
 rintro ⟨f, out, X⟩ ⟨hg, hfin⟩
 have hol := good_len hg
 refine CW.g XK 32 [.n 1,.e [0,4,12]] rfl rfl rfl ?_
 refine CW.cond rfl (fun h4 => ?_) (fun h4 => ?_)
 refine CW.g XK 32 [.p,.e [0,4],.n 2,.e [0,4,5,13,14,15],.p] rfl rfl rfl ?_
 refine CW.loopI 32 (fun (zz : Nat × Bool × List Entry × Value) => match zz with | (k, f2, out2, X2) => [(0, .r (sl 6 Applied.c a)), (4, .w (sl 3 Entry.c out2) X2), (5, Bo f2), (13, .r (sl 6 Applied.c a)), (14, I (a.length : Int)), (15, I (k : Int))]) (fun (zz : Nat × Bool × List Entry × Value) => match zz with | (k, f2, out2, X2) => EntP a out k f2 out2) (fun (zz : Nat × Bool × List Entry × Value) => match zz with | (k, f2, out2, X2) => a.length - k) (0, false, _, _) rfl (Le.c rfl <| Le.c rfl <| Le.c rfl <| Le.c rfl <| Le.c rfl <| Le.c rfl <| Le.e) (EntP.init hg) ?_
 rintro ⟨k, f2, out2, X2⟩ hP
 have hb := hP.1
 refine CW.g XK 32 [.n 1,.e [0,4,5,13,14,15,16],.p] rfl rfl rfl ?_
 refine CW.cond rfl (fun h5 => ?_) (fun h5 => ?_)
 have hik : k < a.length := by have := h5; simp at this; first | exact this | omega | (simp; done) | (simp; omega)
 obtain ⟨ek, hek⟩ : ∃ e, a[k]? = some e := ⟨_, List.getElem?_eq_getElem hik⟩
 have hdk := drop_get hek
 refine CW.g XK 32 [.p,.e [0,4,5,13,14,15],.p,.p,.p,.p] rfl rfl rfl ?_
 refine RW.v rfl (V.indexS rfl rfl rfl rfl rfl rfl Applied.len hek) ?_
 refine RW.h XK 32 [.o 3] rfl ?_;(conv=>whnf);intro b6;(conv=>whnf);refine ⟨rfl,?_⟩
 refine RW.freezeB (ts := (Applied.c ek)) 7 rfl (DRd.r (DRd.r (DRd.r (DRd.r (DRd.r (DRd.r DRd.e)))))) ?_
 refine RW.g XK 32 [.p,.e [0,4,5,7,13,14,15],.n 1,.e [0,4,5,7,13,14,15,24]] rfl rfl rfl ?_
 refine CW.cond rfl (fun h7 => ?_) (fun h7 => ?_)
 refine CW.g XK 32 [.o 3] rfl rfl rfl ?_
 refine RW.build1 (c := Entry.c) (v := ek.entry) rfl rfl rfl rfl rfl rfl (DW.v (DW.v (DW.v DW.e))) Entry.len (by decide) (by decide) fun X8 => ?_
 refine RW.appendSR (c := Entry.c) (l1 := out2) (l2 := [ek.entry]) rfl rfl rfl rfl rfl rfl rfl rfl (.al (k := none) (i := 28) (sz := 3) (V := X8) rfl rfl nofun) (by decide) (Nat.le_of_ble_eq_true rfl) Entry.len (fun _ => rfl) rfl q31 q31 fun X9 => ?_
 refine RW.assignMove rfl rfl rfl (by decide) (Nat.le_of_ble_eq_true rfl) (Nat.le_of_ble_eq_true rfl) ?_
 refine RW.g XK 32 [.p,.e [0,4,13,14,15],.o 1,.p,.e [0,4,5,13,14,15],.p] rfl rfl rfl ?_
 refine RW.v rfl (V.inc rfl rfl rfl hik hl0) ?_
 refine RW.g XK 32 [.o 1,.p] rfl rfl rfl ?_
 exact ⟨(k + 1, true, (out2 ++ ([ek.entry])), _), by simp only []; omega, (by first | exact hP.yes hm hek h7 | exact hP.no hm hek h7), rfl, Le.c rfl <| Le.c rfl <| Le.c rfl <| Le.c rfl <| Le.c rfl <| Le.c rfl <| Le.e⟩
 refine CW.g XK 32 [.p,.e [0,4,5,13,14,15],.p] rfl rfl rfl ?_
 refine RW.v rfl (V.inc rfl rfl rfl hik hl0) ?_
 refine RW.g XK 32 [.o 1,.p] rfl rfl rfl ?_
 exact ⟨(k + 1, f2, out2, _), by simp only []; omega, (by first | exact hP.yes hm hek h7 | exact hP.no hm hek h7), rfl, Le.c rfl <| Le.c rfl <| Le.c rfl <| Le.c rfl <| Le.c rfl <| Le.c rfl <| Le.e⟩
 have hik : a.length ≤ k := by have := h5; simp at this; first | exact this | omega | (simp; done) | (simp; omega)
 have hdk : a.drop k = [] := List.drop_eq_nil_of_le hik
 refine CW.exit ?_
 exact ⟨(f2, out2, _), hP.dec hol h4, ⟨hP.2.1, hP.fin hik⟩, rfl, Le.c rfl <| Le.c rfl <| Le.c rfl <| Le.e⟩
 refine CW.exit ?_
 refine CW.g XK 32 [.e [4],.o 2] rfl rfl rfl ?_
 refine RW.pullS 2 4 (by decide) rfl rfl ?_
 refine RW.g XK 32 [.o 1,.p,.e [2,3]] rfl rfl rfl ?_
 refine CW.freeze 2 (d' := .r (sl 3 Entry.c out)) rfl rfl ?_
 refine CW.ret ?_
 exact Post.tup (by decide) (RVs.c (RV.r rfl (by exact ents_eq (by simpa using h2) hg (hfin h4))) (RVs.c (RV.b rfl (by simp_all)) RVs.e)) (AOs.r AOs.e)
set_option maxHeartbeats 4000000 in
theorem impl_KeepNew_fn  : Eng.Fn E.P 36 [] (.one (.agg ((Keep.c keepNew).map .w))) [] := by
 refine Eng.Fn.intro (E := E) (rvs := [.cell 0 59]) Tryz.func36 rfl rfl rfl (by simp [outSlots, moved, rvSlot, sl]) ?_
 intro B g bo
 refine CW.h XK 4 [.e [],.n 1,.e [0],.o 1] rfl ?_;(conv=>whnf);intro b1;(conv=>whnf);refine ⟨rfl,?_⟩
 refine RW.build1 (c := Item.c) (v := (⟨(⟨#[114, 111, 111, 116]⟩ : ByteArray), ⟨#[]⟩, 1⟩ : Item)) rfl rfl rfl rfl rfl rfl (DW.v (DW.v (DW.v DW.e))) Item.len (by decide) (by decide) fun X2 => ?_
 refine RW.g XK 4 [.o 2,.e [0,2]] rfl rfl rfl ?_
 refine RW.pullT (k := 0) (l := 2) (j := 1) 0 2 1 rfl rfl rfl (by decide) rfl rfl rfl ?_
 refine RW.g XK 4 [.e [0],.p,.e [0]] rfl rfl rfl ?_
 refine CW.ret ?_
 exact Post.one (RV.c (f := fun e => (Keep.c e).map .w) (e' := (⟨[], [(⟨(⟨#[114, 111, 111, 116]⟩ : ByteArray), ⟨#[]⟩, 1⟩ : Item)]⟩ : Keep)) rfl rfl rfl rfl (DT.n (DT.w DT.e)) (by rfl)) AOs.e
set_option maxHeartbeats 4000000 in
theorem impl_copyKeep_fn (k : Keep) (hok : okToKeep k) : Eng.Fn E.P 78 [.agg ((Keep.c k).map .r)] (.one (.agg ((Keep.c k).map .w))) [.agg ((Keep.c k).map .r)] := by
 refine Eng.Fn.intro (E := E) (rvs := [.cell 2 59]) Tryz.func78 rfl rfl rfl (by simp [outSlots, moved, rvSlot, sl]) ?_
 intro B g bo
 refine CW.h XK 12 [.e [0],.o 1] rfl ?_;(conv=>whnf);intro b1;(conv=>whnf);refine ⟨rfl,?_⟩
 refine RW.freezeB (ts := (Keep.c k)) 1 rfl (DRd.r (DRd.r DRd.e)) ?_
 refine RW.h XK 12 [.o 1,.p,.e [1,2]] rfl ?_;(conv=>whnf);intro b2;(conv=>whnf);refine ⟨rfl,?_⟩
 refine CW.anyJ2 (fc := []) (L0 := []) 12 (fun (zz : Value × Value × Value × Value) => match zz with | (Xo3_0_1, Xo3_3_1, Xo3_4_1, Xo3_7_1) => [(2, .obj b2 [.w (sl 3 Session.c (([] : List Session) ++ k.sessions)) Xo3_3_1, .w (sl 3 Item.c (([] : List Item) ++ k.items)) Xo3_7_1])]) (fun all hall f hf b0 hb K hK => ?_) ?_
 have ro3_7 : ∀ B, ∀ (Xo3_0_1 : Value), ∀ (Xo3_3_1 : Value), ∀ (Xo3_4_1 : Value), ∀ (Xo3_7_1 : Value), RA f E B all 0 (bt 10 1023) ⟨12, [(2, .obj b2 [.w (sl 3 Session.c (([] : List Session) ++ k.sessions)) Xo3_3_1, .w (sl 3 Item.c (([] : List Item) ++ k.items)) Xo3_7_1])] ++ b0⟩ K := by
  intro B Xo3_0_1 Xo3_3_1 Xo3_4_1 Xo3_7_1
  exact RA.of2 hall hf hb (RA.finH (Tell.of rfl) (by kernel_rfl) (hK (Xo3_0_1, Xo3_3_1, Xo3_4_1, Xo3_7_1) _ rfl (Le.of rfl)))
 have ro3_6 : ∀ B, ∀ (Xo3_0_1 : Value), ∀ (Xo3_3_1 : Value), ∀ (Xo3_4_1 : Value), ∀ (Xo3_7_1 : Value), RA f E B all 1 (bt 10 511) ⟨12, [(2, .obj b2 [.r (.v (.slice none 0 0)), .r (.v (.slice none 0 0))]), (6, .w (sl 3 Session.c (([] : List Session) ++ k.sessions)) Xo3_3_1), (10, .w (sl 3 Item.c (([] : List Item) ++ k.items)) Xo3_7_1), (11, .agg [.al 6 none 3 ((([] : List Session) ++ k.sessions).length) Xo3_3_1 0, .al 10 none 3 ((([] : List Item) ++ k.items).length) Xo3_7_1 0])] ++ b0⟩ K := by
  intro B Xo3_0_1 Xo3_3_1 Xo3_4_1 Xo3_7_1
  refine RA.of2 hall hf hb (RA.stepH (L := [9]) (Tell.of rfl) (by kernel_rfl) (by simp) (RA.each ?_ (RA.each0)))
  refine RO.storeAgg (es := [.al 6 none 3 ((([] : List Session) ++ k.sessions).length) Xo3_3_1 0, .al 10 none 3 ((([] : List Item) ++ k.items).length) Xo3_7_1 0]) rfl rfl rfl rfl rfl rfl rfl rfl rfl rfl (Nat.le_of_ble_eq_true rfl) rfl ?_
  refine RA.keep 12 [2,6,10] rfl ?_;(conv=>whnf);refine ⟨?_⟩
  refine RA.pullT (k := 2) (l := 6) (j := 0) 2 6 0 rfl rfl rfl (by decide) rfl rfl rfl ?_
  refine RA.keep 12 [2,10] rfl ?_;(conv=>whnf);refine ⟨?_⟩
  refine RA.pullT (k := 2) (l := 10) (j := 1) 2 10 1 rfl rfl rfl (by decide) rfl rfl rfl ?_
  refine RA.keep 12 [2] rfl ?_;(conv=>whnf);refine ⟨?_⟩
  exact RA.to2 hall hf hb (ro3_7 B Xo3_0_1 Xo3_3_1 Xo3_4_1 Xo3_7_1) rfl rfl (by kernel_rfl)
 have ro3_5 : ∀ B, ∀ (Xo3_0_1 : Value), ∀ (Xo3_3_1 : Value), ∀ (Xo3_4_1 : Value), RA f E B all 3 (bt 10 127) ⟨12, [(2, .obj b2 [.r (.v (.slice none 0 0)), .r (.v (.slice none 0 0))]), (6, .w (sl 3 Session.c (([] : List Session) ++ k.sessions)) Xo3_3_1), (7, .w (sl 3 Item.c ([] : List Item)) Xo3_4_1), (9, .r (sl 3 Item.c k.items))] ++ b0⟩ K := by
  intro B Xo3_0_1 Xo3_3_1 Xo3_4_1
  refine RA.of2 hall hf hb (RA.stepH (L := [7]) (Tell.of rfl) (by kernel_rfl) (by simp) (RA.each ?_ (RA.each0)))
  refine RO.appendSR (c := Item.c) (l1 := ([] : List Item)) (l2 := k.items) rfl rfl rfl rfl rfl rfl rfl rfl rfl rfl .r (by decide) (Nat.le_of_ble_eq_true rfl) Item.len (fun _ => rfl) rfl q13 q13 fun Xo3_7_1 => ?_
  refine RA.fr XK 12 1 [8] (bt 10 511) rfl rfl (by kernel_rfl) (Tell.of rfl) ?_
  (conv=>whnf);refine ⟨rfl,fun B=>?_⟩
  exact RA.to2 hall hf hb (ro3_6 B Xo3_0_1 Xo3_3_1 Xo3_4_1 Xo3_7_1) rfl rfl (by kernel_rfl)
 have ro3_4 : ∀ B, ∀ (Xo3_0_1 : Value), ∀ (Xo3_4_1 : Value), RA f E B all 4 (bt 10 119) ⟨12, [(2, .obj b2 [.r (.v (.slice none 0 0)), .r (.v (.slice none 0 0))]), (3, .w (sl 3 Session.c ([] : List Session)) Xo3_0_1), (5, .r (sl 3 Session.c k.sessions)), (7, .w (sl 3 Item.c ([] : List Item)) Xo3_4_1), (9, .r (sl 3 Item.c k.items))] ++ b0⟩ K := by
  intro B Xo3_0_1 Xo3_4_1
  refine RA.of2 hall hf hb (RA.stepH (L := [3]) (Tell.of rfl) (by kernel_rfl) (by simp) (RA.each ?_ (RA.each0)))
  refine RO.appendSR (c := Session.c) (l1 := ([] : List Session)) (l2 := k.sessions) rfl rfl rfl rfl rfl rfl rfl rfl rfl rfl .r (by decide) (Nat.le_of_ble_eq_true rfl) Session.len (fun _ => rfl) rfl q13 q13 fun Xo3_3_1 => ?_
  exact RA.to2 hall hf hb (ro3_5 B Xo3_0_1 Xo3_3_1 Xo3_4_1) rfl rfl (by kernel_rfl)
 have ro3_3 : ∀ B, ∀ (Xo3_0_1 : Value), ∀ (Xo3_3_1 : Value), RA f E B all 4 (bt 10 111) ⟨12, [(2, .obj b2 [.r (.v (.slice none 0 0)), .r (.v (.slice none 0 0))]), (6, .w (sl 3 Session.c (([] : List Session) ++ k.sessions)) Xo3_3_1), (9, .r (sl 3 Item.c k.items))] ++ b0⟩ K := by
  intro B Xo3_0_1 Xo3_3_1
  refine RA.of2 hall hf hb (RA.stepH (L := [4]) (Tell.of rfl) (by kernel_rfl) (by simp) (RA.each ?_ (RA.each0)))
  refine RO.build0 Item.c rfl rfl rfl rfl rfl rfl rfl fun Xo3_4_1 => ?_
  exact RA.to2 hall hf hb (ro3_5 B Xo3_0_1 Xo3_3_1 Xo3_4_1) rfl rfl (by kernel_rfl)
 have ro3_2 : ∀ B, ∀ (Xo3_4_1 : Value), RA f E B all 5 (bt 10 118) ⟨12, [(2, .obj b2 [.r (.v (.slice none 0 0)), .r (.v (.slice none 0 0))]), (5, .r (sl 3 Session.c k.sessions)), (7, .w (sl 3 Item.c ([] : List Item)) Xo3_4_1), (9, .r (sl 3 Item.c k.items))] ++ b0⟩ K := by
  intro B Xo3_4_1
  refine RA.of2 hall hf hb (RA.stepH (L := [0]) (Tell.of rfl) (by kernel_rfl) (by simp) (RA.each ?_ (RA.each0)))
  refine RO.build0 Session.c rfl rfl rfl rfl rfl rfl rfl fun Xo3_0_1 => ?_
  exact RA.to2 hall hf hb (ro3_4 B Xo3_0_1 Xo3_4_1) rfl rfl (by kernel_rfl)
 have ro3_1 : ∀ B, ∀ (Xo3_0_1 : Value), RA f E B all 5 (bt 10 103) ⟨12, [(2, .obj b2 [.r (.v (.slice none 0 0)), .r (.v (.slice none 0 0))]), (3, .w (sl 3 Session.c ([] : List Session)) Xo3_0_1), (5, .r (sl 3 Session.c k.sessions)), (9, .r (sl 3 Item.c k.items))] ++ b0⟩ K := by
  intro B Xo3_0_1
  refine RA.of2 hall hf hb (RA.stepH (L := [3, 4]) (Tell.of rfl) (by kernel_rfl) (by simp) (RA.each ?_ (RA.each ?_ (RA.each0))))
  refine RO.appendSR (c := Session.c) (l1 := ([] : List Session)) (l2 := k.sessions) rfl rfl rfl rfl rfl rfl rfl rfl rfl rfl .r (by decide) (Nat.le_of_ble_eq_true rfl) Session.len (fun _ => rfl) rfl q13 q13 fun Xo3_3_1 => ?_
  exact RA.to2 hall hf hb (ro3_3 B Xo3_0_1 Xo3_3_1) rfl rfl (by kernel_rfl)
  refine RO.build0 Item.c rfl rfl rfl rfl rfl rfl rfl fun Xo3_4_1 => ?_
  exact RA.to2 hall hf hb (ro3_4 B Xo3_0_1 Xo3_4_1) rfl rfl (by kernel_rfl)
 have ro3_0 : ∀ B, RA f E B all 6 (bt 10 102) ⟨12, [(2, .obj b2 [.r (.v (.slice none 0 0)), .r (.v (.slice none 0 0))]), (5, .r (sl 3 Session.c k.sessions)), (9, .r (sl 3 Item.c k.items))] ++ b0⟩ K := by
  intro B
  refine RA.of2 hall hf hb (RA.stepH (L := [0, 4]) (Tell.of rfl) (by kernel_rfl) (by simp) (RA.each ?_ (RA.each ?_ (RA.each0))))
  refine RO.build0 Session.c rfl rfl rfl rfl rfl rfl rfl fun Xo3_0_1 => ?_
  exact RA.to2 hall hf hb (ro3_1 B Xo3_0_1) rfl rfl (by kernel_rfl)
  refine RO.build0 Item.c rfl rfl rfl rfl rfl rfl rfl fun Xo3_4_1 => ?_
  exact RA.to2 hall hf hb (ro3_2 B Xo3_4_1) rfl rfl (by kernel_rfl)
 refine RA.start (by kernel_rfl) (by kernel_rfl) (m := 10) (ls' := (bt 10 0)) ?_
 refine RA.fr XK 12 6 [1,2,5,6] (bt 10 102) rfl rfl (by kernel_rfl) (Tell.of rfl) ?_
 (conv=>whnf);refine ⟨rfl,fun B=>?_⟩
 exact RA.to2 hall hf hb (ro3_0 B) rfl rfl (by kernel_rfl)
 rintro ⟨Xo3_0_1, Xo3_3_1, Xo3_4_1, Xo3_7_1⟩
 refine CW.ret ?_
 exact Post.one (RV.c (f := fun e => (Keep.c e).map .w) (e' := (⟨(([] : List Session) ++ k.sessions), (([] : List Item) ++ k.items)⟩ : Keep)) rfl rfl rfl rfl (DT.w (DT.w DT.e)) (by rfl)) (AOs.a rfl AOs.e)
set_option maxHeartbeats 4000000 in
theorem __impl_scan__one_fn (s : scan) (hs : s.ok) : Eng.Fn E.P 117 [.ob ((scan.c s).map .r)] (.one (.one (.w (.v (.int .i64 (oneV s)))))) [.ob ((scan.c (oneS s)).map .r)] := by
 refine Eng.Fn.intro (E := E) (rvs := [.tmp 2]) Tryz.func117 rfl rfl rfl (by simp [outSlots, moved, rvSlot, sl]) ?_
 intro B g bo
 refine CW.g XK 40 [.e [0],.n 1,.e [0],.p] rfl rfl rfl ?_
 refine CW.seqJ 40 (fun (v1 : Bool) => [(0, .obj (bo 0) ((scan.c s).map .r)), (18, Bo v1)]) (fun v1 => v1 = (s.bad || decide (s.at_ ≥ (s.text.size : Int)))) ?_ ?_
 refine CW.drawn (by kernel_rfl) ?_
 refine RQ.k XK 40 5 rfl ?_
 (conv=>whnf);refine ⟨rfl,?_⟩
 refine RQ.gv rfl rfl rfl rfl (fun h2 => V.mv (d := .pt 0 (bo 0) 0) rfl rfl) (fun h2 => ?_) (fun h2 => ?_)
 refine RQ.k XK 40 10 rfl ?_
 (conv=>whnf);refine ⟨rfl,?_⟩
 refine RQ.nil ?_
 exact ⟨_, by first | rfl | (simp_all; done) | (simp_all; omega) | grind, rfl, Le.of rfl⟩
 refine RQ.k XK 40 10 rfl ?_
 (conv=>whnf);refine ⟨rfl,?_⟩
 refine RQ.nil ?_
 exact ⟨_, by first | rfl | (simp_all; done) | (simp_all; omega) | grind, rfl, Le.of rfl⟩
 intro v1 hv3
 refine CW.cond rfl (fun h4 => ?_) (fun h4 => ?_)
 have hvv := hv3.symm.trans h4
 refine CW.g XK 40 [.n 2,.e [0,2]] rfl rfl rfl ?_
 refine CW.ret ?_
 exact Post.one (RV.i rfl (by simp only [oneV]; rw [scOne, if_pos hvv])) (AOs.obE (f := fun e => (scan.c e).map .r) (e' := (⟨s.text, s.at_, true⟩ : scan)) rfl (DT.r (DT.r (DT.r DT.e))) (by simp only [oneS]; rw [scOne, if_pos hvv]) AOs.e)
 have hvv := hv3.symm.trans h4
 refine CW.g XK 40 [.p,.e [0],.n 1,.e [0],.p] rfl rfl rfl ?_
 refine CW.drawn (by kernel_rfl) ?_
 refine RQ.k XK 40 9 rfl ?_
 (conv=>whnf);refine ⟨rfl,?_⟩
 refine RQ.v rfl (V.idxStrZ (m := s.at_.toNat) rfl (by kernel_rfl) rfl rfl (one_ix hs) (one_lt hs hvv)) ?_
 refine RQ.k XK 40 2 rfl ?_
 (conv=>whnf);refine ⟨rfl,?_⟩
 refine RQ.nil ?_
 refine CW.g XK 40 [.e [0,2]] rfl rfl rfl ?_
 refine CW.ret ?_
 exact Post.one (RV.i rfl (by simp only [oneV]; rw [scOne, if_neg (by rw [hvv]; simp)])) (AOs.obE (f := fun e => (scan.c e).map .r) (e' := (⟨s.text, (IntKind.i64.wrap (s.at_ + 1)), s.bad⟩ : scan)) rfl (DT.r (DT.r (DT.r DT.e))) (by exact oneS_go hs hvv) AOs.e)
set_option maxHeartbeats 4000000 in
theorem impl_within_fn (n : Int) (x : Int) (y : Int) : Eng.Fn E.P 49 [.one (.r (.v (.int .i64 n))), .one (.r (.v (.int .i64 x))), .one (.r (.v (.int .i64 y)))] (.one (.one (.w (.v (.bool (inR n x y)))))) [.one (.r (.v (.int .i64 n))), .one (.r (.v (.int .i64 x))), .one (.r (.v (.int .i64 y)))] := by
 refine Eng.Fn.intro (E := E) (rvs := [.tmp 6]) Tryz.func49 rfl rfl rfl (by simp [outSlots, moved, rvSlot, sl]) ?_
 intro B g bo
 refine CW.g XK 15 [.e [0,1,2],.n 1,.e [0,1,2]] rfl rfl rfl ?_
 refine CW.seqJ 15 (fun (v1 : Bool) => [(6, Bo v1)]) (fun v1 => v1 = (decide (n ≥ x) && decide (n ≤ y))) ?_ ?_
 refine CW.g XK 15 [.o 4] rfl rfl rfl ?_
 refine RW.gv rfl rfl rfl rfl (fun h2 => V.mv (d := I n) rfl rfl) (fun h2 => ?_) (fun h2 => ?_)
 refine RW.g XK 15 [.o 4,.p] rfl rfl rfl ?_
 exact ⟨_, by first | rfl | (simp_all; done) | (simp_all; omega) | grind, rfl, Le.of rfl⟩
 refine RW.g XK 15 [.o 4,.p] rfl rfl rfl ?_
 exact ⟨_, by first | rfl | (simp_all; done) | (simp_all; omega) | grind, rfl, Le.of rfl⟩
 intro v1 hv3
 refine CW.ret ?_
 exact Post.one (RV.b rfl (by simp_all [inR])) (AOs.r (AOs.r (AOs.r AOs.e)))
set_option maxHeartbeats 4000000 in
theorem impl_ReadVar_fn (t : ByteArray) (a : Int) (ht : t.size ≤ 1048576) : Eng.Fn E.P 143 [.one (.r (.v (.string t))), .one (.r (.v (.int .i64 a)))] (.tup [.one (.w (.v (.int .i64 ((rdVar t a).1)))), .one (.w (.v (.int .i64 ((rdVar t a).2.1)))), .one (.w (.v (.bool ((rdVar t a).2.2))))]) [.one (.r (.v (.string t))), .one (.r (.v (.int .i64 a)))] := by
 refine Eng.Fn.intro (E := E) (rvs := [.tmp 4, .tmp 5, .tmp 6]) Tryz.func143 rfl rfl rfl (by simp [outSlots, moved, rvSlot, sl]) ?_
 intro B g bo
 refine CW.g XK 57 [.e [0,1]] rfl rfl rfl ?_
 have hsz : t.size ≤ 4611686018427387904 := by omega
 refine CW.g XK 57 [.n 1,.e [0,1],.o 3] rfl rfl rfl ?_
 refine RW.call rfl (impl_within_fn a 0 (t.size : Int)) rfl (.cons (.one (.r .r)) (.cons (.one (.r .r)) (.cons (.one (.r .r)) (.nil)))) fun g1 => ?_
 refine RW.g XK 57 [.o 1,.p,.e [0,1,14]] rfl rfl rfl ?_
 refine CW.cond rfl (fun h2 => ?_) (fun h2 => ?_)
 refine CW.g XK 57 [.n 1,.e [4,5,6]] rfl rfl rfl ?_
 refine CW.ret ?_
 exact Post.tup (by decide) (RVs.c (RV.i rfl (by rw [rdVar_out (nT (by assumption))])) (RVs.c (RV.i rfl (by rw [rdVar_out (nT (by assumption))])) (RVs.c (RV.b rfl (by rw [rdVar_out (nT (by assumption))])) RVs.e))) (AOs.r (AOs.r AOs.e))
 have hin := nF h2
 refine CW.g XK 57 [.p,.e [0,1],.n 1,.e [0,1,7],.n 1,.e [0,1,7,8],.p] rfl rfl rfl ?_
 refine CW.loopI 57 (fun (zz : Nat × Int) => match zz with | (i, n) => [(0, S t), (1, I a), (7, I n), (8, I (i : Int))]) (fun (zz : Nat × Int) => match zz with | (i, n) => RvP t a i n) (fun (zz : Nat × Int) => match zz with | (i, n) => 5 - i) (0, 0) rfl (Le.c rfl <| Le.c rfl <| Le.c rfl <| Le.c rfl <| Le.e) (RvP.init hin hsz) ?_
 rintro ⟨i, n⟩ hP
 refine CW.g XK 57 [.p] rfl rfl rfl ?_
 refine CW.seqJ 57 (fun (v3 : Bool) => [(0, S t), (1, I a), (7, I n), (8, I (i : Int)), (24, Bo v3)]) (fun v3 => v3 = (decide ((i : Int) < 5) && decide ((IntKind.i64.wrap (a + (i : Int))) < (t.size : Int)))) ?_ ?_
 refine CW.g XK 57 [.o 3] rfl rfl rfl ?_
 refine RW.gv rfl rfl rfl rfl (fun h4 => V.mv (d := I a) rfl rfl) (fun h4 => ?_) (fun h4 => ?_)
 refine RW.g XK 57 [.o 6,.p] rfl rfl rfl ?_
 exact ⟨_, by first | rfl | (simp_all; done) | (simp_all; omega) | grind, rfl, Le.of rfl⟩
 refine RW.g XK 57 [.o 6,.p] rfl rfl rfl ?_
 exact ⟨_, by first | rfl | (simp_all; done) | (simp_all; omega) | grind, rfl, Le.of rfl⟩
 intro v3 hv5
 refine CW.cond rfl (fun h6 => ?_) (fun h6 => ?_)
 have hvv := hv5.symm.trans h6
 simp only [Bool.and_eq_true, decide_eq_true_eq] at hvv
 have h5 : i < 5 := by omega
 have hlt : a.toNat + i < t.size := hP.lt hvv.2
 obtain ⟨c, hb⟩ := hP.byte hlt
 refine CW.g XK 57 [.p,.e [0,1,7,8],.o 4] rfl rfl rfl ?_
 refine RW.v rfl (V.idxStrZ (m := (a.toNat + i)) rfl (by kernel_rfl) rfl rfl hP.ix hlt) ?_
 refine RW.g XK 57 [.o 2,.p,.e [0,1,7,8,9],.o 5] rfl rfl rfl ?_
 refine RW.v rfl (V.shl rfl rfl rfl (by rw [wrap_small (by omega) (by omega)]; omega)) ?_
 refine RW.g XK 57 [.o 2,.p,.e [0,1,7,8,9],.n 1,.e [0,1,7,8,9,41]] rfl rfl rfl ?_
 refine CW.cond rfl (fun h7 => ?_) (fun h7 => ?_)
 have hc : (c.toNat : Int) > 127 := by have h9 := of_decide_eq_true h7; rw [hb.wb] at h9; exact h9
 refine CW.exit ?_
 refine CW.g XK 57 [.e [0,1,7,8],.o 1] rfl rfl rfl ?_
 refine RW.v rfl (V.inc rfl rfl rfl h5 (by simp only [maxLen]; omega)) ?_
 refine RW.g XK 57 [.o 1,.p] rfl rfl rfl ?_
 exact ⟨(i + 1, (IntKind.i64.wrap (n + (shlI (Int.tmod (IntKind.i64.wrap (bat t (a.toNat + i))) 128) (IntKind.i64.wrap (7 * (i : Int))))))), by simp only []; omega, (hP.next hb h5 hlt hc (hP.nI hb h5)), rfl, Le.c rfl <| Le.c rfl <| Le.c rfl <| Le.c rfl <| Le.e⟩
 have hc : (c.toNat : Int) ≤ 127 := by have h9 := of_decide_eq_false h7; rw [hb.wb] at h9; omega
 refine CW.g XK 57 [.p,.e [1,7,8,9],.p] rfl rfl rfl ?_
 refine CW.seqJ 57 (fun (v8 : Bool) => [(1, I a), (7, I (IntKind.i64.wrap (n + (shlI (Int.tmod (IntKind.i64.wrap (bat t (a.toNat + i))) 128) (IntKind.i64.wrap (7 * (i : Int))))))), (8, I (i : Int)), (51, Bo v8)]) (fun v8 => v8 = ((decide ((i : Int) > 0) && ((IntKind.i64.wrap (bat t (a.toNat + i))) == 0)) || decide ((IntKind.i64.wrap (n + (shlI (Int.tmod (IntKind.i64.wrap (bat t (a.toNat + i))) 128) (IntKind.i64.wrap (7 * (i : Int)))))) > 1000000000))) ?_ ?_
 refine CW.g XK 57 [.o 3] rfl rfl rfl ?_
 refine RW.gv rfl rfl rfl rfl (fun h9 => V.mv (d := I (IntKind.i64.wrap (bat t (a.toNat + i)))) rfl rfl) (fun h9 => ?_) (fun h9 => ?_)
 refine RW.g XK 57 [.o 3] rfl rfl rfl ?_
 refine RW.gv rfl rfl rfl rfl (fun h10 => V.mv (d := I (IntKind.i64.wrap (n + (shlI (Int.tmod (IntKind.i64.wrap (bat t (a.toNat + i))) 128) (IntKind.i64.wrap (7 * (i : Int))))))) rfl rfl) (fun h10 => ?_) (fun h10 => ?_)
 refine RW.g XK 57 [.o 2,.p] rfl rfl rfl ?_
 exact ⟨_, by first | rfl | (simp_all; done) | (simp_all; omega) | grind, rfl, Le.of rfl⟩
 refine RW.g XK 57 [.o 2,.p] rfl rfl rfl ?_
 exact ⟨_, by first | rfl | (simp_all; done) | (simp_all; omega) | grind, rfl, Le.of rfl⟩
 refine RW.g XK 57 [.o 6,.p] rfl rfl rfl ?_
 exact ⟨_, by first | rfl | (simp_all; done) | (simp_all; omega) | grind, rfl, Le.of rfl⟩
 intro v8 hv11
 refine CW.cond rfl (fun h12 => ?_) (fun h12 => ?_)
 have hz := (hP.implT hb h5 hv11).1 h12
 refine CW.g XK 57 [.n 1,.e [4,5,6]] rfl rfl rfl ?_
 refine CW.ret ?_
 exact Post.tup (by decide) (RVs.c (RV.i rfl (by rw [hP.badZ hb h5 hc hz])) (RVs.c (RV.i rfl (by rw [hP.badZ hb h5 hc hz])) (RVs.c (RV.b rfl (by rw [hP.badZ hb h5 hc hz])) RVs.e))) (AOs.r (AOs.r AOs.e))
 have hz := (hP.implT hb h5 hv11).2 h12
 refine CW.g XK 57 [.p,.e [1,7,8],.n 1,.e [4,5,6]] rfl rfl rfl ?_
 refine CW.ret ?_
 exact Post.tup (by decide) (RVs.c (RV.i rfl (by rw [hP.goodZ hb h5 hc hz]; exact hP.nI hb h5)) (RVs.c (RV.i rfl (by rw [hP.goodZ hb h5 hc hz]; exact hP.nx)) (RVs.c (RV.b rfl (by rw [hP.goodZ hb h5 hc hz])) RVs.e))) (AOs.r (AOs.r AOs.e))
 have hen := hP.end_ (by have hvv := hv5.symm.trans h6; simp only [Bool.and_eq_false_iff, decide_eq_false_iff_not] at hvv; have h9 := hP.a0; have h8 := hP.sz; have h7 := hP.j5; rw [hP.ix] at hvv; omega)
 refine CW.exit ?_
 refine CW.g XK 57 [.e [],.n 1,.e [4,5,6]] rfl rfl rfl ?_
 refine CW.ret ?_
 exact Post.tup (by decide) (RVs.c (RV.i rfl (by rw [hen])) (RVs.c (RV.i rfl (by rw [hen])) (RVs.c (RV.b rfl (by rw [hen])) RVs.e))) (AOs.r (AOs.r AOs.e))
end Go.Proofs.YtdipdkfbaehglaaGreatDoor.Y
