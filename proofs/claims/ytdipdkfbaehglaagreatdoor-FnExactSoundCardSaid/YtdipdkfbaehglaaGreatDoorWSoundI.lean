import Derived.Test.YtdipdkfbaehglaaGreatDoorWSoundH
namespace Go.Proofs.YtdipdkfbaehglaaGreatDoor.Y
open Go Go.RowKit Go.Eng Go.Proofs
set_option maxRecDepth 10000
set_option maxHeartbeats 4000000 in
theorem laws_toPeerS_fn (a : List Peer) (hm : a.length ≤ 1048576) : Eng.Fn E.P 139 [.one (.r (sl 4 Peer.c a))] (.one (.one (.w (sl 4 Peer.c a)))) [.one (.r (sl 4 Peer.c a))] := by
 refine Eng.Fn.intro (E := E) (rvs := [.tmp 2]) Tryz.func139 rfl rfl rfl (by simp [outSlots, moved, rvSlot, sl]) ?_
 intro B g bo
 refine CW.bound (x := .tmp 0) (n := a.length) (AsT.r) (fun hl0 => ?_)
 refine CW.g XK 23 [.e [0],.n 1,.e [0],.o 2] rfl rfl rfl ?_
 refine RW.makeS (n := a.length) (c := Peer.c) Peer.z rfl rfl rfl rfl rfl rfl rfl rfl (ZT.v (ZT.v (ZT.v (ZT.v ZT.e)))) q41 (by simp only [maxLen]; omega) fun X1 => ?_
 refine RW.assignMove rfl rfl rfl (by decide) (Nat.le_of_ble_eq_true rfl) (Nat.le_of_ble_eq_true rfl) ?_
 refine RW.g XK 23 [.p,.e [0,3],.n 1,.e [0,3,4],.p] rfl rfl rfl ?_
 refine CW.loopI 23 (fun (i : Nat) => [(0, .r (sl 4 Peer.c a)), (3, .w (sl 4 Peer.c (a.take i ++ List.replicate (a.length - i) Peer.z)) X1), (4, I (i : Int))]) (fun (i : Nat) => i ≤ a.length) (fun (i : Nat) => a.length - i) 0 rfl (Le.c rfl <| Le.c rfl <| Le.c rfl <| Le.e) (by omega) ?_
 rintro i hb
 refine CW.g XK 23 [.n 1,.e [0,3,4,11]] rfl rfl rfl ?_
 refine CW.cond rfl (fun h2 => ?_) (fun h2 => ?_)
 have hii : i < a.length := by have := h2; simp at this; first | exact this | omega | (simp; done) | (simp; omega)
 obtain ⟨ei, hei⟩ : ∃ e, a[i]? = some e := ⟨_, List.getElem?_eq_getElem hii⟩
 have hdi := drop_get hei
 refine CW.g XK 23 [.p,.e [0,3,4],.o 4] rfl rfl rfl ?_
 refine RW.v rfl (V.indexS rfl rfl rfl rfl rfl rfl Peer.len hei) ?_
 refine RW.g XK 23 [.o 1] rfl rfl rfl ?_
 refine RW.call rfl (laws_toPeer_fn ei) rfl (.cons (.agg (.cons (.r .r) (.cons (.r .r) (.cons (.r .r) (.cons (.r .r) (.nil)))))) (.nil)) fun g3 => ?_
 refine RW.v rfl (V.indexW rfl rfl rfl rfl rfl rfl rfl (by simp; omega)) ?_
 refine RW.storeS (v := ei) rfl rfl rfl rfl rfl rfl rfl (DW.v (DW.v (DW.v (DW.v DW.e)))) Peer.len (by decide) (by simp; omega) rfl ?_
 refine RW.g XK 23 [.p,.e [0,3,4],.o 1] rfl rfl rfl ?_
 refine RW.v rfl (V.inc rfl rfl rfl hii hl0) ?_
 refine RW.g XK 23 [.o 1,.p] rfl rfl rfl ?_
 exact ⟨i + 1, by omega, by omega, rfl, Le.c rfl <| Le.c (congrArg (fun l => D.w (sl _ Peer.c l) X1) (take_set hei)) <| Le.c rfl <| Le.e⟩
 have hii : a.length ≤ i := by have := h2; simp at this; first | exact this | omega | (simp; done) | (simp; omega)
 have hdi : a.drop i = [] := List.drop_eq_nil_of_le hii
 refine CW.exit ?_
 refine CW.g XK 23 [.e [3],.o 2] rfl rfl rfl ?_
 refine RW.pullS 2 3 (by decide) rfl rfl ?_
 refine RW.g XK 23 [.p,.e [2]] rfl rfl rfl ?_
 refine CW.ret ?_
 exact Post.one (RV.w rfl q14) (AOs.r AOs.e)
set_option maxHeartbeats 4000000 in
theorem laws_toNode_fn (a : Node) (hs : okToNode a) : Eng.Fn E.P 108 [.agg ((Node.c a).map .r)] (.one (.agg ((Node.c a).map .w))) [.agg ((Node.c a).map .r)] := by
 refine Eng.Fn.intro (E := E) (rvs := [.cell 2 98]) Tryz.func108 rfl rfl rfl (by simp [outSlots, moved, rvSlot, sl]) ?_
 intro B g bo
 refine CW.h XK 45 [.e [0],.o 1] rfl ?_;(conv=>whnf);intro b1;(conv=>whnf);refine ⟨rfl,?_⟩
 refine RW.freezeB (ts := (Node.c a)) 1 rfl (DRd.r (DRd.r (DRd.r (DRd.r (DRd.r (DRd.r (DRd.r (DRd.r (DRd.r (DRd.r (DRd.r (DRd.r (DRd.r (DRd.r DRd.e)))))))))))))) ?_
 refine RW.h XK 45 [.o 1,.p,.e [1,2],.n 6,.e [1,2,3],.o 2] rfl ?_;(conv=>whnf);intro b2;(conv=>whnf);intro b3;(conv=>whnf);refine ⟨rfl,?_⟩
 refine RW.call rfl (laws_toIntS_fn a.conf hs.1.1) rfl (.cons (.one (.r .r)) (.nil)) fun g4 => ?_
 refine RW.g XK 45 [.o 2,.e [1,2,3,21]] rfl rfl rfl ?_
 refine RW.pullT (k := 3) (l := 21) (j := 5) 3 21 5 rfl rfl rfl (by decide) rfl rfl rfl ?_
 refine RW.g XK 45 [.e [1,2,3],.p,.e [1,2,3],.o 2] rfl rfl rfl ?_
 refine RW.call rfl (laws_toLog_fn a.log hs.2.1) rfl (.cons (.agg (.cons (.r .r) (.cons (.r .r) (.cons (.r .r) (.nil))))) (.nil)) fun g5 => ?_
 refine RW.g XK 45 [.o 2,.e [1,2,3,25]] rfl rfl rfl ?_
 refine RW.pullA (k := 3) (l := 25) (j := 8) 3 25 8 rfl rfl rfl (by decide) rfl rfl rfl rfl ?_
 refine RW.g XK 45 [.e [1,2,3],.p,.e [1,2,3],.n 3,.e [1,2,3],.o 2] rfl rfl rfl ?_
 refine RW.call rfl (laws_toIntS_fn a.votes hs.2.2.1.1) rfl (.cons (.one (.r .r)) (.nil)) fun g6 => ?_
 refine RW.g XK 45 [.o 2,.e [1,2,3,38]] rfl rfl rfl ?_
 refine RW.pullT (k := 3) (l := 38) (j := 12) 3 38 12 rfl rfl rfl (by decide) rfl rfl rfl ?_
 refine RW.g XK 45 [.e [1,2,3],.p,.e [1,2,3],.o 2] rfl rfl rfl ?_
 refine RW.call rfl (laws_toPeerS_fn a.peers hs.2.2.2.1) rfl (.cons (.one (.r .r)) (.nil)) fun g7 => ?_
 refine RW.g XK 45 [.o 2,.e [2,3,42]] rfl rfl rfl ?_
 refine RW.pullT (k := 3) (l := 42) (j := 13) 3 42 13 rfl rfl rfl (by decide) rfl rfl rfl ?_
 refine RW.g XK 45 [.e [2,3],.p,.e [2,3],.o 2,.e [2,3]] rfl rfl rfl ?_
 refine RW.pullO (k := 2) (l := 3) (j := 5) 2 3 5 rfl rfl rfl (by decide) rfl rfl rfl rfl ?_
 refine RW.g XK 45 [.e [2,3]] rfl rfl rfl ?_
 refine RW.pullO (k := 2) (l := 3) (j := 8) 2 3 8 rfl rfl rfl (by decide) rfl rfl rfl rfl ?_
 refine RW.g XK 45 [.e [2,3]] rfl rfl rfl ?_
 refine RW.pullO (k := 2) (l := 3) (j := 12) 2 3 12 rfl rfl rfl (by decide) rfl rfl rfl rfl ?_
 refine RW.g XK 45 [.e [2,3]] rfl rfl rfl ?_
 refine RW.pullO (k := 2) (l := 3) (j := 13) 2 3 13 rfl rfl rfl (by decide) rfl rfl rfl rfl ?_
 refine RW.g XK 45 [.e [2],.p,.e [2]] rfl rfl rfl ?_
 refine CW.ret ?_
 exact Post.one (RV.c (f := fun e => (Node.c e).map .w) (e' := a) rfl rfl rfl rfl (DT.v (DT.v (DT.v (DT.v (DT.v (DT.w (DT.v (DT.v (DT.w (DT.v (DT.v (DT.v (DT.w (DT.w DT.e)))))))))))))) (by simp_all)) (AOs.a rfl AOs.e)
set_option maxHeartbeats 4000000 in
theorem laws_toFile_fn (a : File) (hs : okToFile a) : Eng.Fn E.P 159 [.agg ((File.c a).map .r)] (.one (.agg ((File.c a).map .w))) [.agg ((File.c a).map .r)] := by
 refine Eng.Fn.intro (E := E) (rvs := [.cell 2 251]) Tryz.func159 rfl rfl rfl (by simp [outSlots, moved, rvSlot, sl]) ?_
 intro B g bo
 refine CW.h XK 14 [.e [0],.o 1] rfl ?_;(conv=>whnf);intro b1;(conv=>whnf);refine ⟨rfl,?_⟩
 refine RW.freezeB (ts := (File.c a)) 1 rfl (DRd.r (DRd.r (DRd.r DRd.e))) ?_
 refine RW.h XK 14 [.o 1,.p,.e [1,2],.n 5,.e [2]] rfl ?_;(conv=>whnf);intro b2;(conv=>whnf);intro b3;(conv=>whnf);refine ⟨rfl,?_⟩
 refine CW.ret ?_
 exact Post.one (RV.c (f := fun e => (File.c e).map .w) (e' := a) rfl rfl rfl rfl (DT.v (DT.v (DT.v DT.e))) (by simp_all)) (AOs.a rfl AOs.e)
set_option maxHeartbeats 4000000 in
theorem laws_toFileS_fn (a : List File) (hm : a.length ≤ 1048576) (hs : ∀ x ∈ a, okToFile x) : Eng.Fn E.P 140 [.one (.r (sl 3 File.c a))] (.one (.one (.w (sl 3 File.c a)))) [.one (.r (sl 3 File.c a))] := by
 refine Eng.Fn.intro (E := E) (rvs := [.tmp 2]) Tryz.func140 rfl rfl rfl (by simp [outSlots, moved, rvSlot, sl]) ?_
 intro B g bo
 refine CW.bound (x := .tmp 0) (n := a.length) (AsT.r) (fun hl0 => ?_)
 refine CW.g XK 23 [.e [0],.n 1,.e [0],.o 2] rfl rfl rfl ?_
 refine RW.makeS (n := a.length) (c := File.c) File.z rfl rfl rfl rfl rfl rfl rfl rfl (ZT.v (ZT.v (ZT.v ZT.e))) (by show 40 * a.length ≤ 281474976710656; omega) (by simp only [maxLen]; omega) fun X1 => ?_
 refine RW.assignMove rfl rfl rfl (by decide) (Nat.le_of_ble_eq_true rfl) (Nat.le_of_ble_eq_true rfl) ?_
 refine RW.g XK 23 [.p,.e [0,3],.n 1,.e [0,3,4],.p] rfl rfl rfl ?_
 refine CW.loopI 23 (fun (i : Nat) => [(0, .r (sl 3 File.c a)), (3, .w (sl 3 File.c (a.take i ++ List.replicate (a.length - i) File.z)) X1), (4, I (i : Int))]) (fun (i : Nat) => i ≤ a.length) (fun (i : Nat) => a.length - i) 0 rfl (Le.c rfl <| Le.c rfl <| Le.c rfl <| Le.e) (by omega) ?_
 rintro i hb
 refine CW.g XK 23 [.n 1,.e [0,3,4,11]] rfl rfl rfl ?_
 refine CW.cond rfl (fun h2 => ?_) (fun h2 => ?_)
 have hii : i < a.length := by have := h2; simp at this; first | exact this | omega | (simp; done) | (simp; omega)
 obtain ⟨ei, hei⟩ : ∃ e, a[i]? = some e := ⟨_, List.getElem?_eq_getElem hii⟩
 have hdi := drop_get hei
 refine CW.g XK 23 [.p,.e [0,3,4],.o 4] rfl rfl rfl ?_
 refine RW.v rfl (V.indexS rfl rfl rfl rfl rfl rfl File.len hei) ?_
 refine RW.g XK 23 [.o 1] rfl rfl rfl ?_
 refine RW.call rfl (laws_toFile_fn ei (hs ei (List.mem_of_getElem? hei))) rfl (.cons (.agg (.cons (.r .r) (.cons (.r .r) (.cons (.r .r) (.nil))))) (.nil)) fun g3 => ?_
 refine RW.v rfl (V.indexW rfl rfl rfl rfl rfl rfl rfl (by simp; omega)) ?_
 refine RW.storeS (v := ei) rfl rfl rfl rfl rfl rfl rfl (DW.v (DW.v (DW.v DW.e))) File.len (by decide) (by simp; omega) rfl ?_
 refine RW.g XK 23 [.p,.e [0,3,4],.o 1] rfl rfl rfl ?_
 refine RW.v rfl (V.inc rfl rfl rfl hii hl0) ?_
 refine RW.g XK 23 [.o 1,.p] rfl rfl rfl ?_
 exact ⟨i + 1, by omega, by omega, rfl, Le.c rfl <| Le.c (congrArg (fun l => D.w (sl _ File.c l) X1) (take_set hei)) <| Le.c rfl <| Le.e⟩
 have hii : a.length ≤ i := by have := h2; simp at this; first | exact this | omega | (simp; done) | (simp; omega)
 have hdi : a.drop i = [] := List.drop_eq_nil_of_le hii
 refine CW.exit ?_
 refine CW.g XK 23 [.e [3],.o 2] rfl rfl rfl ?_
 refine RW.pullS 2 3 (by decide) rfl rfl ?_
 refine RW.g XK 23 [.p,.e [2]] rfl rfl rfl ?_
 refine CW.ret ?_
 exact Post.one (RV.w rfl q14) (AOs.r AOs.e)
set_option maxHeartbeats 4000000 in
theorem laws_toDisk_fn (a : Disk) (hs : okToDisk a) : Eng.Fn E.P 109 [.agg ((Disk.c a).map .r)] (.one (.agg ((Disk.c a).map .w))) [.agg ((Disk.c a).map .r)] := by
 refine Eng.Fn.intro (E := E) (rvs := [.cell 2 101]) Tryz.func109 rfl rfl rfl (by simp [outSlots, moved, rvSlot, sl]) ?_
 intro B g bo
 refine CW.h XK 9 [.e [0],.o 1] rfl ?_;(conv=>whnf);intro b1;(conv=>whnf);refine ⟨rfl,?_⟩
 refine RW.freezeB (ts := (Disk.c a)) 1 rfl (DRd.r DRd.e) ?_
 refine RW.h XK 9 [.o 1,.p,.e [1,2],.n 1,.e [1,2,3],.o 2] rfl ?_;(conv=>whnf);intro b2;(conv=>whnf);intro b3;(conv=>whnf);refine ⟨rfl,?_⟩
 refine RW.call rfl (laws_toFileS_fn a.files hs.1 hs.2) rfl (.cons (.one (.r .r)) (.nil)) fun g4 => ?_
 refine RW.g XK 9 [.o 2,.e [2,3,6]] rfl rfl rfl ?_
 refine RW.pullT (k := 3) (l := 6) (j := 0) 3 6 0 rfl rfl rfl (by decide) rfl rfl rfl ?_
 refine RW.g XK 9 [.e [2,3],.p,.e [2,3],.o 2,.e [2,3]] rfl rfl rfl ?_
 refine RW.pullO (k := 2) (l := 3) (j := 0) 2 3 0 rfl rfl rfl (by decide) rfl rfl rfl rfl ?_
 refine RW.g XK 9 [.e [2],.p,.e [2]] rfl rfl rfl ?_
 refine CW.ret ?_
 exact Post.one (RV.c (f := fun e => (Disk.c e).map .w) (e' := a) rfl rfl rfl rfl (DT.w DT.e) (by simp_all)) (AOs.a rfl AOs.e)
set_option maxHeartbeats 4000000 in
theorem laws_toJournal_fn (a : Journal) (hs : okToJournal a) : Eng.Fn E.P 110 [.agg ((Journal.c a).map .r)] (.one (.agg ((Journal.c a).map .w))) [.agg ((Journal.c a).map .r)] := by
 refine Eng.Fn.intro (E := E) (rvs := [.cell 2 103]) Tryz.func110 rfl rfl rfl (by simp [outSlots, moved, rvSlot, sl]) ?_
 intro B g bo
 refine CW.h XK 18 [.e [0],.o 1] rfl ?_;(conv=>whnf);intro b1;(conv=>whnf);refine ⟨rfl,?_⟩
 refine RW.freezeB (ts := (Journal.c a)) 1 rfl (DRd.r (DRd.r (DRd.r (DRd.r (DRd.r (DRd.r DRd.e)))))) ?_
 refine RW.h XK 18 [.o 1,.p,.e [1,2],.n 4,.e [1,2,3],.o 2] rfl ?_;(conv=>whnf);intro b2;(conv=>whnf);intro b3;(conv=>whnf);refine ⟨rfl,?_⟩
 refine RW.call rfl (laws_toLog_fn a.log hs) rfl (.cons (.agg (.cons (.r .r) (.cons (.r .r) (.cons (.r .r) (.nil))))) (.nil)) fun g4 => ?_
 refine RW.g XK 18 [.o 2,.e [2,3,15]] rfl rfl rfl ?_
 refine RW.pullA (k := 3) (l := 15) (j := 5) 3 15 5 rfl rfl rfl (by decide) rfl rfl rfl rfl ?_
 refine RW.g XK 18 [.e [2,3],.p,.e [2,3],.o 2,.e [2,3]] rfl rfl rfl ?_
 refine RW.pullO (k := 2) (l := 3) (j := 5) 2 3 5 rfl rfl rfl (by decide) rfl rfl rfl rfl ?_
 refine RW.g XK 18 [.e [2],.p,.e [2]] rfl rfl rfl ?_
 refine CW.ret ?_
 exact Post.one (RV.c (f := fun e => (Journal.c e).map .w) (e' := a) rfl rfl rfl rfl (DT.v (DT.v (DT.v (DT.v (DT.v (DT.w DT.e)))))) (by simp_all)) (AOs.a rfl AOs.e)
set_option maxHeartbeats 4000000 in
theorem laws_toSession_fn (a : Session) (hs : okToSession a) : Eng.Fn E.P 160 [.agg ((Session.c a).map .r)] (.one (.agg ((Session.c a).map .w))) [.agg ((Session.c a).map .r)] := by
 refine Eng.Fn.intro (E := E) (rvs := [.cell 2 156]) Tryz.func160 rfl rfl rfl (by simp [outSlots, moved, rvSlot, sl]) ?_
 intro B g bo
 refine CW.h XK 14 [.e [0],.o 1] rfl ?_;(conv=>whnf);intro b1;(conv=>whnf);refine ⟨rfl,?_⟩
 refine RW.freezeB (ts := (Session.c a)) 1 rfl (DRd.r (DRd.r (DRd.r DRd.e))) ?_
 refine RW.h XK 14 [.o 1,.p,.e [1,2],.n 5,.e [2]] rfl ?_;(conv=>whnf);intro b2;(conv=>whnf);intro b3;(conv=>whnf);refine ⟨rfl,?_⟩
 refine CW.ret ?_
 exact Post.one (RV.c (f := fun e => (Session.c e).map .w) (e' := a) rfl rfl rfl rfl (DT.v (DT.v (DT.v DT.e))) (by simp_all)) (AOs.a rfl AOs.e)
set_option maxHeartbeats 4000000 in
theorem laws_toSessionS_fn (a : List Session) (hm : a.length ≤ 1048576) (hs : ∀ x ∈ a, okToSession x) : Eng.Fn E.P 141 [.one (.r (sl 3 Session.c a))] (.one (.one (.w (sl 3 Session.c a)))) [.one (.r (sl 3 Session.c a))] := by
 refine Eng.Fn.intro (E := E) (rvs := [.tmp 2]) Tryz.func141 rfl rfl rfl (by simp [outSlots, moved, rvSlot, sl]) ?_
 intro B g bo
 refine CW.bound (x := .tmp 0) (n := a.length) (AsT.r) (fun hl0 => ?_)
 refine CW.g XK 23 [.e [0],.n 1,.e [0],.o 2] rfl rfl rfl ?_
 refine RW.makeS (n := a.length) (c := Session.c) Session.z rfl rfl rfl rfl rfl rfl rfl rfl (ZT.v (ZT.v (ZT.v ZT.e))) q41 (by simp only [maxLen]; omega) fun X1 => ?_
 refine RW.assignMove rfl rfl rfl (by decide) (Nat.le_of_ble_eq_true rfl) (Nat.le_of_ble_eq_true rfl) ?_
 refine RW.g XK 23 [.p,.e [0,3],.n 1,.e [0,3,4],.p] rfl rfl rfl ?_
 refine CW.loopI 23 (fun (i : Nat) => [(0, .r (sl 3 Session.c a)), (3, .w (sl 3 Session.c (a.take i ++ List.replicate (a.length - i) Session.z)) X1), (4, I (i : Int))]) (fun (i : Nat) => i ≤ a.length) (fun (i : Nat) => a.length - i) 0 rfl (Le.c rfl <| Le.c rfl <| Le.c rfl <| Le.e) (by omega) ?_
 rintro i hb
 refine CW.g XK 23 [.n 1,.e [0,3,4,11]] rfl rfl rfl ?_
 refine CW.cond rfl (fun h2 => ?_) (fun h2 => ?_)
 have hii : i < a.length := by have := h2; simp at this; first | exact this | omega | (simp; done) | (simp; omega)
 obtain ⟨ei, hei⟩ : ∃ e, a[i]? = some e := ⟨_, List.getElem?_eq_getElem hii⟩
 have hdi := drop_get hei
 refine CW.g XK 23 [.p,.e [0,3,4],.o 4] rfl rfl rfl ?_
 refine RW.v rfl (V.indexS rfl rfl rfl rfl rfl rfl Session.len hei) ?_
 refine RW.g XK 23 [.o 1] rfl rfl rfl ?_
 refine RW.call rfl (laws_toSession_fn ei (hs ei (List.mem_of_getElem? hei))) rfl (.cons (.agg (.cons (.r .r) (.cons (.r .r) (.cons (.r .r) (.nil))))) (.nil)) fun g3 => ?_
 refine RW.v rfl (V.indexW rfl rfl rfl rfl rfl rfl rfl (by simp; omega)) ?_
 refine RW.storeS (v := ei) rfl rfl rfl rfl rfl rfl rfl (DW.v (DW.v (DW.v DW.e))) Session.len (by decide) (by simp; omega) rfl ?_
 refine RW.g XK 23 [.p,.e [0,3,4],.o 1] rfl rfl rfl ?_
 refine RW.v rfl (V.inc rfl rfl rfl hii hl0) ?_
 refine RW.g XK 23 [.o 1,.p] rfl rfl rfl ?_
 exact ⟨i + 1, by omega, by omega, rfl, Le.c rfl <| Le.c (congrArg (fun l => D.w (sl _ Session.c l) X1) (take_set hei)) <| Le.c rfl <| Le.e⟩
 have hii : a.length ≤ i := by have := h2; simp at this; first | exact this | omega | (simp; done) | (simp; omega)
 have hdi : a.drop i = [] := List.drop_eq_nil_of_le hii
 refine CW.exit ?_
 refine CW.g XK 23 [.e [3],.o 2] rfl rfl rfl ?_
 refine RW.pullS 2 3 (by decide) rfl rfl ?_
 refine RW.g XK 23 [.p,.e [2]] rfl rfl rfl ?_
 refine CW.ret ?_
 exact Post.one (RV.w rfl q14) (AOs.r AOs.e)
set_option maxHeartbeats 4000000 in
theorem laws_toItem_fn (a : Item) (hs : okToItem a) : Eng.Fn E.P 161 [.agg ((Item.c a).map .r)] (.one (.agg ((Item.c a).map .w))) [.agg ((Item.c a).map .r)] := by
 refine Eng.Fn.intro (E := E) (rvs := [.cell 2 71]) Tryz.func161 rfl rfl rfl (by simp [outSlots, moved, rvSlot, sl]) ?_
 intro B g bo
 refine CW.h XK 14 [.e [0],.o 1] rfl ?_;(conv=>whnf);intro b1;(conv=>whnf);refine ⟨rfl,?_⟩
 refine RW.freezeB (ts := (Item.c a)) 1 rfl (DRd.r (DRd.r (DRd.r DRd.e))) ?_
 refine RW.h XK 14 [.o 1,.p,.e [1,2],.n 5,.e [2]] rfl ?_;(conv=>whnf);intro b2;(conv=>whnf);intro b3;(conv=>whnf);refine ⟨rfl,?_⟩
 refine CW.ret ?_
 exact Post.one (RV.c (f := fun e => (Item.c e).map .w) (e' := a) rfl rfl rfl rfl (DT.v (DT.v (DT.v DT.e))) (by simp_all)) (AOs.a rfl AOs.e)
set_option maxHeartbeats 4000000 in
theorem laws_toItemS_fn (a : List Item) (hm : a.length ≤ 1048576) (hs : ∀ x ∈ a, okToItem x) : Eng.Fn E.P 142 [.one (.r (sl 3 Item.c a))] (.one (.one (.w (sl 3 Item.c a)))) [.one (.r (sl 3 Item.c a))] := by
 refine Eng.Fn.intro (E := E) (rvs := [.tmp 2]) Tryz.func142 rfl rfl rfl (by simp [outSlots, moved, rvSlot, sl]) ?_
 intro B g bo
 refine CW.bound (x := .tmp 0) (n := a.length) (AsT.r) (fun hl0 => ?_)
 refine CW.g XK 23 [.e [0],.n 1,.e [0],.o 2] rfl rfl rfl ?_
 refine RW.makeS (n := a.length) (c := Item.c) Item.z rfl rfl rfl rfl rfl rfl rfl rfl (ZT.v (ZT.v (ZT.v ZT.e))) (by show 40 * a.length ≤ 281474976710656; omega) (by simp only [maxLen]; omega) fun X1 => ?_
 refine RW.assignMove rfl rfl rfl (by decide) (Nat.le_of_ble_eq_true rfl) (Nat.le_of_ble_eq_true rfl) ?_
 refine RW.g XK 23 [.p,.e [0,3],.n 1,.e [0,3,4],.p] rfl rfl rfl ?_
 refine CW.loopI 23 (fun (i : Nat) => [(0, .r (sl 3 Item.c a)), (3, .w (sl 3 Item.c (a.take i ++ List.replicate (a.length - i) Item.z)) X1), (4, I (i : Int))]) (fun (i : Nat) => i ≤ a.length) (fun (i : Nat) => a.length - i) 0 rfl (Le.c rfl <| Le.c rfl <| Le.c rfl <| Le.e) (by omega) ?_
 rintro i hb
 refine CW.g XK 23 [.n 1,.e [0,3,4,11]] rfl rfl rfl ?_
 refine CW.cond rfl (fun h2 => ?_) (fun h2 => ?_)
 have hii : i < a.length := by have := h2; simp at this; first | exact this | omega | (simp; done) | (simp; omega)
 obtain ⟨ei, hei⟩ : ∃ e, a[i]? = some e := ⟨_, List.getElem?_eq_getElem hii⟩
 have hdi := drop_get hei
 refine CW.g XK 23 [.p,.e [0,3,4],.o 4] rfl rfl rfl ?_
 refine RW.v rfl (V.indexS rfl rfl rfl rfl rfl rfl Item.len hei) ?_
 refine RW.g XK 23 [.o 1] rfl rfl rfl ?_
 refine RW.call rfl (laws_toItem_fn ei (hs ei (List.mem_of_getElem? hei))) rfl (.cons (.agg (.cons (.r .r) (.cons (.r .r) (.cons (.r .r) (.nil))))) (.nil)) fun g3 => ?_
 refine RW.v rfl (V.indexW rfl rfl rfl rfl rfl rfl rfl (by simp; omega)) ?_
 refine RW.storeS (v := ei) rfl rfl rfl rfl rfl rfl rfl (DW.v (DW.v (DW.v DW.e))) Item.len (by decide) (by simp; omega) rfl ?_
 refine RW.g XK 23 [.p,.e [0,3,4],.o 1] rfl rfl rfl ?_
 refine RW.v rfl (V.inc rfl rfl rfl hii hl0) ?_
 refine RW.g XK 23 [.o 1,.p] rfl rfl rfl ?_
 exact ⟨i + 1, by omega, by omega, rfl, Le.c rfl <| Le.c (congrArg (fun l => D.w (sl _ Item.c l) X1) (take_set hei)) <| Le.c rfl <| Le.e⟩
 have hii : a.length ≤ i := by have := h2; simp at this; first | exact this | omega | (simp; done) | (simp; omega)
 have hdi : a.drop i = [] := List.drop_eq_nil_of_le hii
 refine CW.exit ?_
 refine CW.g XK 23 [.e [3],.o 2] rfl rfl rfl ?_
 refine RW.pullS 2 3 (by decide) rfl rfl ?_
 refine RW.g XK 23 [.p,.e [2]] rfl rfl rfl ?_
 refine CW.ret ?_
 exact Post.one (RV.w rfl q14) (AOs.r AOs.e)
set_option maxHeartbeats 4000000 in
theorem laws_toKeep_fn (a : Keep) (hs : okToKeep a) : Eng.Fn E.P 111 [.agg ((Keep.c a).map .r)] (.one (.agg ((Keep.c a).map .w))) [.agg ((Keep.c a).map .r)] := by
 refine Eng.Fn.intro (E := E) (rvs := [.cell 2 59]) Tryz.func111 rfl rfl rfl (by simp [outSlots, moved, rvSlot, sl]) ?_
 intro B g bo
 refine CW.h XK 13 [.e [0],.o 1] rfl ?_;(conv=>whnf);intro b1;(conv=>whnf);refine ⟨rfl,?_⟩
 refine RW.freezeB (ts := (Keep.c a)) 1 rfl (DRd.r (DRd.r DRd.e)) ?_
 refine RW.h XK 13 [.o 1,.p,.e [1,2],.n 1,.e [1,2,3],.o 2] rfl ?_;(conv=>whnf);intro b2;(conv=>whnf);intro b3;(conv=>whnf);refine ⟨rfl,?_⟩
 refine RW.call rfl (laws_toSessionS_fn a.sessions hs.1.1 hs.1.2) rfl (.cons (.one (.r .r)) (.nil)) fun g4 => ?_
 refine RW.g XK 13 [.o 2,.e [1,2,3,6]] rfl rfl rfl ?_
 refine RW.pullT (k := 3) (l := 6) (j := 0) 3 6 0 rfl rfl rfl (by decide) rfl rfl rfl ?_
 refine RW.g XK 13 [.e [1,2,3],.p,.e [1,2,3],.o 2] rfl rfl rfl ?_
 refine RW.call rfl (laws_toItemS_fn a.items hs.2.1 hs.2.2) rfl (.cons (.one (.r .r)) (.nil)) fun g5 => ?_
 refine RW.g XK 13 [.o 2,.e [2,3,10]] rfl rfl rfl ?_
 refine RW.pullT (k := 3) (l := 10) (j := 1) 3 10 1 rfl rfl rfl (by decide) rfl rfl rfl ?_
 refine RW.g XK 13 [.e [2,3],.p,.e [2,3],.o 2,.e [2,3]] rfl rfl rfl ?_
 refine RW.pullO (k := 2) (l := 3) (j := 0) 2 3 0 rfl rfl rfl (by decide) rfl rfl rfl rfl ?_
 refine RW.g XK 13 [.e [2,3]] rfl rfl rfl ?_
 refine RW.pullO (k := 2) (l := 3) (j := 1) 2 3 1 rfl rfl rfl (by decide) rfl rfl rfl rfl ?_
 refine RW.g XK 13 [.e [2],.p,.e [2]] rfl rfl rfl ?_
 refine CW.ret ?_
 exact Post.one (RV.c (f := fun e => (Keep.c e).map .w) (e' := a) rfl rfl rfl rfl (DT.w (DT.w DT.e)) (by simp_all)) (AOs.a rfl AOs.e)
set_option maxHeartbeats 4000000 in
theorem laws_toServer_fn (a : Server) (hs : okToServer a) : Eng.Fn E.P 72 [.agg ((Server.c a).map .r)] (.one (.agg ((Server.c a).map .w))) [.agg ((Server.c a).map .r)] := by
 refine Eng.Fn.intro (E := E) (rvs := [.cell 2 105]) Tryz.func72 rfl rfl rfl (by simp [outSlots, moved, rvSlot, sl]) ?_
 intro B g bo
 refine CW.h XK 33 [.e [0],.o 1] rfl ?_;(conv=>whnf);intro b1;(conv=>whnf);refine ⟨rfl,?_⟩
 refine RW.freezeB (ts := (Server.c a)) 1 rfl (DRd.r (DRd.r (DRd.r (DRd.r (DRd.r (DRd.r (DRd.r (DRd.r (DRd.r (DRd.r (DRd.r (DRd.r (DRd.r (DRd.r (DRd.r (DRd.r (DRd.r (DRd.r (DRd.r (DRd.r (DRd.r (DRd.r (DRd.r (DRd.r (DRd.r (DRd.r (DRd.r DRd.e))))))))))))))))))))))))))) ?_
 refine RW.h XK 33 [.o 1,.p,.e [1,2],.n 1,.e [1,2,3],.o 2] rfl ?_;(conv=>whnf);intro b2;(conv=>whnf);intro b3;(conv=>whnf);refine ⟨rfl,?_⟩
 refine RW.call rfl (laws_toNode_fn a.node hs.1) rfl (.cons (.agg (.cons (.r .r) (.cons (.r .r) (.cons (.r .r) (.cons (.r .r) (.cons (.r .r) (.cons (.r .r) (.cons (.r .r) (.cons (.r .r) (.cons (.r .r) (.cons (.r .r) (.cons (.r .r) (.cons (.r .r) (.cons (.r .r) (.cons (.r .r) (.nil)))))))))))))))) (.nil)) fun g4 => ?_
 refine RW.g XK 33 [.o 2,.e [1,2,3,6]] rfl rfl rfl ?_
 refine RW.pullA (k := 3) (l := 6) (j := 5) 3 6 5 rfl rfl rfl (by decide) rfl rfl rfl rfl ?_
 refine RW.g XK 33 [.e [1,2,3,6]] rfl rfl rfl ?_
 refine RW.pullA (k := 3) (l := 6) (j := 8) 3 6 8 rfl rfl rfl (by decide) rfl rfl rfl rfl ?_
 refine RW.g XK 33 [.e [1,2,3,6]] rfl rfl rfl ?_
 refine RW.pullA (k := 3) (l := 6) (j := 12) 3 6 12 rfl rfl rfl (by decide) rfl rfl rfl rfl ?_
 refine RW.g XK 33 [.e [1,2,3,6]] rfl rfl rfl ?_
 refine RW.pullA (k := 3) (l := 6) (j := 13) 3 6 13 rfl rfl rfl (by decide) rfl rfl rfl rfl ?_
 refine RW.g XK 33 [.e [1,2,3],.p,.e [1,2,3],.o 2] rfl rfl rfl ?_
 refine RW.call rfl (laws_toDisk_fn a.disk hs.2.1) rfl (.cons (.agg (.cons (.r .r) (.nil))) (.nil)) fun g5 => ?_
 refine RW.g XK 33 [.o 2,.e [1,2,3,10]] rfl rfl rfl ?_
 refine RW.pullA (k := 3) (l := 10) (j := 14) 3 10 14 rfl rfl rfl (by decide) rfl rfl rfl rfl ?_
 refine RW.g XK 33 [.e [1,2,3],.p,.e [1,2,3],.o 2] rfl rfl rfl ?_
 refine RW.call rfl (laws_toJournal_fn a.journal hs.2.2.1) rfl (.cons (.agg (.cons (.r .r) (.cons (.r .r) (.cons (.r .r) (.cons (.r .r) (.cons (.r .r) (.cons (.r .r) (.nil)))))))) (.nil)) fun g6 => ?_
 refine RW.g XK 33 [.o 2,.e [1,2,3,14]] rfl rfl rfl ?_
 refine RW.pullA (k := 3) (l := 14) (j := 20) 3 14 20 rfl rfl rfl (by decide) rfl rfl rfl rfl ?_
 refine RW.g XK 33 [.e [1,2,3],.p,.e [1,2,3],.o 2] rfl rfl rfl ?_
 refine RW.call rfl (laws_toKeep_fn a.keep hs.2.2.2.1) rfl (.cons (.agg (.cons (.r .r) (.cons (.r .r) (.nil)))) (.nil)) fun g7 => ?_
 refine RW.g XK 33 [.o 2,.e [1,2,3,18]] rfl rfl rfl ?_
 refine RW.pullA (k := 3) (l := 18) (j := 21) 3 18 21 rfl rfl rfl (by decide) rfl rfl rfl rfl ?_
 refine RW.g XK 33 [.e [1,2,3,18]] rfl rfl rfl ?_
 refine RW.pullA (k := 3) (l := 18) (j := 22) 3 18 22 rfl rfl rfl (by decide) rfl rfl rfl rfl ?_
 refine RW.g XK 33 [.e [1,2,3],.p,.e [1,2,3],.n 4,.e [2,3],.o 2,.e [2,3]] rfl rfl rfl ?_
 refine RW.pullO (k := 2) (l := 3) (j := 5) 2 3 5 rfl rfl rfl (by decide) rfl rfl rfl rfl ?_
 refine RW.g XK 33 [.e [2,3]] rfl rfl rfl ?_
 refine RW.pullO (k := 2) (l := 3) (j := 8) 2 3 8 rfl rfl rfl (by decide) rfl rfl rfl rfl ?_
 refine RW.g XK 33 [.e [2,3]] rfl rfl rfl ?_
 refine RW.pullO (k := 2) (l := 3) (j := 12) 2 3 12 rfl rfl rfl (by decide) rfl rfl rfl rfl ?_
 refine RW.g XK 33 [.e [2,3]] rfl rfl rfl ?_
 refine RW.pullO (k := 2) (l := 3) (j := 13) 2 3 13 rfl rfl rfl (by decide) rfl rfl rfl rfl ?_
 refine RW.g XK 33 [.e [2,3]] rfl rfl rfl ?_
 refine RW.pullO (k := 2) (l := 3) (j := 14) 2 3 14 rfl rfl rfl (by decide) rfl rfl rfl rfl ?_
 refine RW.g XK 33 [.e [2,3]] rfl rfl rfl ?_
 refine RW.pullO (k := 2) (l := 3) (j := 20) 2 3 20 rfl rfl rfl (by decide) rfl rfl rfl rfl ?_
 refine RW.g XK 33 [.e [2,3]] rfl rfl rfl ?_
 refine RW.pullO (k := 2) (l := 3) (j := 21) 2 3 21 rfl rfl rfl (by decide) rfl rfl rfl rfl ?_
 refine RW.g XK 33 [.e [2,3]] rfl rfl rfl ?_
 refine RW.pullO (k := 2) (l := 3) (j := 22) 2 3 22 rfl rfl rfl (by decide) rfl rfl rfl rfl ?_
 refine RW.g XK 33 [.e [2],.p,.e [2]] rfl rfl rfl ?_
 refine CW.ret ?_
 exact Post.one (RV.c (f := fun e => (Server.c e).map .w) (e' := a) rfl rfl rfl rfl (DT.v (DT.v (DT.v (DT.v (DT.v (DT.w (DT.v (DT.v (DT.w (DT.v (DT.v (DT.v (DT.w (DT.w (DT.w (DT.v (DT.v (DT.v (DT.v (DT.v (DT.w (DT.w (DT.w (DT.v (DT.v (DT.v (DT.v DT.e))))))))))))))))))))))))))) (by simp_all)) (AOs.a rfl AOs.e)
set_option maxHeartbeats 4000000 in
theorem laws_toServerS_fn (a : List Server) (hm : a.length ≤ 1048576) (hs : ∀ x ∈ a, okToServer x) : Eng.Fn E.P 29 [.one (.r (sl 27 Server.c a))] (.one (.one (.w (sl 27 Server.c a)))) [.one (.r (sl 27 Server.c a))] := by
 refine Eng.Fn.intro (E := E) (rvs := [.tmp 2]) Tryz.func29 rfl rfl rfl (by simp [outSlots, moved, rvSlot, sl]) ?_
 intro B g bo
 refine CW.bound (x := .tmp 0) (n := a.length) (AsT.r) (fun hl0 => ?_)
 refine CW.g XK 23 [.e [0],.n 1,.e [0],.o 2] rfl rfl rfl ?_
 refine RW.makeS (n := a.length) (c := Server.c) Server.z rfl rfl rfl rfl rfl rfl rfl rfl (ZT.v (ZT.v (ZT.v (ZT.v (ZT.v (ZT.n (ZT.v (ZT.v (ZT.n (ZT.v (ZT.v (ZT.v (ZT.n (ZT.n (ZT.n (ZT.v (ZT.v (ZT.v (ZT.v (ZT.v (ZT.n (ZT.n (ZT.n (ZT.v (ZT.v (ZT.v (ZT.v ZT.e))))))))))))))))))))))))))) (by show 352 * a.length ≤ 281474976710656; omega) (by simp only [maxLen]; omega) fun X1 => ?_
 refine RW.assignMove rfl rfl rfl (by decide) (Nat.le_of_ble_eq_true rfl) (Nat.le_of_ble_eq_true rfl) ?_
 refine RW.g XK 23 [.p,.e [0,3],.n 1,.e [0,3,4],.p] rfl rfl rfl ?_
 refine CW.loopI 23 (fun (i : Nat) => [(0, .r (sl 27 Server.c a)), (3, .w (sl 27 Server.c (a.take i ++ List.replicate (a.length - i) Server.z)) X1), (4, I (i : Int))]) (fun (i : Nat) => i ≤ a.length) (fun (i : Nat) => a.length - i) 0 rfl (Le.c rfl <| Le.c rfl <| Le.c rfl <| Le.e) (by omega) ?_
 rintro i hb
 refine CW.g XK 23 [.n 1,.e [0,3,4,11]] rfl rfl rfl ?_
 refine CW.cond rfl (fun h2 => ?_) (fun h2 => ?_)
 have hii : i < a.length := by have := h2; simp at this; first | exact this | omega | (simp; done) | (simp; omega)
 obtain ⟨ei, hei⟩ : ∃ e, a[i]? = some e := ⟨_, List.getElem?_eq_getElem hii⟩
 have hdi := drop_get hei
 refine CW.g XK 23 [.p,.e [0,3,4],.o 4] rfl rfl rfl ?_
 refine RW.v rfl (V.indexS rfl rfl rfl rfl rfl rfl Server.len hei) ?_
 refine RW.g XK 23 [.o 1] rfl rfl rfl ?_
 refine RW.call rfl (laws_toServer_fn ei (hs ei (List.mem_of_getElem? hei))) rfl (.cons (.agg (.cons (.r .r) (.cons (.r .r) (.cons (.r .r) (.cons (.r .r) (.cons (.r .r) (.cons (.r .r) (.cons (.r .r) (.cons (.r .r) (.cons (.r .r) (.cons (.r .r) (.cons (.r .r) (.cons (.r .r) (.cons (.r .r) (.cons (.r .r) (.cons (.r .r) (.cons (.r .r) (.cons (.r .r) (.cons (.r .r) (.cons (.r .r) (.cons (.r .r) (.cons (.r .r) (.cons (.r .r) (.cons (.r .r) (.cons (.r .r) (.cons (.r .r) (.cons (.r .r) (.cons (.r .r) (.nil))))))))))))))))))))))))))))) (.nil)) fun g3 => ?_
 refine RW.v rfl (V.indexW rfl rfl rfl rfl rfl rfl rfl (by simp; omega)) ?_
 refine RW.storeSM (v := ei) rfl rfl rfl rfl (by decide) rfl rfl rfl (DW.v (DW.v (DW.v (DW.v (DW.v (DW.w (DW.v (DW.v (DW.w (DW.v (DW.v (DW.v (DW.w (DW.w (DW.w (DW.v (DW.v (DW.v (DW.v (DW.v (DW.w (DW.w (DW.w (DW.v (DW.v (DW.v (DW.v DW.e))))))))))))))))))))))))))) Server.len (by decide) (by simp; omega) rfl ?_
 refine RW.g XK 23 [.p,.e [0,3,4],.o 1] rfl rfl rfl ?_
 refine RW.v rfl (V.inc rfl rfl rfl hii hl0) ?_
 refine RW.g XK 23 [.o 1,.p] rfl rfl rfl ?_
 exact ⟨i + 1, by omega, by omega, rfl, Le.c rfl <| Le.c (congrArg (fun l => D.w (sl _ Server.c l) X1) (take_set hei)) <| Le.c rfl <| Le.e⟩
 have hii : a.length ≤ i := by have := h2; simp at this; first | exact this | omega | (simp; done) | (simp; omega)
 have hdi : a.drop i = [] := List.drop_eq_nil_of_le hii
 refine CW.exit ?_
 refine CW.g XK 23 [.e [3],.o 2] rfl rfl rfl ?_
 refine RW.pullS 2 3 (by decide) rfl rfl ?_
 refine RW.g XK 23 [.p,.e [2]] rfl rfl rfl ?_
 refine CW.ret ?_
 exact Post.one (RV.w rfl q14) (AOs.r AOs.e)
set_option maxHeartbeats 4000000 in
theorem laws_toMessage_fn (a : Message) (hs : okToMessage a) : Eng.Fn E.P 73 [.agg ((Message.c a).map .r)] (.one (.agg ((Message.c a).map .w))) [.agg ((Message.c a).map .r)] := by
 refine Eng.Fn.intro (E := E) (rvs := [.cell 2 162]) Tryz.func73 rfl rfl rfl (by simp [outSlots, moved, rvSlot, sl]) ?_
 intro B g bo
 refine CW.h XK 43 [.e [0],.o 1] rfl ?_;(conv=>whnf);intro b1;(conv=>whnf);refine ⟨rfl,?_⟩
 refine RW.freezeB (ts := (Message.c a)) 1 rfl (DRd.r (DRd.r (DRd.r (DRd.r (DRd.r (DRd.r (DRd.r (DRd.r (DRd.r (DRd.r (DRd.r (DRd.r DRd.e)))))))))))) ?_
 refine RW.h XK 43 [.o 1,.p,.e [1,2],.n 9,.e [1,2,3],.o 2] rfl ?_;(conv=>whnf);intro b2;(conv=>whnf);intro b3;(conv=>whnf);refine ⟨rfl,?_⟩
 refine RW.call rfl (laws_toEntryS_fn a.entries hs.1.1 hs.1.2) rfl (.cons (.one (.r .r)) (.nil)) fun g4 => ?_
 refine RW.g XK 43 [.o 2,.e [1,2,3,30]] rfl rfl rfl ?_
 refine RW.pullT (k := 3) (l := 30) (j := 8) 3 30 8 rfl rfl rfl (by decide) rfl rfl rfl ?_
 refine RW.g XK 43 [.e [1,2,3],.p,.e [1,2,3],.o 2] rfl rfl rfl ?_
 refine RW.call rfl (laws_toIntS_fn a.conf hs.2.1.1) rfl (.cons (.one (.r .r)) (.nil)) fun g5 => ?_
 refine RW.g XK 43 [.o 2,.e [1,2,3,34]] rfl rfl rfl ?_
 refine RW.pullT (k := 3) (l := 34) (j := 9) 3 34 9 rfl rfl rfl (by decide) rfl rfl rfl ?_
 refine RW.g XK 43 [.e [1,2,3],.p,.e [1,2,3],.n 2,.e [2,3],.o 2,.e [2,3]] rfl rfl rfl ?_
 refine RW.pullO (k := 2) (l := 3) (j := 8) 2 3 8 rfl rfl rfl (by decide) rfl rfl rfl rfl ?_
 refine RW.g XK 43 [.e [2,3]] rfl rfl rfl ?_
 refine RW.pullO (k := 2) (l := 3) (j := 9) 2 3 9 rfl rfl rfl (by decide) rfl rfl rfl rfl ?_
 refine RW.g XK 43 [.e [2],.p,.e [2]] rfl rfl rfl ?_
 refine CW.ret ?_
 exact Post.one (RV.c (f := fun e => (Message.c e).map .w) (e' := a) rfl rfl rfl rfl (DT.v (DT.v (DT.v (DT.v (DT.v (DT.v (DT.v (DT.v (DT.w (DT.w (DT.v (DT.v DT.e)))))))))))) (by simp_all)) (AOs.a rfl AOs.e)
set_option maxHeartbeats 4000000 in
theorem laws_toMessageS_fn (a : List Message) (hm : a.length ≤ 1048576) (hs : ∀ x ∈ a, okToMessage x) : Eng.Fn E.P 30 [.one (.r (sl 12 Message.c a))] (.one (.one (.w (sl 12 Message.c a)))) [.one (.r (sl 12 Message.c a))] := by
 refine Eng.Fn.intro (E := E) (rvs := [.tmp 2]) Tryz.func30 rfl rfl rfl (by simp [outSlots, moved, rvSlot, sl]) ?_
 intro B g bo
 refine CW.bound (x := .tmp 0) (n := a.length) (AsT.r) (fun hl0 => ?_)
 refine CW.g XK 23 [.e [0],.n 1,.e [0],.o 2] rfl rfl rfl ?_
 refine RW.makeS (n := a.length) (c := Message.c) Message.z rfl rfl rfl rfl rfl rfl rfl rfl (ZT.v (ZT.v (ZT.v (ZT.v (ZT.v (ZT.v (ZT.v (ZT.v (ZT.n (ZT.n (ZT.v (ZT.v ZT.e)))))))))))) (by show 136 * a.length ≤ 281474976710656; omega) (by simp only [maxLen]; omega) fun X1 => ?_
 refine RW.assignMove rfl rfl rfl (by decide) (Nat.le_of_ble_eq_true rfl) (Nat.le_of_ble_eq_true rfl) ?_
 refine RW.g XK 23 [.p,.e [0,3],.n 1,.e [0,3,4],.p] rfl rfl rfl ?_
 refine CW.loopI 23 (fun (i : Nat) => [(0, .r (sl 12 Message.c a)), (3, .w (sl 12 Message.c (a.take i ++ List.replicate (a.length - i) Message.z)) X1), (4, I (i : Int))]) (fun (i : Nat) => i ≤ a.length) (fun (i : Nat) => a.length - i) 0 rfl (Le.c rfl <| Le.c rfl <| Le.c rfl <| Le.e) (by omega) ?_
 rintro i hb
 refine CW.g XK 23 [.n 1,.e [0,3,4,11]] rfl rfl rfl ?_
 refine CW.cond rfl (fun h2 => ?_) (fun h2 => ?_)
 have hii : i < a.length := by have := h2; simp at this; first | exact this | omega | (simp; done) | (simp; omega)
 obtain ⟨ei, hei⟩ : ∃ e, a[i]? = some e := ⟨_, List.getElem?_eq_getElem hii⟩
 have hdi := drop_get hei
 refine CW.g XK 23 [.p,.e [0,3,4],.o 4] rfl rfl rfl ?_
 refine RW.v rfl (V.indexS rfl rfl rfl rfl rfl rfl Message.len hei) ?_
 refine RW.g XK 23 [.o 1] rfl rfl rfl ?_
 refine RW.call rfl (laws_toMessage_fn ei (hs ei (List.mem_of_getElem? hei))) rfl (.cons (.agg (.cons (.r .r) (.cons (.r .r) (.cons (.r .r) (.cons (.r .r) (.cons (.r .r) (.cons (.r .r) (.cons (.r .r) (.cons (.r .r) (.cons (.r .r) (.cons (.r .r) (.cons (.r .r) (.cons (.r .r) (.nil)))))))))))))) (.nil)) fun g3 => ?_
 refine RW.v rfl (V.indexW rfl rfl rfl rfl rfl rfl rfl (by simp; omega)) ?_
 refine RW.storeSM (v := ei) rfl rfl rfl rfl (by decide) rfl rfl rfl (DW.v (DW.v (DW.v (DW.v (DW.v (DW.v (DW.v (DW.v (DW.w (DW.w (DW.v (DW.v DW.e)))))))))))) Message.len (by decide) (by simp; omega) rfl ?_
 refine RW.g XK 23 [.p,.e [0,3,4],.o 1] rfl rfl rfl ?_
 refine RW.v rfl (V.inc rfl rfl rfl hii hl0) ?_
 refine RW.g XK 23 [.o 1,.p] rfl rfl rfl ?_
 exact ⟨i + 1, by omega, by omega, rfl, Le.c rfl <| Le.c (congrArg (fun l => D.w (sl _ Message.c l) X1) (take_set hei)) <| Le.c rfl <| Le.e⟩
 have hii : a.length ≤ i := by have := h2; simp at this; first | exact this | omega | (simp; done) | (simp; omega)
 have hdi : a.drop i = [] := List.drop_eq_nil_of_le hii
 refine CW.exit ?_
 refine CW.g XK 23 [.e [3],.o 2] rfl rfl rfl ?_
 refine RW.pullS 2 3 (by decide) rfl rfl ?_
 refine RW.g XK 23 [.p,.e [2]] rfl rfl rfl ?_
 refine CW.ret ?_
 exact Post.one (RV.w rfl q14) (AOs.r AOs.e)
set_option maxHeartbeats 4000000 in
theorem laws_toWait_fn (a : Wait) : Eng.Fn E.P 74 [.agg ((Wait.c a).map .r)] (.one (.agg ((Wait.c a).map .w))) [.agg ((Wait.c a).map .r)] := by
 refine Eng.Fn.intro (E := E) (rvs := [.cell 2 165]) Tryz.func74 rfl rfl rfl (by simp [outSlots, moved, rvSlot, sl]) ?_
 intro B g bo
 refine CW.h XK 17 [.e [0],.o 1] rfl ?_;(conv=>whnf);intro b1;(conv=>whnf);refine ⟨rfl,?_⟩
 refine RW.freezeB (ts := (Wait.c a)) 1 rfl (DRd.r (DRd.r (DRd.r (DRd.r DRd.e)))) ?_
 refine RW.h XK 17 [.o 1,.p,.e [1,2],.n 6,.e [2]] rfl ?_;(conv=>whnf);intro b2;(conv=>whnf);intro b3;(conv=>whnf);refine ⟨rfl,?_⟩
 refine CW.ret ?_
 exact Post.one (RV.c (f := fun e => (Wait.c e).map .w) (e' := a) rfl rfl rfl rfl (DT.v (DT.v (DT.v (DT.v DT.e)))) (by simp_all)) (AOs.a rfl AOs.e)
set_option maxHeartbeats 4000000 in
theorem laws_toWaitS_fn (a : List Wait) (hm : a.length ≤ 1048576) : Eng.Fn E.P 31 [.one (.r (sl 4 Wait.c a))] (.one (.one (.w (sl 4 Wait.c a)))) [.one (.r (sl 4 Wait.c a))] := by
 refine Eng.Fn.intro (E := E) (rvs := [.tmp 2]) Tryz.func31 rfl rfl rfl (by simp [outSlots, moved, rvSlot, sl]) ?_
 intro B g bo
 refine CW.bound (x := .tmp 0) (n := a.length) (AsT.r) (fun hl0 => ?_)
 refine CW.g XK 23 [.e [0],.n 1,.e [0],.o 2] rfl rfl rfl ?_
 refine RW.makeS (n := a.length) (c := Wait.c) Wait.z rfl rfl rfl rfl rfl rfl rfl rfl (ZT.v (ZT.v (ZT.v (ZT.v ZT.e)))) q41 (by simp only [maxLen]; omega) fun X1 => ?_
 refine RW.assignMove rfl rfl rfl (by decide) (Nat.le_of_ble_eq_true rfl) (Nat.le_of_ble_eq_true rfl) ?_
 refine RW.g XK 23 [.p,.e [0,3],.n 1,.e [0,3,4],.p] rfl rfl rfl ?_
 refine CW.loopI 23 (fun (i : Nat) => [(0, .r (sl 4 Wait.c a)), (3, .w (sl 4 Wait.c (a.take i ++ List.replicate (a.length - i) Wait.z)) X1), (4, I (i : Int))]) (fun (i : Nat) => i ≤ a.length) (fun (i : Nat) => a.length - i) 0 rfl (Le.c rfl <| Le.c rfl <| Le.c rfl <| Le.e) (by omega) ?_
 rintro i hb
 refine CW.g XK 23 [.n 1,.e [0,3,4,11]] rfl rfl rfl ?_
 refine CW.cond rfl (fun h2 => ?_) (fun h2 => ?_)
 have hii : i < a.length := by have := h2; simp at this; first | exact this | omega | (simp; done) | (simp; omega)
 obtain ⟨ei, hei⟩ : ∃ e, a[i]? = some e := ⟨_, List.getElem?_eq_getElem hii⟩
 have hdi := drop_get hei
 refine CW.g XK 23 [.p,.e [0,3,4],.o 4] rfl rfl rfl ?_
 refine RW.v rfl (V.indexS rfl rfl rfl rfl rfl rfl Wait.len hei) ?_
 refine RW.g XK 23 [.o 1] rfl rfl rfl ?_
 refine RW.call rfl (laws_toWait_fn ei) rfl (.cons (.agg (.cons (.r .r) (.cons (.r .r) (.cons (.r .r) (.cons (.r .r) (.nil)))))) (.nil)) fun g3 => ?_
 refine RW.v rfl (V.indexW rfl rfl rfl rfl rfl rfl rfl (by simp; omega)) ?_
 refine RW.storeS (v := ei) rfl rfl rfl rfl rfl rfl rfl (DW.v (DW.v (DW.v (DW.v DW.e)))) Wait.len (by decide) (by simp; omega) rfl ?_
 refine RW.g XK 23 [.p,.e [0,3,4],.o 1] rfl rfl rfl ?_
 refine RW.v rfl (V.inc rfl rfl rfl hii hl0) ?_
 refine RW.g XK 23 [.o 1,.p] rfl rfl rfl ?_
 exact ⟨i + 1, by omega, by omega, rfl, Le.c rfl <| Le.c (congrArg (fun l => D.w (sl _ Wait.c l) X1) (take_set hei)) <| Le.c rfl <| Le.e⟩
 have hii : a.length ≤ i := by have := h2; simp at this; first | exact this | omega | (simp; done) | (simp; omega)
 have hdi : a.drop i = [] := List.drop_eq_nil_of_le hii
 refine CW.exit ?_
 refine CW.g XK 23 [.e [3],.o 2] rfl rfl rfl ?_
 refine RW.pullS 2 3 (by decide) rfl rfl ?_
 refine RW.g XK 23 [.p,.e [2]] rfl rfl rfl ?_
 refine CW.ret ?_
 exact Post.one (RV.w rfl q14) (AOs.r AOs.e)
set_option maxHeartbeats 4000000 in
theorem laws_toLeader_fn (a : Leader) (hs : okToLeader a) : Eng.Fn E.P 75 [.agg ((Leader.c a).map .r)] (.one (.agg ((Leader.c a).map .w))) [.agg ((Leader.c a).map .r)] := by
 refine Eng.Fn.intro (E := E) (rvs := [.cell 2 169]) Tryz.func75 rfl rfl rfl (by simp [outSlots, moved, rvSlot, sl]) ?_
 intro B g bo
 refine CW.h XK 15 [.e [0],.o 1] rfl ?_;(conv=>whnf);intro b1;(conv=>whnf);refine ⟨rfl,?_⟩
 refine RW.freezeB (ts := (Leader.c a)) 1 rfl (DRd.r (DRd.r (DRd.r (DRd.r (DRd.r DRd.e))))) ?_
 refine RW.h XK 15 [.o 1,.p,.e [1,2],.n 3,.e [1,2,3],.o 2] rfl ?_;(conv=>whnf);intro b2;(conv=>whnf);intro b3;(conv=>whnf);refine ⟨rfl,?_⟩
 refine RW.call rfl (laws_toLog_fn a.log hs) rfl (.cons (.agg (.cons (.r .r) (.cons (.r .r) (.cons (.r .r) (.nil))))) (.nil)) fun g4 => ?_
 refine RW.g XK 15 [.o 2,.e [2,3,12]] rfl rfl rfl ?_
 refine RW.pullA (k := 3) (l := 12) (j := 4) 3 12 4 rfl rfl rfl (by decide) rfl rfl rfl rfl ?_
 refine RW.g XK 15 [.e [2,3],.p,.e [2,3],.o 2,.e [2,3]] rfl rfl rfl ?_
 refine RW.pullO (k := 2) (l := 3) (j := 4) 2 3 4 rfl rfl rfl (by decide) rfl rfl rfl rfl ?_
 refine RW.g XK 15 [.e [2],.p,.e [2]] rfl rfl rfl ?_
 refine CW.ret ?_
 exact Post.one (RV.c (f := fun e => (Leader.c e).map .w) (e' := a) rfl rfl rfl rfl (DT.v (DT.v (DT.v (DT.v (DT.w DT.e))))) (by simp_all)) (AOs.a rfl AOs.e)
set_option maxHeartbeats 4000000 in
theorem laws_toLeaderS_fn (a : List Leader) (hm : a.length ≤ 1048576) (hs : ∀ x ∈ a, okToLeader x) : Eng.Fn E.P 32 [.one (.r (sl 5 Leader.c a))] (.one (.one (.w (sl 5 Leader.c a)))) [.one (.r (sl 5 Leader.c a))] := by
 refine Eng.Fn.intro (E := E) (rvs := [.tmp 2]) Tryz.func32 rfl rfl rfl (by simp [outSlots, moved, rvSlot, sl]) ?_
 intro B g bo
 refine CW.bound (x := .tmp 0) (n := a.length) (AsT.r) (fun hl0 => ?_)
 refine CW.g XK 23 [.e [0],.n 1,.e [0],.o 2] rfl rfl rfl ?_
 refine RW.makeS (n := a.length) (c := Leader.c) Leader.z rfl rfl rfl rfl rfl rfl rfl rfl (ZT.v (ZT.v (ZT.v (ZT.v (ZT.n ZT.e))))) (by show 56 * a.length ≤ 281474976710656; omega) (by simp only [maxLen]; omega) fun X1 => ?_
 refine RW.assignMove rfl rfl rfl (by decide) (Nat.le_of_ble_eq_true rfl) (Nat.le_of_ble_eq_true rfl) ?_
 refine RW.g XK 23 [.p,.e [0,3],.n 1,.e [0,3,4],.p] rfl rfl rfl ?_
 refine CW.loopI 23 (fun (i : Nat) => [(0, .r (sl 5 Leader.c a)), (3, .w (sl 5 Leader.c (a.take i ++ List.replicate (a.length - i) Leader.z)) X1), (4, I (i : Int))]) (fun (i : Nat) => i ≤ a.length) (fun (i : Nat) => a.length - i) 0 rfl (Le.c rfl <| Le.c rfl <| Le.c rfl <| Le.e) (by omega) ?_
 rintro i hb
 refine CW.g XK 23 [.n 1,.e [0,3,4,11]] rfl rfl rfl ?_
 refine CW.cond rfl (fun h2 => ?_) (fun h2 => ?_)
 have hii : i < a.length := by have := h2; simp at this; first | exact this | omega | (simp; done) | (simp; omega)
 obtain ⟨ei, hei⟩ : ∃ e, a[i]? = some e := ⟨_, List.getElem?_eq_getElem hii⟩
 have hdi := drop_get hei
 refine CW.g XK 23 [.p,.e [0,3,4],.o 4] rfl rfl rfl ?_
 refine RW.v rfl (V.indexS rfl rfl rfl rfl rfl rfl Leader.len hei) ?_
 refine RW.g XK 23 [.o 1] rfl rfl rfl ?_
 refine RW.call rfl (laws_toLeader_fn ei (hs ei (List.mem_of_getElem? hei))) rfl (.cons (.agg (.cons (.r .r) (.cons (.r .r) (.cons (.r .r) (.cons (.r .r) (.cons (.r .r) (.nil))))))) (.nil)) fun g3 => ?_
 refine RW.v rfl (V.indexW rfl rfl rfl rfl rfl rfl rfl (by simp; omega)) ?_
 refine RW.storeSM (v := ei) rfl rfl rfl rfl (by decide) rfl rfl rfl (DW.v (DW.v (DW.v (DW.v (DW.w DW.e))))) Leader.len (by decide) (by simp; omega) rfl ?_
 refine RW.g XK 23 [.p,.e [0,3,4],.o 1] rfl rfl rfl ?_
 refine RW.v rfl (V.inc rfl rfl rfl hii hl0) ?_
 refine RW.g XK 23 [.o 1,.p] rfl rfl rfl ?_
 exact ⟨i + 1, by omega, by omega, rfl, Le.c rfl <| Le.c (congrArg (fun l => D.w (sl _ Leader.c l) X1) (take_set hei)) <| Le.c rfl <| Le.e⟩
 have hii : a.length ≤ i := by have := h2; simp at this; first | exact this | omega | (simp; done) | (simp; omega)
 have hdi : a.drop i = [] := List.drop_eq_nil_of_le hii
 refine CW.exit ?_
 refine CW.g XK 23 [.e [3],.o 2] rfl rfl rfl ?_
 refine RW.pullS 2 3 (by decide) rfl rfl ?_
 refine RW.g XK 23 [.p,.e [2]] rfl rfl rfl ?_
 refine CW.ret ?_
 exact Post.one (RV.w rfl q14) (AOs.r AOs.e)
set_option maxHeartbeats 4000000 in
theorem laws_toApplied_fn (a : Applied) (hs : okToApplied a) : Eng.Fn E.P 76 [.agg ((Applied.c a).map .r)] (.one (.agg ((Applied.c a).map .w))) [.agg ((Applied.c a).map .r)] := by
 refine Eng.Fn.intro (E := E) (rvs := [.cell 2 143]) Tryz.func76 rfl rfl rfl (by simp [outSlots, moved, rvSlot, sl]) ?_
 intro B g bo
 refine CW.h XK 18 [.e [0],.o 1] rfl ?_;(conv=>whnf);intro b1;(conv=>whnf);refine ⟨rfl,?_⟩
 refine RW.freezeB (ts := (Applied.c a)) 1 rfl (DRd.r (DRd.r (DRd.r (DRd.r (DRd.r (DRd.r DRd.e)))))) ?_
 refine RW.h XK 18 [.o 1,.p,.e [1,2],.n 4,.e [1,2,3],.o 2] rfl ?_;(conv=>whnf);intro b2;(conv=>whnf);intro b3;(conv=>whnf);refine ⟨rfl,?_⟩
 refine RW.call rfl (laws_toEntry_fn a.entry hs) rfl (.cons (.agg (.cons (.r .r) (.cons (.r .r) (.cons (.r .r) (.nil))))) (.nil)) fun g4 => ?_
 refine RW.g XK 18 [.o 2,.p,.e [2,3],.n 1,.e [2]] rfl rfl rfl ?_
 refine CW.ret ?_
 exact Post.one (RV.c (f := fun e => (Applied.c e).map .w) (e' := a) rfl rfl rfl rfl (DT.v (DT.v (DT.v (DT.v (DT.v (DT.v DT.e)))))) (by simp_all)) (AOs.a rfl AOs.e)
end Go.Proofs.YtdipdkfbaehglaaGreatDoor.Y
