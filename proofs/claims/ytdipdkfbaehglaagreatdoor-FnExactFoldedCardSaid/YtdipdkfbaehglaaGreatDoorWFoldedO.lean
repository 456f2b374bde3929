import Derived.Test.YtdipdkfbaehglaaGreatDoorWFoldedN
namespace Go.Proofs.YtdipdkfbaehglaaGreatDoor.Y
open Go Go.RowKit Go.Eng Go.Proofs
set_option maxRecDepth 10000
set_option maxHeartbeats 4000000 in
theorem laws_eqPeerS_fn (a : List Peer) (b : List Peer) : Eng.Fn E.P 151 [.one (.r (sl 4 Peer.c a)), .one (.r (sl 4 Peer.c b))] (.one (.one (.w (.v (.bool (eqS eqPeer a b)))))) [.one (.r (sl 4 Peer.c a)), .one (.r (sl 4 Peer.c b))] := by
 refine Eng.Fn.intro (E := E) (rvs := [.tmp 4]) Tryz.func151 rfl rfl rfl (by simp [outSlots, moved, rvSlot, sl]) ?_
 intro B g bo
 refine CW.bound (x := .tmp 0) (n := a.length) (AsT.r) (fun hl0 => ?_)
 refine CW.bound (x := .tmp 1) (n := b.length) (AsT.r) (fun hl1 => ?_)
 refine CW.g XK 27 [.e [0,1],.n 1,.e [0,1],.n 1,.e [0,1,10]] rfl rfl rfl ?_
 refine CW.cond rfl (fun h1 => ?_) (fun h1 => ?_)
 refine CW.g XK 27 [.n 1,.e [4]] rfl rfl rfl ?_
 refine CW.ret ?_
 exact Post.one (RV.b rfl q7) (AOs.r (AOs.r AOs.e))
 refine CW.g XK 27 [.p,.e [0,1],.n 1,.e [0,1,5],.p] rfl rfl rfl ?_
 refine CW.loopI 27 (fun (i : Nat) => [(0, .r (sl 4 Peer.c a)), (1, .r (sl 4 Peer.c b)), (5, I (i : Int))]) (fun (i : Nat) => i ≤ a.length ∧ eqS eqPeer (a.drop i) (b.drop i) = eqS eqPeer a b) (fun (i : Nat) => a.length - i) 0 rfl (Le.c rfl <| Le.c rfl <| Le.c rfl <| Le.e) ⟨by omega, by simp⟩ ?_
 rintro i ⟨hb, hr⟩
 have hlen : a.length = b.length := by simp at h1; omega
 refine CW.g XK 27 [.n 1,.e [0,1,5,14]] rfl rfl rfl ?_
 refine CW.cond rfl (fun h2 => ?_) (fun h2 => ?_)
 have hii : i < a.length := by have := h2; simp at this; first | exact this | omega | (simp; done) | (simp; omega)
 obtain ⟨ei, hei⟩ : ∃ e, a[i]? = some e := ⟨_, List.getElem?_eq_getElem hii⟩
 have hdi := drop_get hei
 have hib : i < b.length := by omega
 obtain ⟨eb, heb⟩ : ∃ e, b[i]? = some e := ⟨_, List.getElem?_eq_getElem hib⟩
 have hdb := drop_get heb
 refine CW.g XK 27 [.p,.e [0,1,5],.p,.p,.p] rfl rfl rfl ?_
 refine CW.drawn (by kernel_rfl) ?_
 refine RQ.k XK 27 2 rfl ?_
 (conv=>whnf);refine ⟨rfl,?_⟩
 refine RQ.v rfl (V.indexS rfl rfl rfl rfl rfl rfl Peer.len hei) ?_
 refine RQ.k XK 27 3 rfl ?_
 (conv=>whnf);refine ⟨rfl,?_⟩
 refine RQ.v rfl (V.indexS rfl rfl rfl rfl rfl rfl Peer.len heb) ?_
 refine RQ.k XK 27 1 rfl ?_
 (conv=>whnf);refine ⟨rfl,?_⟩
 refine RQ.cons rfl (QOK.call (laws_eqPeer_fn ei eb) rfl (.cons (.agg (.cons (.r .r) (.cons (.r .r) (.cons (.r .r) (.cons (.r .r) (.nil)))))) (.cons (.agg (.cons (.r .r) (.cons (.r .r) (.cons (.r .r) (.cons (.r .r) (.nil)))))) (.nil))) ?_)
 refine RQ.k XK 27 1 rfl ?_
 (conv=>whnf);refine ⟨rfl,?_⟩
 refine RQ.nil ?_
 refine CW.g XK 27 [.e [0,1,5,26]] rfl rfl rfl ?_
 refine CW.cond rfl (fun h3 => ?_) (fun h3 => ?_)
 refine CW.g XK 27 [.n 1,.e [4]] rfl rfl rfl ?_
 refine CW.ret ?_
 exact Post.one (RV.b rfl q7) (AOs.r (AOs.r AOs.e))
 refine CW.g XK 27 [.p,.e [0,1,5],.o 1] rfl rfl rfl ?_
 refine RW.v rfl (V.inc rfl rfl rfl hii hl0) ?_
 refine RW.g XK 27 [.o 1,.p] rfl rfl rfl ?_
 exact ⟨i + 1, by omega, ⟨by omega, by simp_all [eqS, eqI, eqStr, eqB]⟩, rfl, Le.c rfl <| Le.c rfl <| Le.c rfl <| Le.e⟩
 have hii : a.length ≤ i := by have := h2; simp at this; first | exact this | omega | (simp; done) | (simp; omega)
 have hdi : a.drop i = [] := List.drop_eq_nil_of_le hii
 refine CW.exit ?_
 refine CW.g XK 27 [.e [],.n 1,.e [4]] rfl rfl rfl ?_
 refine CW.ret ?_
 exact Post.one (RV.b rfl q12) (AOs.r (AOs.r AOs.e))
set_option maxHeartbeats 4000000 in
theorem laws_eqNode_fn (a : Node) (b : Node) : Eng.Fn E.P 125 [.agg ((Node.c a).map .r), .agg ((Node.c b).map .r)] (.one (.one (.w (.v (.bool (eqNode a b)))))) [.agg ((Node.c a).map .r), .agg ((Node.c b).map .r)] := by
 refine Eng.Fn.intro (E := E) (rvs := [.tmp 4]) Tryz.func125 rfl rfl rfl (by simp [outSlots, moved, rvSlot, sl]) ?_
 intro B g bo
 refine CW.h XK 69 [.e [0,1],.o 1] rfl ?_;(conv=>whnf);intro b1;(conv=>whnf);refine ⟨rfl,?_⟩
 refine RW.freezeB (ts := (Node.c a)) 2 rfl (DRd.r (DRd.r (DRd.r (DRd.r (DRd.r (DRd.r (DRd.r (DRd.r (DRd.r (DRd.r (DRd.r (DRd.r (DRd.r (DRd.r DRd.e)))))))))))))) ?_
 refine RW.h XK 69 [.o 1] rfl ?_;(conv=>whnf);intro b2;(conv=>whnf);refine ⟨rfl,?_⟩
 refine RW.freezeB (ts := (Node.c b)) 3 rfl (DRd.r (DRd.r (DRd.r (DRd.r (DRd.r (DRd.r (DRd.r (DRd.r (DRd.r (DRd.r (DRd.r (DRd.r (DRd.r (DRd.r DRd.e)))))))))))))) ?_
 refine RW.g XK 69 [.o 1,.p,.e [2,3],.n 1,.e [2,3,9]] rfl rfl rfl ?_
 refine CW.cond rfl (fun h3 => ?_) (fun h3 => ?_)
 refine CW.g XK 69 [.n 1,.e [4]] rfl rfl rfl ?_
 refine CW.ret ?_
 exact Post.one (RV.b rfl (by simp_all [eqNode])) (AOs.a rfl (AOs.a rfl AOs.e))
 refine CW.g XK 69 [.p,.e [2,3],.n 1,.e [2,3,14]] rfl rfl rfl ?_
 refine CW.cond rfl (fun h4 => ?_) (fun h4 => ?_)
 refine CW.g XK 69 [.n 1,.e [4]] rfl rfl rfl ?_
 refine CW.ret ?_
 exact Post.one (RV.b rfl (by simp_all [eqNode])) (AOs.a rfl (AOs.a rfl AOs.e))
 refine CW.g XK 69 [.p,.e [2,3],.n 1,.e [2,3,19]] rfl rfl rfl ?_
 refine CW.cond rfl (fun h5 => ?_) (fun h5 => ?_)
 refine CW.g XK 69 [.n 1,.e [4]] rfl rfl rfl ?_
 refine CW.ret ?_
 exact Post.one (RV.b rfl (by simp_all [eqNode])) (AOs.a rfl (AOs.a rfl AOs.e))
 refine CW.g XK 69 [.p,.e [2,3],.n 1,.e [2,3,24]] rfl rfl rfl ?_
 refine CW.cond rfl (fun h6 => ?_) (fun h6 => ?_)
 refine CW.g XK 69 [.n 1,.e [4]] rfl rfl rfl ?_
 refine CW.ret ?_
 exact Post.one (RV.b rfl (by simp_all [eqNode])) (AOs.a rfl (AOs.a rfl AOs.e))
 refine CW.g XK 69 [.p,.e [2,3],.n 1,.e [2,3,29]] rfl rfl rfl ?_
 refine CW.cond rfl (fun h7 => ?_) (fun h7 => ?_)
 refine CW.g XK 69 [.n 1,.e [4]] rfl rfl rfl ?_
 refine CW.ret ?_
 exact Post.one (RV.b rfl (by simp_all [eqNode])) (AOs.a rfl (AOs.a rfl AOs.e))
 refine CW.g XK 69 [.p,.e [2,3],.o 4] rfl rfl rfl ?_
 refine RW.call rfl (laws_eqIntS_fn a.conf b.conf) rfl (.cons (.one (.r .r)) (.cons (.one (.r .r)) (.nil))) fun g8 => ?_
 refine RW.g XK 69 [.o 1,.p,.e [2,3,35]] rfl rfl rfl ?_
 refine CW.cond rfl (fun h9 => ?_) (fun h9 => ?_)
 refine CW.g XK 69 [.n 1,.e [4]] rfl rfl rfl ?_
 refine CW.ret ?_
 exact Post.one (RV.b rfl (by simp_all [eqNode])) (AOs.a rfl (AOs.a rfl AOs.e))
 refine CW.g XK 69 [.p,.e [2,3],.o 4] rfl rfl rfl ?_
 refine RW.call rfl (laws_eqLog_fn a.log b.log) rfl (.cons (.agg (.cons (.r .r) (.cons (.r .r) (.cons (.r .r) (.nil))))) (.cons (.agg (.cons (.r .r) (.cons (.r .r) (.cons (.r .r) (.nil))))) (.nil))) fun g10 => ?_
 refine RW.g XK 69 [.o 1,.p,.e [2,3,41]] rfl rfl rfl ?_
 refine CW.cond rfl (fun h11 => ?_) (fun h11 => ?_)
 refine CW.g XK 69 [.n 1,.e [4]] rfl rfl rfl ?_
 refine CW.ret ?_
 exact Post.one (RV.b rfl (by simp_all [eqNode])) (AOs.a rfl (AOs.a rfl AOs.e))
 refine CW.g XK 69 [.p,.e [2,3],.n 1,.e [2,3,46]] rfl rfl rfl ?_
 refine CW.cond rfl (fun h12 => ?_) (fun h12 => ?_)
 refine CW.g XK 69 [.n 1,.e [4]] rfl rfl rfl ?_
 refine CW.ret ?_
 exact Post.one (RV.b rfl (by simp_all [eqNode])) (AOs.a rfl (AOs.a rfl AOs.e))
 refine CW.g XK 69 [.p,.e [2,3],.n 1,.e [2,3,51]] rfl rfl rfl ?_
 refine CW.cond rfl (fun h13 => ?_) (fun h13 => ?_)
 refine CW.g XK 69 [.n 1,.e [4]] rfl rfl rfl ?_
 refine CW.ret ?_
 exact Post.one (RV.b rfl (by simp_all [eqNode])) (AOs.a rfl (AOs.a rfl AOs.e))
 refine CW.g XK 69 [.p,.e [2,3],.n 1,.e [2,3,56]] rfl rfl rfl ?_
 refine CW.cond rfl (fun h14 => ?_) (fun h14 => ?_)
 refine CW.g XK 69 [.n 1,.e [4]] rfl rfl rfl ?_
 refine CW.ret ?_
 exact Post.one (RV.b rfl (by simp_all [eqNode])) (AOs.a rfl (AOs.a rfl AOs.e))
 refine CW.g XK 69 [.p,.e [2,3],.o 4] rfl rfl rfl ?_
 refine RW.call rfl (laws_eqIntS_fn a.votes b.votes) rfl (.cons (.one (.r .r)) (.cons (.one (.r .r)) (.nil))) fun g15 => ?_
 refine RW.g XK 69 [.o 1,.p,.e [2,3,62]] rfl rfl rfl ?_
 refine CW.cond rfl (fun h16 => ?_) (fun h16 => ?_)
 refine CW.g XK 69 [.n 1,.e [4]] rfl rfl rfl ?_
 refine CW.ret ?_
 exact Post.one (RV.b rfl (by simp_all [eqNode])) (AOs.a rfl (AOs.a rfl AOs.e))
 refine CW.g XK 69 [.p,.e [2,3],.o 4] rfl rfl rfl ?_
 refine RW.call rfl (laws_eqPeerS_fn a.peers b.peers) rfl (.cons (.one (.r .r)) (.cons (.one (.r .r)) (.nil))) fun g17 => ?_
 refine RW.g XK 69 [.o 1,.p,.e [68]] rfl rfl rfl ?_
 refine CW.cond rfl (fun h18 => ?_) (fun h18 => ?_)
 refine CW.g XK 69 [.n 1,.e [4]] rfl rfl rfl ?_
 refine CW.ret ?_
 exact Post.one (RV.b rfl (by simp_all [eqNode])) (AOs.a rfl (AOs.a rfl AOs.e))
 refine CW.g XK 69 [.p,.e [],.n 1,.e [4]] rfl rfl rfl ?_
 refine CW.ret ?_
 exact Post.one (RV.b rfl (by simp_all [eqNode])) (AOs.a rfl (AOs.a rfl AOs.e))
set_option maxHeartbeats 4000000 in
theorem laws_eqFile_fn (a : File) (b : File) : Eng.Fn E.P 164 [.agg ((File.c a).map .r), .agg ((File.c b).map .r)] (.one (.one (.w (.v (.bool (eqFile a b)))))) [.agg ((File.c a).map .r), .agg ((File.c b).map .r)] := by
 refine Eng.Fn.intro (E := E) (rvs := [.tmp 4]) Tryz.func164 rfl rfl rfl (by simp [outSlots, moved, rvSlot, sl]) ?_
 intro B g bo
 refine CW.h XK 20 [.e [0,1],.o 1] rfl ?_;(conv=>whnf);intro b1;(conv=>whnf);refine ⟨rfl,?_⟩
 refine RW.freezeB (ts := (File.c a)) 2 rfl (DRd.r (DRd.r (DRd.r DRd.e))) ?_
 refine RW.h XK 20 [.o 1] rfl ?_;(conv=>whnf);intro b2;(conv=>whnf);refine ⟨rfl,?_⟩
 refine RW.freezeB (ts := (File.c b)) 3 rfl (DRd.r (DRd.r (DRd.r DRd.e))) ?_
 refine RW.g XK 20 [.o 1,.p,.e [2,3],.n 1,.e [2,3,9]] rfl rfl rfl ?_
 refine CW.cond rfl (fun h3 => ?_) (fun h3 => ?_)
 refine CW.g XK 20 [.n 1,.e [4]] rfl rfl rfl ?_
 refine CW.ret ?_
 exact Post.one (RV.b rfl (by simp_all [eqFile])) (AOs.a rfl (AOs.a rfl AOs.e))
 refine CW.g XK 20 [.p,.e [2,3],.n 1,.e [2,3,14]] rfl rfl rfl ?_
 refine CW.cond rfl (fun h4 => ?_) (fun h4 => ?_)
 refine CW.g XK 20 [.n 1,.e [4]] rfl rfl rfl ?_
 refine CW.ret ?_
 exact Post.one (RV.b rfl (by simp_all [eqFile])) (AOs.a rfl (AOs.a rfl AOs.e))
 refine CW.g XK 20 [.p,.e [2,3],.n 1,.e [19]] rfl rfl rfl ?_
 refine CW.cond rfl (fun h5 => ?_) (fun h5 => ?_)
 refine CW.g XK 20 [.n 1,.e [4]] rfl rfl rfl ?_
 refine CW.ret ?_
 exact Post.one (RV.b rfl (by simp_all [eqFile])) (AOs.a rfl (AOs.a rfl AOs.e))
 refine CW.g XK 20 [.p,.e [],.n 1,.e [4]] rfl rfl rfl ?_
 refine CW.ret ?_
 exact Post.one (RV.b rfl (by simp_all [eqFile])) (AOs.a rfl (AOs.a rfl AOs.e))
set_option maxHeartbeats 4000000 in
theorem laws_eqFileS_fn (a : List File) (b : List File) : Eng.Fn E.P 152 [.one (.r (sl 3 File.c a)), .one (.r (sl 3 File.c b))] (.one (.one (.w (.v (.bool (eqS eqFile a b)))))) [.one (.r (sl 3 File.c a)), .one (.r (sl 3 File.c b))] := by
 refine Eng.Fn.intro (E := E) (rvs := [.tmp 4]) Tryz.func152 rfl rfl rfl (by simp [outSlots, moved, rvSlot, sl]) ?_
 intro B g bo
 refine CW.bound (x := .tmp 0) (n := a.length) (AsT.r) (fun hl0 => ?_)
 refine CW.bound (x := .tmp 1) (n := b.length) (AsT.r) (fun hl1 => ?_)
 refine CW.g XK 27 [.e [0,1],.n 1,.e [0,1],.n 1,.e [0,1,10]] rfl rfl rfl ?_
 refine CW.cond rfl (fun h1 => ?_) (fun h1 => ?_)
 refine CW.g XK 27 [.n 1,.e [4]] rfl rfl rfl ?_
 refine CW.ret ?_
 exact Post.one (RV.b rfl q7) (AOs.r (AOs.r AOs.e))
 refine CW.g XK 27 [.p,.e [0,1],.n 1,.e [0,1,5],.p] rfl rfl rfl ?_
 refine CW.loopI 27 (fun (i : Nat) => [(0, .r (sl 3 File.c a)), (1, .r (sl 3 File.c b)), (5, I (i : Int))]) (fun (i : Nat) => i ≤ a.length ∧ eqS eqFile (a.drop i) (b.drop i) = eqS eqFile a b) (fun (i : Nat) => a.length - i) 0 rfl (Le.c rfl <| Le.c rfl <| Le.c rfl <| Le.e) ⟨by omega, by simp⟩ ?_
 rintro i ⟨hb, hr⟩
 have hlen : a.length = b.length := by simp at h1; omega
 refine CW.g XK 27 [.n 1,.e [0,1,5,14]] rfl rfl rfl ?_
 refine CW.cond rfl (fun h2 => ?_) (fun h2 => ?_)
 have hii : i < a.length := by have := h2; simp at this; first | exact this | omega | (simp; done) | (simp; omega)
 obtain ⟨ei, hei⟩ : ∃ e, a[i]? = some e := ⟨_, List.getElem?_eq_getElem hii⟩
 have hdi := drop_get hei
 have hib : i < b.length := by omega
 obtain ⟨eb, heb⟩ : ∃ e, b[i]? = some e := ⟨_, List.getElem?_eq_getElem hib⟩
 have hdb := drop_get heb
 refine CW.g XK 27 [.p,.e [0,1,5],.p,.p,.p] rfl rfl rfl ?_
 refine CW.drawn (by kernel_rfl) ?_
 refine RQ.k XK 27 2 rfl ?_
 (conv=>whnf);refine ⟨rfl,?_⟩
 refine RQ.v rfl (V.indexS rfl rfl rfl rfl rfl rfl File.len hei) ?_
 refine RQ.k XK 27 3 rfl ?_
 (conv=>whnf);refine ⟨rfl,?_⟩
 refine RQ.v rfl (V.indexS rfl rfl rfl rfl rfl rfl File.len heb) ?_
 refine RQ.k XK 27 1 rfl ?_
 (conv=>whnf);refine ⟨rfl,?_⟩
 refine RQ.cons rfl (QOK.call (laws_eqFile_fn ei eb) rfl (.cons (.agg (.cons (.r .r) (.cons (.r .r) (.cons (.r .r) (.nil))))) (.cons (.agg (.cons (.r .r) (.cons (.r .r) (.cons (.r .r) (.nil))))) (.nil))) ?_)
 refine RQ.k XK 27 1 rfl ?_
 (conv=>whnf);refine ⟨rfl,?_⟩
 refine RQ.nil ?_
 refine CW.g XK 27 [.e [0,1,5,26]] rfl rfl rfl ?_
 refine CW.cond rfl (fun h3 => ?_) (fun h3 => ?_)
 refine CW.g XK 27 [.n 1,.e [4]] rfl rfl rfl ?_
 refine CW.ret ?_
 exact Post.one (RV.b rfl q7) (AOs.r (AOs.r AOs.e))
 refine CW.g XK 27 [.p,.e [0,1,5],.o 1] rfl rfl rfl ?_
 refine RW.v rfl (V.inc rfl rfl rfl hii hl0) ?_
 refine RW.g XK 27 [.o 1,.p] rfl rfl rfl ?_
 exact ⟨i + 1, by omega, ⟨by omega, by simp_all [eqS, eqI, eqStr, eqB]⟩, rfl, Le.c rfl <| Le.c rfl <| Le.c rfl <| Le.e⟩
 have hii : a.length ≤ i := by have := h2; simp at this; first | exact this | omega | (simp; done) | (simp; omega)
 have hdi : a.drop i = [] := List.drop_eq_nil_of_le hii
 refine CW.exit ?_
 refine CW.g XK 27 [.e [],.n 1,.e [4]] rfl rfl rfl ?_
 refine CW.ret ?_
 exact Post.one (RV.b rfl q12) (AOs.r (AOs.r AOs.e))
set_option maxHeartbeats 4000000 in
theorem laws_eqDisk_fn (a : Disk) (b : Disk) : Eng.Fn E.P 126 [.agg ((Disk.c a).map .r), .agg ((Disk.c b).map .r)] (.one (.one (.w (.v (.bool (eqDisk a b)))))) [.agg ((Disk.c a).map .r), .agg ((Disk.c b).map .r)] := by
 refine Eng.Fn.intro (E := E) (rvs := [.tmp 4]) Tryz.func126 rfl rfl rfl (by simp [outSlots, moved, rvSlot, sl]) ?_
 intro B g bo
 refine CW.h XK 11 [.e [0,1],.o 1] rfl ?_;(conv=>whnf);intro b1;(conv=>whnf);refine ⟨rfl,?_⟩
 refine RW.freezeB (ts := (Disk.c a)) 2 rfl (DRd.r DRd.e) ?_
 refine RW.h XK 11 [.o 1] rfl ?_;(conv=>whnf);intro b2;(conv=>whnf);refine ⟨rfl,?_⟩
 refine RW.freezeB (ts := (Disk.c b)) 3 rfl (DRd.r DRd.e) ?_
 refine RW.g XK 11 [.o 1,.p,.e [2,3],.o 4] rfl rfl rfl ?_
 refine RW.call rfl (laws_eqFileS_fn a.files b.files) rfl (.cons (.one (.r .r)) (.cons (.one (.r .r)) (.nil))) fun g3 => ?_
 refine RW.g XK 11 [.o 1,.p,.e [10]] rfl rfl rfl ?_
 refine CW.cond rfl (fun h4 => ?_) (fun h4 => ?_)
 refine CW.g XK 11 [.n 1,.e [4]] rfl rfl rfl ?_
 refine CW.ret ?_
 exact Post.one (RV.b rfl (by simp_all [eqDisk])) (AOs.a rfl (AOs.a rfl AOs.e))
 refine CW.g XK 11 [.p,.e [],.n 1,.e [4]] rfl rfl rfl ?_
 refine CW.ret ?_
 exact Post.one (RV.b rfl (by simp_all [eqDisk])) (AOs.a rfl (AOs.a rfl AOs.e))
set_option maxHeartbeats 4000000 in
theorem laws_eqJournal_fn (a : Journal) (b : Journal) : Eng.Fn E.P 127 [.agg ((Journal.c a).map .r), .agg ((Journal.c b).map .r)] (.one (.one (.w (.v (.bool (eqJournal a b)))))) [.agg ((Journal.c a).map .r), .agg ((Journal.c b).map .r)] := by
 refine Eng.Fn.intro (E := E) (rvs := [.tmp 4]) Tryz.func127 rfl rfl rfl (by simp [outSlots, moved, rvSlot, sl]) ?_
 intro B g bo
 refine CW.h XK 26 [.e [0,1],.o 1] rfl ?_;(conv=>whnf);intro b1;(conv=>whnf);refine ⟨rfl,?_⟩
 refine RW.freezeB (ts := (Journal.c a)) 2 rfl (DRd.r (DRd.r (DRd.r (DRd.r (DRd.r (DRd.r DRd.e)))))) ?_
 refine RW.h XK 26 [.o 1] rfl ?_;(conv=>whnf);intro b2;(conv=>whnf);refine ⟨rfl,?_⟩
 refine RW.freezeB (ts := (Journal.c b)) 3 rfl (DRd.r (DRd.r (DRd.r (DRd.r (DRd.r (DRd.r DRd.e)))))) ?_
 refine RW.g XK 26 [.o 1,.p,.e [2,3],.n 1,.e [2,3,9]] rfl rfl rfl ?_
 refine CW.cond rfl (fun h3 => ?_) (fun h3 => ?_)
 refine CW.g XK 26 [.n 1,.e [4]] rfl rfl rfl ?_
 refine CW.ret ?_
 exact Post.one (RV.b rfl (by simp_all [eqJournal])) (AOs.a rfl (AOs.a rfl AOs.e))
 refine CW.g XK 26 [.p,.e [2,3],.n 1,.e [2,3,14]] rfl rfl rfl ?_
 refine CW.cond rfl (fun h4 => ?_) (fun h4 => ?_)
 refine CW.g XK 26 [.n 1,.e [4]] rfl rfl rfl ?_
 refine CW.ret ?_
 exact Post.one (RV.b rfl (by simp_all [eqJournal])) (AOs.a rfl (AOs.a rfl AOs.e))
 refine CW.g XK 26 [.p,.e [2,3],.n 1,.e [2,3,19]] rfl rfl rfl ?_
 refine CW.cond rfl (fun h5 => ?_) (fun h5 => ?_)
 refine CW.g XK 26 [.n 1,.e [4]] rfl rfl rfl ?_
 refine CW.ret ?_
 exact Post.one (RV.b rfl (by simp_all [eqJournal])) (AOs.a rfl (AOs.a rfl AOs.e))
 refine CW.g XK 26 [.p,.e [2,3],.o 4] rfl rfl rfl ?_
 refine RW.call rfl (laws_eqLog_fn a.log b.log) rfl (.cons (.agg (.cons (.r .r) (.cons (.r .r) (.cons (.r .r) (.nil))))) (.cons (.agg (.cons (.r .r) (.cons (.r .r) (.cons (.r .r) (.nil))))) (.nil))) fun g6 => ?_
 refine RW.g XK 26 [.o 1,.p,.e [25]] rfl rfl rfl ?_
 refine CW.cond rfl (fun h7 => ?_) (fun h7 => ?_)
 refine CW.g XK 26 [.n 1,.e [4]] rfl rfl rfl ?_
 refine CW.ret ?_
 exact Post.one (RV.b rfl (by simp_all [eqJournal])) (AOs.a rfl (AOs.a rfl AOs.e))
 refine CW.g XK 26 [.p,.e [],.n 1,.e [4]] rfl rfl rfl ?_
 refine CW.ret ?_
 exact Post.one (RV.b rfl (by simp_all [eqJournal])) (AOs.a rfl (AOs.a rfl AOs.e))
set_option maxHeartbeats 4000000 in
theorem laws_eqSession_fn (a : Session) (b : Session) : Eng.Fn E.P 165 [.agg ((Session.c a).map .r), .agg ((Session.c b).map .r)] (.one (.one (.w (.v (.bool (eqSession a b)))))) [.agg ((Session.c a).map .r), .agg ((Session.c b).map .r)] := by
 refine Eng.Fn.intro (E := E) (rvs := [.tmp 4]) Tryz.func165 rfl rfl rfl (by simp [outSlots, moved, rvSlot, sl]) ?_
 intro B g bo
 refine CW.h XK 20 [.e [0,1],.o 1] rfl ?_;(conv=>whnf);intro b1;(conv=>whnf);refine ⟨rfl,?_⟩
 refine RW.freezeB (ts := (Session.c a)) 2 rfl (DRd.r (DRd.r (DRd.r DRd.e))) ?_
 refine RW.h XK 20 [.o 1] rfl ?_;(conv=>whnf);intro b2;(conv=>whnf);refine ⟨rfl,?_⟩
 refine RW.freezeB (ts := (Session.c b)) 3 rfl (DRd.r (DRd.r (DRd.r DRd.e))) ?_
 refine RW.g XK 20 [.o 1,.p,.e [2,3],.n 1,.e [2,3,9]] rfl rfl rfl ?_
 refine CW.cond rfl (fun h3 => ?_) (fun h3 => ?_)
 refine CW.g XK 20 [.n 1,.e [4]] rfl rfl rfl ?_
 refine CW.ret ?_
 exact Post.one (RV.b rfl (by simp_all [eqSession])) (AOs.a rfl (AOs.a rfl AOs.e))
 refine CW.g XK 20 [.p,.e [2,3],.n 1,.e [2,3,14]] rfl rfl rfl ?_
 refine CW.cond rfl (fun h4 => ?_) (fun h4 => ?_)
 refine CW.g XK 20 [.n 1,.e [4]] rfl rfl rfl ?_
 refine CW.ret ?_
 exact Post.one (RV.b rfl (by simp_all [eqSession])) (AOs.a rfl (AOs.a rfl AOs.e))
 refine CW.g XK 20 [.p,.e [2,3],.n 1,.e [19]] rfl rfl rfl ?_
 refine CW.cond rfl (fun h5 => ?_) (fun h5 => ?_)
 refine CW.g XK 20 [.n 1,.e [4]] rfl rfl rfl ?_
 refine CW.ret ?_
 exact Post.one (RV.b rfl (by simp_all [eqSession])) (AOs.a rfl (AOs.a rfl AOs.e))
 refine CW.g XK 20 [.p,.e [],.n 1,.e [4]] rfl rfl rfl ?_
 refine CW.ret ?_
 exact Post.one (RV.b rfl (by simp_all [eqSession])) (AOs.a rfl (AOs.a rfl AOs.e))
set_option maxHeartbeats 4000000 in
theorem laws_eqSessionS_fn (a : List Session) (b : List Session) : Eng.Fn E.P 153 [.one (.r (sl 3 Session.c a)), .one (.r (sl 3 Session.c b))] (.one (.one (.w (.v (.bool (eqS eqSession a b)))))) [.one (.r (sl 3 Session.c a)), .one (.r (sl 3 Session.c b))] := by
 refine Eng.Fn.intro (E := E) (rvs := [.tmp 4]) Tryz.func153 rfl rfl rfl (by simp [outSlots, moved, rvSlot, sl]) ?_
 intro B g bo
 refine CW.bound (x := .tmp 0) (n := a.length) (AsT.r) (fun hl0 => ?_)
 refine CW.bound (x := .tmp 1) (n := b.length) (AsT.r) (fun hl1 => ?_)
 refine CW.g XK 27 [.e [0,1],.n 1,.e [0,1],.n 1,.e [0,1,10]] rfl rfl rfl ?_
 refine CW.cond rfl (fun h1 => ?_) (fun h1 => ?_)
 refine CW.g XK 27 [.n 1,.e [4]] rfl rfl rfl ?_
 refine CW.ret ?_
 exact Post.one (RV.b rfl q7) (AOs.r (AOs.r AOs.e))
 refine CW.g XK 27 [.p,.e [0,1],.n 1,.e [0,1,5],.p] rfl rfl rfl ?_
 refine CW.loopI 27 (fun (i : Nat) => [(0, .r (sl 3 Session.c a)), (1, .r (sl 3 Session.c b)), (5, I (i : Int))]) (fun (i : Nat) => i ≤ a.length ∧ eqS eqSession (a.drop i) (b.drop i) = eqS eqSession a b) (fun (i : Nat) => a.length - i) 0 rfl (Le.c rfl <| Le.c rfl <| Le.c rfl <| Le.e) ⟨by omega, by simp⟩ ?_
 rintro i ⟨hb, hr⟩
 have hlen : a.length = b.length := by simp at h1; omega
 refine CW.g XK 27 [.n 1,.e [0,1,5,14]] rfl rfl rfl ?_
 refine CW.cond rfl (fun h2 => ?_) (fun h2 => ?_)
 have hii : i < a.length := by have := h2; simp at this; first | exact this | omega | (simp; done) | (simp; omega)
 obtain ⟨ei, hei⟩ : ∃ e, a[i]? = some e := ⟨_, List.getElem?_eq_getElem hii⟩
 have hdi := drop_get hei
 have hib : i < b.length := by omega
 obtain ⟨eb, heb⟩ : ∃ e, b[i]? = some e := ⟨_, List.getElem?_eq_getElem hib⟩
 have hdb := drop_get heb
 refine CW.g XK 27 [.p,.e [0,1,5],.p,.p,.p] rfl rfl rfl ?_
 refine CW.drawn (by kernel_rfl) ?_
 refine RQ.k XK 27 2 rfl ?_
 (conv=>whnf);refine ⟨rfl,?_⟩
 refine RQ.v rfl (V.indexS rfl rfl rfl rfl rfl rfl Session.len hei) ?_
 refine RQ.k XK 27 3 rfl ?_
 (conv=>whnf);refine ⟨rfl,?_⟩
 refine RQ.v rfl (V.indexS rfl rfl rfl rfl rfl rfl Session.len heb) ?_
 refine RQ.k XK 27 1 rfl ?_
 (conv=>whnf);refine ⟨rfl,?_⟩
 refine RQ.cons rfl (QOK.call (laws_eqSession_fn ei eb) rfl (.cons (.agg (.cons (.r .r) (.cons (.r .r) (.cons (.r .r) (.nil))))) (.cons (.agg (.cons (.r .r) (.cons (.r .r) (.cons (.r .r) (.nil))))) (.nil))) ?_)
 refine RQ.k XK 27 1 rfl ?_
 (conv=>whnf);refine ⟨rfl,?_⟩
 refine RQ.nil ?_
 refine CW.g XK 27 [.e [0,1,5,26]] rfl rfl rfl ?_
 refine CW.cond rfl (fun h3 => ?_) (fun h3 => ?_)
 refine CW.g XK 27 [.n 1,.e [4]] rfl rfl rfl ?_
 refine CW.ret ?_
 exact Post.one (RV.b rfl q7) (AOs.r (AOs.r AOs.e))
 refine CW.g XK 27 [.p,.e [0,1,5],.o 1] rfl rfl rfl ?_
 refine RW.v rfl (V.inc rfl rfl rfl hii hl0) ?_
 refine RW.g XK 27 [.o 1,.p] rfl rfl rfl ?_
 exact ⟨i + 1, by omega, ⟨by omega, by simp_all [eqS, eqI, eqStr, eqB]⟩, rfl, Le.c rfl <| Le.c rfl <| Le.c rfl <| Le.e⟩
 have hii : a.length ≤ i := by have := h2; simp at this; first | exact this | omega | (simp; done) | (simp; omega)
 have hdi : a.drop i = [] := List.drop_eq_nil_of_le hii
 refine CW.exit ?_
 refine CW.g XK 27 [.e [],.n 1,.e [4]] rfl rfl rfl ?_
 refine CW.ret ?_
 exact Post.one (RV.b rfl q12) (AOs.r (AOs.r AOs.e))
set_option maxHeartbeats 4000000 in
theorem laws_eqItem_fn (a : Item) (b : Item) : Eng.Fn E.P 166 [.agg ((Item.c a).map .r), .agg ((Item.c b).map .r)] (.one (.one (.w (.v (.bool (eqItem a b)))))) [.agg ((Item.c a).map .r), .agg ((Item.c b).map .r)] := by
 refine Eng.Fn.intro (E := E) (rvs := [.tmp 4]) Tryz.func166 rfl rfl rfl (by simp [outSlots, moved, rvSlot, sl]) ?_
 intro B g bo
 refine CW.h XK 20 [.e [0,1],.o 1] rfl ?_;(conv=>whnf);intro b1;(conv=>whnf);refine ⟨rfl,?_⟩
 refine RW.freezeB (ts := (Item.c a)) 2 rfl (DRd.r (DRd.r (DRd.r DRd.e))) ?_
 refine RW.h XK 20 [.o 1] rfl ?_;(conv=>whnf);intro b2;(conv=>whnf);refine ⟨rfl,?_⟩
 refine RW.freezeB (ts := (Item.c b)) 3 rfl (DRd.r (DRd.r (DRd.r DRd.e))) ?_
 refine RW.g XK 20 [.o 1,.p,.e [2,3],.n 1,.e [2,3,9]] rfl rfl rfl ?_
 refine CW.cond rfl (fun h3 => ?_) (fun h3 => ?_)
 refine CW.g XK 20 [.n 1,.e [4]] rfl rfl rfl ?_
 refine CW.ret ?_
 exact Post.one (RV.b rfl (by simp_all [eqItem])) (AOs.a rfl (AOs.a rfl AOs.e))
 refine CW.g XK 20 [.p,.e [2,3],.n 1,.e [2,3,14]] rfl rfl rfl ?_
 refine CW.cond rfl (fun h4 => ?_) (fun h4 => ?_)
 refine CW.g XK 20 [.n 1,.e [4]] rfl rfl rfl ?_
 refine CW.ret ?_
 exact Post.one (RV.b rfl (by simp_all [eqItem])) (AOs.a rfl (AOs.a rfl AOs.e))
 refine CW.g XK 20 [.p,.e [2,3],.n 1,.e [19]] rfl rfl rfl ?_
 refine CW.cond rfl (fun h5 => ?_) (fun h5 => ?_)
 refine CW.g XK 20 [.n 1,.e [4]] rfl rfl rfl ?_
 refine CW.ret ?_
 exact Post.one (RV.b rfl (by simp_all [eqItem])) (AOs.a rfl (AOs.a rfl AOs.e))
 refine CW.g XK 20 [.p,.e [],.n 1,.e [4]] rfl rfl rfl ?_
 refine CW.ret ?_
 exact Post.one (RV.b rfl (by simp_all [eqItem])) (AOs.a rfl (AOs.a rfl AOs.e))
set_option maxHeartbeats 4000000 in
theorem laws_eqItemS_fn (a : List Item) (b : List Item) : Eng.Fn E.P 154 [.one (.r (sl 3 Item.c a)), .one (.r (sl 3 Item.c b))] (.one (.one (.w (.v (.bool (eqS eqItem a b)))))) [.one (.r (sl 3 Item.c a)), .one (.r (sl 3 Item.c b))] := by
 refine Eng.Fn.intro (E := E) (rvs := [.tmp 4]) Tryz.func154 rfl rfl rfl (by simp [outSlots, moved, rvSlot, sl]) ?_
 intro B g bo
 refine CW.bound (x := .tmp 0) (n := a.length) (AsT.r) (fun hl0 => ?_)
 refine CW.bound (x := .tmp 1) (n := b.length) (AsT.r) (fun hl1 => ?_)
 refine CW.g XK 27 [.e [0,1],.n 1,.e [0,1],.n 1,.e [0,1,10]] rfl rfl rfl ?_
 refine CW.cond rfl (fun h1 => ?_) (fun h1 => ?_)
 refine CW.g XK 27 [.n 1,.e [4]] rfl rfl rfl ?_
 refine CW.ret ?_
 exact Post.one (RV.b rfl q7) (AOs.r (AOs.r AOs.e))
 refine CW.g XK 27 [.p,.e [0,1],.n 1,.e [0,1,5],.p] rfl rfl rfl ?_
 refine CW.loopI 27 (fun (i : Nat) => [(0, .r (sl 3 Item.c a)), (1, .r (sl 3 Item.c b)), (5, I (i : Int))]) (fun (i : Nat) => i ≤ a.length ∧ eqS eqItem (a.drop i) (b.drop i) = eqS eqItem a b) (fun (i : Nat) => a.length - i) 0 rfl (Le.c rfl <| Le.c rfl <| Le.c rfl <| Le.e) ⟨by omega, by simp⟩ ?_
 rintro i ⟨hb, hr⟩
 have hlen : a.length = b.length := by simp at h1; omega
 refine CW.g XK 27 [.n 1,.e [0,1,5,14]] rfl rfl rfl ?_
 refine CW.cond rfl (fun h2 => ?_) (fun h2 => ?_)
 have hii : i < a.length := by have := h2; simp at this; first | exact this | omega | (simp; done) | (simp; omega)
 obtain ⟨ei, hei⟩ : ∃ e, a[i]? = some e := ⟨_, List.getElem?_eq_getElem hii⟩
 have hdi := drop_get hei
 have hib : i < b.length := by omega
 obtain ⟨eb, heb⟩ : ∃ e, b[i]? = some e := ⟨_, List.getElem?_eq_getElem hib⟩
 have hdb := drop_get heb
 refine CW.g XK 27 [.p,.e [0,1,5],.p,.p,.p] rfl rfl rfl ?_
 refine CW.drawn (by kernel_rfl) ?_
 refine RQ.k XK 27 2 rfl ?_
 (conv=>whnf);refine ⟨rfl,?_⟩
 refine RQ.v rfl (V.indexS rfl rfl rfl rfl rfl rfl Item.len hei) ?_
 refine RQ.k XK 27 3 rfl ?_
 (conv=>whnf);refine ⟨rfl,?_⟩
 refine RQ.v rfl (V.indexS rfl rfl rfl rfl rfl rfl Item.len heb) ?_
 refine RQ.k XK 27 1 rfl ?_
 (conv=>whnf);refine ⟨rfl,?_⟩
 refine RQ.cons rfl (QOK.call (laws_eqItem_fn ei eb) rfl (.cons (.agg (.cons (.r .r) (.cons (.r .r) (.cons (.r .r) (.nil))))) (.cons (.agg (.cons (.r .r) (.cons (.r .r) (.cons (.r .r) (.nil))))) (.nil))) ?_)
 refine RQ.k XK 27 1 rfl ?_
 (conv=>whnf);refine ⟨rfl,?_⟩
 refine RQ.nil ?_
 refine CW.g XK 27 [.e [0,1,5,26]] rfl rfl rfl ?_
 refine CW.cond rfl (fun h3 => ?_) (fun h3 => ?_)
 refine CW.g XK 27 [.n 1,.e [4]] rfl rfl rfl ?_
 refine CW.ret ?_
 exact Post.one (RV.b rfl q7) (AOs.r (AOs.r AOs.e))
 refine CW.g XK 27 [.p,.e [0,1,5],.o 1] rfl rfl rfl ?_
 refine RW.v rfl (V.inc rfl rfl rfl hii hl0) ?_
 refine RW.g XK 27 [.o 1,.p] rfl rfl rfl ?_
 exact ⟨i + 1, by omega, ⟨by omega, by simp_all [eqS, eqI, eqStr, eqB]⟩, rfl, Le.c rfl <| Le.c rfl <| Le.c rfl <| Le.e⟩
 have hii : a.length ≤ i := by have := h2; simp at this; first | exact this | omega | (simp; done) | (simp; omega)
 have hdi : a.drop i = [] := List.drop_eq_nil_of_le hii
 refine CW.exit ?_
 refine CW.g XK 27 [.e [],.n 1,.e [4]] rfl rfl rfl ?_
 refine CW.ret ?_
 exact Post.one (RV.b rfl q12) (AOs.r (AOs.r AOs.e))
set_option maxHeartbeats 4000000 in
theorem laws_eqKeep_fn (a : Keep) (b : Keep) : Eng.Fn E.P 128 [.agg ((Keep.c a).map .r), .agg ((Keep.c b).map .r)] (.one (.one (.w (.v (.bool (eqKeep a b)))))) [.agg ((Keep.c a).map .r), .agg ((Keep.c b).map .r)] := by
 refine Eng.Fn.intro (E := E) (rvs := [.tmp 4]) Tryz.func128 rfl rfl rfl (by simp [outSlots, moved, rvSlot, sl]) ?_
 intro B g bo
 refine CW.h XK 17 [.e [0,1],.o 1] rfl ?_;(conv=>whnf);intro b1;(conv=>whnf);refine ⟨rfl,?_⟩
 refine RW.freezeB (ts := (Keep.c a)) 2 rfl (DRd.r (DRd.r DRd.e)) ?_
 refine RW.h XK 17 [.o 1] rfl ?_;(conv=>whnf);intro b2;(conv=>whnf);refine ⟨rfl,?_⟩
 refine RW.freezeB (ts := (Keep.c b)) 3 rfl (DRd.r (DRd.r DRd.e)) ?_
 refine RW.g XK 17 [.o 1,.p,.e [2,3],.o 4] rfl rfl rfl ?_
 refine RW.call rfl (laws_eqSessionS_fn a.sessions b.sessions) rfl (.cons (.one (.r .r)) (.cons (.one (.r .r)) (.nil))) fun g3 => ?_
 refine RW.g XK 17 [.o 1,.p,.e [2,3,10]] rfl rfl rfl ?_
 refine CW.cond rfl (fun h4 => ?_) (fun h4 => ?_)
 refine CW.g XK 17 [.n 1,.e [4]] rfl rfl rfl ?_
 refine CW.ret ?_
 exact Post.one (RV.b rfl (by simp_all [eqKeep])) (AOs.a rfl (AOs.a rfl AOs.e))
 refine CW.g XK 17 [.p,.e [2,3],.o 4] rfl rfl rfl ?_
 refine RW.call rfl (laws_eqItemS_fn a.items b.items) rfl (.cons (.one (.r .r)) (.cons (.one (.r .r)) (.nil))) fun g5 => ?_
 refine RW.g XK 17 [.o 1,.p,.e [16]] rfl rfl rfl ?_
 refine CW.cond rfl (fun h6 => ?_) (fun h6 => ?_)
 refine CW.g XK 17 [.n 1,.e [4]] rfl rfl rfl ?_
 refine CW.ret ?_
 exact Post.one (RV.b rfl (by simp_all [eqKeep])) (AOs.a rfl (AOs.a rfl AOs.e))
 refine CW.g XK 17 [.p,.e [],.n 1,.e [4]] rfl rfl rfl ?_
 refine CW.ret ?_
 exact Post.one (RV.b rfl (by simp_all [eqKeep])) (AOs.a rfl (AOs.a rfl AOs.e))
set_option maxHeartbeats 4000000 in
theorem laws_eqServer_fn (a : Server) (b : Server) : Eng.Fn E.P 82 [.agg ((Server.c a).map .r), .agg ((Server.c b).map .r)] (.one (.one (.w (.v (.bool (eqServer a b)))))) [.agg ((Server.c a).map .r), .agg ((Server.c b).map .r)] := by
 refine Eng.Fn.intro (E := E) (rvs := [.tmp 4]) Tryz.func82 rfl rfl rfl (by simp [outSlots, moved, rvSlot, sl]) ?_
 intro B g bo
 refine CW.h XK 49 [.e [0,1],.o 1] rfl ?_;(conv=>whnf);intro b1;(conv=>whnf);refine ⟨rfl,?_⟩
 refine RW.freezeB (ts := (Server.c a)) 2 rfl (DRd.r (DRd.r (DRd.r (DRd.r (DRd.r (DRd.r (DRd.r (DRd.r (DRd.r (DRd.r (DRd.r (DRd.r (DRd.r (DRd.r (DRd.r (DRd.r (DRd.r (DRd.r (DRd.r (DRd.r (DRd.r (DRd.r (DRd.r (DRd.r (DRd.r (DRd.r (DRd.r DRd.e))))))))))))))))))))))))))) ?_
 refine RW.h XK 49 [.o 1] rfl ?_;(conv=>whnf);intro b2;(conv=>whnf);refine ⟨rfl,?_⟩
 refine RW.freezeB (ts := (Server.c b)) 3 rfl (DRd.r (DRd.r (DRd.r (DRd.r (DRd.r (DRd.r (DRd.r (DRd.r (DRd.r (DRd.r (DRd.r (DRd.r (DRd.r (DRd.r (DRd.r (DRd.r (DRd.r (DRd.r (DRd.r (DRd.r (DRd.r (DRd.r (DRd.r (DRd.r (DRd.r (DRd.r (DRd.r DRd.e))))))))))))))))))))))))))) ?_
 refine RW.g XK 49 [.o 1,.p,.e [2,3],.o 4] rfl rfl rfl ?_
 refine RW.call rfl (laws_eqNode_fn a.node b.node) rfl (.cons (.agg (.cons (.r .r) (.cons (.r .r) (.cons (.r .r) (.cons (.r .r) (.cons (.r .r) (.cons (.r .r) (.cons (.r .r) (.cons (.r .r) (.cons (.r .r) (.cons (.r .r) (.cons (.r .r) (.cons (.r .r) (.cons (.r .r) (.cons (.r .r) (.nil)))))))))))))))) (.cons (.agg (.cons (.r .r) (.cons (.r .r) (.cons (.r .r) (.cons (.r .r) (.cons (.r .r) (.cons (.r .r) (.cons (.r .r) (.cons (.r .r) (.cons (.r .r) (.cons (.r .r) (.cons (.r .r) (.cons (.r .r) (.cons (.r .r) (.cons (.r .r) (.nil)))))))))))))))) (.nil))) fun g3 => ?_
 refine RW.g XK 49 [.o 1,.p,.e [2,3,10]] rfl rfl rfl ?_
 refine CW.cond rfl (fun h4 => ?_) (fun h4 => ?_)
 refine CW.g XK 49 [.n 1,.e [4]] rfl rfl rfl ?_
 refine CW.ret ?_
 exact Post.one (RV.b rfl (by simp_all [eqServer])) (AOs.a rfl (AOs.a rfl AOs.e))
 refine CW.g XK 49 [.p,.e [2,3],.o 4] rfl rfl rfl ?_
 refine RW.call rfl (laws_eqDisk_fn a.disk b.disk) rfl (.cons (.agg (.cons (.r .r) (.nil))) (.cons (.agg (.cons (.r .r) (.nil))) (.nil))) fun g5 => ?_
 refine RW.g XK 49 [.o 1,.p,.e [2,3,16]] rfl rfl rfl ?_
 refine CW.cond rfl (fun h6 => ?_) (fun h6 => ?_)
 refine CW.g XK 49 [.n 1,.e [4]] rfl rfl rfl ?_
 refine CW.ret ?_
 exact Post.one (RV.b rfl (by simp_all [eqServer])) (AOs.a rfl (AOs.a rfl AOs.e))
 refine CW.g XK 49 [.p,.e [2,3],.o 4] rfl rfl rfl ?_
 refine RW.call rfl (laws_eqJournal_fn a.journal b.journal) rfl (.cons (.agg (.cons (.r .r) (.cons (.r .r) (.cons (.r .r) (.cons (.r .r) (.cons (.r .r) (.cons (.r .r) (.nil)))))))) (.cons (.agg (.cons (.r .r) (.cons (.r .r) (.cons (.r .r) (.cons (.r .r) (.cons (.r .r) (.cons (.r .r) (.nil)))))))) (.nil))) fun g7 => ?_
 refine RW.g XK 49 [.o 1,.p,.e [2,3,22]] rfl rfl rfl ?_
 refine CW.cond rfl (fun h8 => ?_) (fun h8 => ?_)
 refine CW.g XK 49 [.n 1,.e [4]] rfl rfl rfl ?_
 refine CW.ret ?_
 exact Post.one (RV.b rfl (by simp_all [eqServer])) (AOs.a rfl (AOs.a rfl AOs.e))
 refine CW.g XK 49 [.p,.e [2,3],.o 4] rfl rfl rfl ?_
 refine RW.call rfl (laws_eqKeep_fn a.keep b.keep) rfl (.cons (.agg (.cons (.r .r) (.cons (.r .r) (.nil)))) (.cons (.agg (.cons (.r .r) (.cons (.r .r) (.nil)))) (.nil))) fun g9 => ?_
 refine RW.g XK 49 [.o 1,.p,.e [2,3,28]] rfl rfl rfl ?_
 refine CW.cond rfl (fun h10 => ?_) (fun h10 => ?_)
 refine CW.g XK 49 [.n 1,.e [4]] rfl rfl rfl ?_
 refine CW.ret ?_
 exact Post.one (RV.b rfl (by simp_all [eqServer])) (AOs.a rfl (AOs.a rfl AOs.e))
 refine CW.g XK 49 [.p,.e [2,3],.n 1,.e [2,3,33]] rfl rfl rfl ?_
 refine CW.cond rfl (fun h11 => ?_) (fun h11 => ?_)
 refine CW.g XK 49 [.n 1,.e [4]] rfl rfl rfl ?_
 refine CW.ret ?_
 exact Post.one (RV.b rfl (by simp_all [eqServer])) (AOs.a rfl (AOs.a rfl AOs.e))
 refine CW.g XK 49 [.p,.e [2,3],.n 1,.e [2,3,38]] rfl rfl rfl ?_
 refine CW.cond rfl (fun h12 => ?_) (fun h12 => ?_)
 refine CW.g XK 49 [.n 1,.e [4]] rfl rfl rfl ?_
 refine CW.ret ?_
 exact Post.one (RV.b rfl (by simp_all [eqServer])) (AOs.a rfl (AOs.a rfl AOs.e))
 refine CW.g XK 49 [.p,.e [2,3],.n 1,.e [2,3,43]] rfl rfl rfl ?_
 refine CW.cond rfl (fun h13 => ?_) (fun h13 => ?_)
 refine CW.g XK 49 [.n 1,.e [4]] rfl rfl rfl ?_
 refine CW.ret ?_
 exact Post.one (RV.b rfl (by simp_all [eqServer])) (AOs.a rfl (AOs.a rfl AOs.e))
 refine CW.g XK 49 [.p,.e [2,3],.n 1,.e [48]] rfl rfl rfl ?_
 refine CW.cond rfl (fun h14 => ?_) (fun h14 => ?_)
 refine CW.g XK 49 [.n 1,.e [4]] rfl rfl rfl ?_
 refine CW.ret ?_
 exact Post.one (RV.b rfl (by simp_all [eqServer])) (AOs.a rfl (AOs.a rfl AOs.e))
 refine CW.g XK 49 [.p,.e [],.n 1,.e [4]] rfl rfl rfl ?_
 refine CW.ret ?_
 exact Post.one (RV.b rfl (by simp_all [eqServer])) (AOs.a rfl (AOs.a rfl AOs.e))
set_option maxHeartbeats 4000000 in
theorem laws_eqServerS_fn (a : List Server) (b : List Server) : Eng.Fn E.P 40 [.one (.r (sl 27 Server.c a)), .one (.r (sl 27 Server.c b))] (.one (.one (.w (.v (.bool (eqS eqServer a b)))))) [.one (.r (sl 27 Server.c a)), .one (.r (sl 27 Server.c b))] := by
 refine Eng.Fn.intro (E := E) (rvs := [.tmp 4]) Tryz.func40 rfl rfl rfl (by simp [outSlots, moved, rvSlot, sl]) ?_
 intro B g bo
 refine CW.bound (x := .tmp 0) (n := a.length) (AsT.r) (fun hl0 => ?_)
 refine CW.bound (x := .tmp 1) (n := b.length) (AsT.r) (fun hl1 => ?_)
 refine CW.g XK 27 [.e [0,1],.n 1,.e [0,1],.n 1,.e [0,1,10]] rfl rfl rfl ?_
 refine CW.cond rfl (fun h1 => ?_) (fun h1 => ?_)
 refine CW.g XK 27 [.n 1,.e [4]] rfl rfl rfl ?_
 refine CW.ret ?_
 exact Post.one (RV.b rfl q7) (AOs.r (AOs.r AOs.e))
 refine CW.g XK 27 [.p,.e [0,1],.n 1,.e [0,1,5],.p] rfl rfl rfl ?_
 refine CW.loopI 27 (fun (i : Nat) => [(0, .r (sl 27 Server.c a)), (1, .r (sl 27 Server.c b)), (5, I (i : Int))]) (fun (i : Nat) => i ≤ a.length ∧ eqS eqServer (a.drop i) (b.drop i) = eqS eqServer a b) (fun (i : Nat) => a.length - i) 0 rfl (Le.c rfl <| Le.c rfl <| Le.c rfl <| Le.e) ⟨by omega, by simp⟩ ?_
 rintro i ⟨hb, hr⟩
 have hlen : a.length = b.length := by simp at h1; omega
 refine CW.g XK 27 [.n 1,.e [0,1,5,14]] rfl rfl rfl ?_
 refine CW.cond rfl (fun h2 => ?_) (fun h2 => ?_)
 have hii : i < a.length := by have := h2; simp at this; first | exact this | omega | (simp; done) | (simp; omega)
 obtain ⟨ei, hei⟩ : ∃ e, a[i]? = some e := ⟨_, List.getElem?_eq_getElem hii⟩
 have hdi := drop_get hei
 have hib : i < b.length := by omega
 obtain ⟨eb, heb⟩ : ∃ e, b[i]? = some e := ⟨_, List.getElem?_eq_getElem hib⟩
 have hdb := drop_get heb
 refine CW.g XK 27 [.p,.e [0,1,5],.p,.p,.p] rfl rfl rfl ?_
 refine CW.drawn (by kernel_rfl) ?_
 refine RQ.k XK 27 2 rfl ?_
 (conv=>whnf);refine ⟨rfl,?_⟩
 refine RQ.v rfl (V.indexS rfl rfl rfl rfl rfl rfl Server.len hei) ?_
 refine RQ.k XK 27 3 rfl ?_
 (conv=>whnf);refine ⟨rfl,?_⟩
 refine RQ.v rfl (V.indexS rfl rfl rfl rfl rfl rfl Server.len heb) ?_
 refine RQ.k XK 27 1 rfl ?_
 (conv=>whnf);refine ⟨rfl,?_⟩
 refine RQ.cons rfl (QOK.call (laws_eqServer_fn ei eb) rfl (.cons (.agg (.cons (.r .r) (.cons (.r .r) (.cons (.r .r) (.cons (.r .r) (.cons (.r .r) (.cons (.r .r) (.cons (.r .r) (.cons (.r .r) (.cons (.r .r) (.cons (.r .r) (.cons (.r .r) (.cons (.r .r) (.cons (.r .r) (.cons (.r .r) (.cons (.r .r) (.cons (.r .r) (.cons (.r .r) (.cons (.r .r) (.cons (.r .r) (.cons (.r .r) (.cons (.r .r) (.cons (.r .r) (.cons (.r .r) (.cons (.r .r) (.cons (.r .r) (.cons (.r .r) (.cons (.r .r) (.nil))))))))))))))))))))))))))))) (.cons (.agg (.cons (.r .r) (.cons (.r .r) (.cons (.r .r) (.cons (.r .r) (.cons (.r .r) (.cons (.r .r) (.cons (.r .r) (.cons (.r .r) (.cons (.r .r) (.cons (.r .r) (.cons (.r .r) (.cons (.r .r) (.cons (.r .r) (.cons (.r .r) (.cons (.r .r) (.cons (.r .r) (.cons (.r .r) (.cons (.r .r) (.cons (.r .r) (.cons (.r .r) (.cons (.r .r) (.cons (.r .r) (.cons (.r .r) (.cons (.r .r) (.cons (.r .r) (.cons (.r .r) (.cons (.r .r) (.nil))))))))))))))))))))))))))))) (.nil))) ?_)
 refine RQ.k XK 27 1 rfl ?_
 (conv=>whnf);refine ⟨rfl,?_⟩
 refine RQ.nil ?_
 refine CW.g XK 27 [.e [0,1,5,26]] rfl rfl rfl ?_
 refine CW.cond rfl (fun h3 => ?_) (fun h3 => ?_)
 refine CW.g XK 27 [.n 1,.e [4]] rfl rfl rfl ?_
 refine CW.ret ?_
 exact Post.one (RV.b rfl q7) (AOs.r (AOs.r AOs.e))
 refine CW.g XK 27 [.p,.e [0,1,5],.o 1] rfl rfl rfl ?_
 refine RW.v rfl (V.inc rfl rfl rfl hii hl0) ?_
 refine RW.g XK 27 [.o 1,.p] rfl rfl rfl ?_
 exact ⟨i + 1, by omega, ⟨by omega, by simp_all [eqS, eqI, eqStr, eqB]⟩, rfl, Le.c rfl <| Le.c rfl <| Le.c rfl <| Le.e⟩
 have hii : a.length ≤ i := by have := h2; simp at this; first | exact this | omega | (simp; done) | (simp; omega)
 have hdi : a.drop i = [] := List.drop_eq_nil_of_le hii
 refine CW.exit ?_
 refine CW.g XK 27 [.e [],.n 1,.e [4]] rfl rfl rfl ?_
 refine CW.ret ?_
 exact Post.one (RV.b rfl q12) (AOs.r (AOs.r AOs.e))
end Go.Proofs.YtdipdkfbaehglaaGreatDoor.Y
