import Derived.Test.YtdipdkfbaehglaaGreatDoorWSoundO
namespace Go.Proofs.YtdipdkfbaehglaaGreatDoor.Y
open Go Go.RowKit Go.Eng Go.Proofs
set_option maxRecDepth 10000
set_option maxHeartbeats 4000000 in
theorem laws_eqDisk_fn (a : Disk) (b : Disk) : Eng.Fn E.P 126 [.agg ((Disk.c a).map .r), .agg ((Disk.c b).map .r)] (.one (.one (.w (.v (.bool (eqDisk a b)))))) [.agg ((Disk.c a).map .r), .agg ((Disk.c b).map .r)] := by
 refine Eng.Fn.intro (E := E) (rvs := [.tmp 4]) Tryz.func126 rfl rfl rfl (by simp [outSlots, moved, rvSlot, sl]) ?_
 intro B g bo
 refine CW.h XK 11 [.e [0,1],.o 1] rfl ?_;(conv=>whnf);intro b1;(conv=>whnf);refine ⟨rfl,?_⟩
 refine RW.freezeB (ts := (Disk.c a)) 2 rfl (DRd.r DRd.e) ?_
 refine RW.h XK 11 [.o 1] rfl ?_;(conv=>whnf);intro b2;(conv=>whnf);refine ⟨rfl,?_⟩
 refine RW.freezeB (ts := (Disk.c b)) 3 rfl (DRd.r DRd.e) ?_
 refine RW.g XK 11 [.o 1,.p,.e [2,3],.o 4] rfl rfl rfl ?_
 refine RW.call rfl (laws_eqFileS_fn a.files b.files) rfl (.cons (.one (.r .r)) (.cons (.one (.r .r)) (.nil))) fun g3 => ?_
 refine RW.g XK 11 [.o 1,.p,.e [10]] rfl rfl rfl ?_
 refine CW.cond rfl (fun h4 => ?_) (fun h4 => ?_)
 refine CW.g XK 11 [.n 1,.e [4]] rfl rfl rfl ?_
 refine CW.ret ?_
 exact Post.one (RV.b rfl (by simp_all [eqDisk])) (AOs.a rfl (AOs.a rfl AOs.e))
 refine CW.g XK 11 [.p,.e [],.n 1,.e [4]] rfl rfl rfl ?_
 refine CW.ret ?_
 exact Post.one (RV.b rfl (by simp_all [eqDisk])) (AOs.a rfl (AOs.a rfl AOs.e))
set_option maxHeartbeats 4000000 in
theorem laws_eqJournal_fn (a : Journal) (b : Journal) : Eng.Fn E.P 127 [.agg ((Journal.c a).map .r), .agg ((Journal.c b).map .r)] (.one (.one (.w (.v (.bool (eqJournal a b)))))) [.agg ((Journal.c a).map .r), .agg ((Journal.c b).map .r)] := by
 refine Eng.Fn.intro (E := E) (rvs := [.tmp 4]) Tryz.func127 rfl rfl rfl (by simp [outSlots, moved, rvSlot, sl]) ?_
 intro B g bo
 refine CW.h XK 26 [.e [0,1],.o 1] rfl ?_;(conv=>whnf);intro b1;(conv=>whnf);refine ⟨rfl,?_⟩
 refine RW.freezeB (ts := (Journal.c a)) 2 rfl (DRd.r (DRd.r (DRd.r (DRd.r (DRd.r (DRd.r DRd.e)))))) ?_
 refine RW.h XK 26 [.o 1] rfl ?_;(conv=>whnf);intro b2;(conv=>whnf);refine ⟨rfl,?_⟩
 refine RW.freezeB (ts := (Journal.c b)) 3 rfl (DRd.r (DRd.r (DRd.r (DRd.r (DRd.r (DRd.r DRd.e)))))) ?_
 refine RW.g XK 26 [.o 1,.p,.e [2,3],.n 1,.e [2,3,9]] rfl rfl rfl ?_
 refine CW.cond rfl (fun h3 => ?_) (fun h3 => ?_)
 refine CW.g XK 26 [.n 1,.e [4]] rfl rfl rfl ?_
 refine CW.ret ?_
 exact Post.one (RV.b rfl (by simp_all [eqJournal])) (AOs.a rfl (AOs.a rfl AOs.e))
 refine CW.g XK 26 [.p,.e [2,3],.n 1,.e [2,3,14]] rfl rfl rfl ?_
 refine CW.cond rfl (fun h4 => ?_) (fun h4 => ?_)
 refine CW.g XK 26 [.n 1,.e [4]] rfl rfl rfl ?_
 refine CW.ret ?_
 exact Post.one (RV.b rfl (by simp_all [eqJournal])) (AOs.a rfl (AOs.a rfl AOs.e))
 refine CW.g XK 26 [.p,.e [2,3],.n 1,.e [2,3,19]] rfl rfl rfl ?_
 refine CW.cond rfl (fun h5 => ?_) (fun h5 => ?_)
 refine CW.g XK 26 [.n 1,.e [4]] rfl rfl rfl ?_
 refine CW.ret ?_
 exact Post.one (RV.b rfl (by simp_all [eqJournal])) (AOs.a rfl (AOs.a rfl AOs.e))
 refine CW.g XK 26 [.p,.e [2,3],.o 4] rfl rfl rfl ?_
 refine RW.call rfl (laws_eqLog_fn a.log b.log) rfl (.cons (.agg (.cons (.r .r) (.cons (.r .r) (.cons (.r .r) (.nil))))) (.cons (.agg (.cons (.r .r) (.cons (.r .r) (.cons (.r .r) (.nil))))) (.nil))) fun g6 => ?_
 refine RW.g XK 26 [.o 1,.p,.e [25]] rfl rfl rfl ?_
 refine CW.cond rfl (fun h7 => ?_) (fun h7 => ?_)
 refine CW.g XK 26 [.n 1,.e [4]] rfl rfl rfl ?_
 refine CW.ret ?_
 exact Post.one (RV.b rfl (by simp_all [eqJournal])) (AOs.a rfl (AOs.a rfl AOs.e))
 refine CW.g XK 26 [.p,.e [],.n 1,.e [4]] rfl rfl rfl ?_
 refine CW.ret ?_
 exact Post.one (RV.b rfl (by simp_all [eqJournal])) (AOs.a rfl (AOs.a rfl AOs.e))
set_option maxHeartbeats 4000000 in
theorem laws_eqSession_fn (a : Session) (b : Session) : Eng.Fn E.P 165 [.agg ((Session.c a).map .r), .agg ((Session.c b).map .r)] (.one (.one (.w (.v (.bool (eqSession a b)))))) [.agg ((Session.c a).map .r), .agg ((Session.c b).map .r)] := by
 refine Eng.Fn.intro (E := E) (rvs := [.tmp 4]) Tryz.func165 rfl rfl rfl (by simp [outSlots, moved, rvSlot, sl]) ?_
 intro B g bo
 refine CW.h XK 20 [.e [0,1],.o 1] rfl ?_;(conv=>whnf);intro b1;(conv=>whnf);refine ⟨rfl,?_⟩
 refine RW.freezeB (ts := (Session.c a)) 2 rfl (DRd.r (DRd.r (DRd.r DRd.e))) ?_
 refine RW.h XK 20 [.o 1] rfl ?_;(conv=>whnf);intro b2;(conv=>whnf);refine ⟨rfl,?_⟩
 refine RW.freezeB (ts := (Session.c b)) 3 rfl (DRd.r (DRd.r (DRd.r DRd.e))) ?_
 refine RW.g XK 20 [.o 1,.p,.e [2,3],.n 1,.e [2,3,9]] rfl rfl rfl ?_
 refine CW.cond rfl (fun h3 => ?_) (fun h3 => ?_)
 refine CW.g XK 20 [.n 1,.e [4]] rfl rfl rfl ?_
 refine CW.ret ?_
 exact Post.one (RV.b rfl (by simp_all [eqSession])) (AOs.a rfl (AOs.a rfl AOs.e))
 refine CW.g XK 20 [.p,.e [2,3],.n 1,.e [2,3,14]] rfl rfl rfl ?_
 refine CW.cond rfl (fun h4 => ?_) (fun h4 => ?_)
 refine CW.g XK 20 [.n 1,.e [4]] rfl rfl rfl ?_
 refine CW.ret ?_
 exact Post.one (RV.b rfl (by simp_all [eqSession])) (AOs.a rfl (AOs.a rfl AOs.e))
 refine CW.g XK 20 [.p,.e [2,3],.n 1,.e [19]] rfl rfl rfl ?_
 refine CW.cond rfl (fun h5 => ?_) (fun h5 => ?_)
 refine CW.g XK 20 [.n 1,.e [4]] rfl rfl rfl ?_
 refine CW.ret ?_
 exact Post.one (RV.b rfl (by simp_all [eqSession])) (AOs.a rfl (AOs.a rfl AOs.e))
 refine CW.g XK 20 [.p,.e [],.n 1,.e [4]] rfl rfl rfl ?_
 refine CW.ret ?_
 exact Post.one (RV.b rfl (by simp_all [eqSession])) (AOs.a rfl (AOs.a rfl AOs.e))
set_option maxHeartbeats 4000000 in
theorem laws_eqSessionS_fn (a : List Session) (b : List Session) : Eng.Fn E.P 153 [.one (.r (sl 3 Session.c a)), .one (.r (sl 3 Session.c b))] (.one (.one (.w (.v (.bool (eqS eqSession a b)))))) [.one (.r (sl 3 Session.c a)), .one (.r (sl 3 Session.c b))] := by
 refine Eng.Fn.intro (E := E) (rvs := [.tmp 4]) Tryz.func153 rfl rfl rfl (by simp [outSlots, moved, rvSlot, sl]) ?_
 intro B g bo
 refine CW.bound (x := .tmp 0) (n := a.length) (AsT.r) (fun hl0 => ?_)
 refine CW.bound (x := .tmp 1) (n := b.length) (AsT.r) (fun hl1 => ?_)
 refine CW.g XK 27 [.e [0,1],.n 1,.e [0,1],.n 1,.e [0,1,10]] rfl rfl rfl ?_
 refine CW.cond rfl (fun h1 => ?_) (fun h1 => ?_)
 refine CW.g XK 27 [.n 1,.e [4]] rfl rfl rfl ?_
 refine CW.ret ?_
 exact Post.one (RV.b rfl q7) (AOs.r (AOs.r AOs.e))
 refine CW.g XK 27 [.p,.e [0,1],.n 1,.e [0,1,5],.p] rfl rfl rfl ?_
 refine CW.loopI 27 (fun (i : Nat) => [(0, .r (sl 3 Session.c a)), (1, .r (sl 3 Session.c b)), (5, I (i : Int))]) (fun (i : Nat) => i ≤ a.length ∧ eqS eqSession (a.drop i) (b.drop i) = eqS eqSession a b) (fun (i : Nat) => a.length - i) 0 rfl (Le.c rfl <| Le.c rfl <| Le.c rfl <| Le.e) ⟨by omega, by simp⟩ ?_
 rintro i ⟨hb, hr⟩
 have hlen : a.length = b.length := by simp at h1; omega
 refine CW.g XK 27 [.n 1,.e [0,1,5,14]] rfl rfl rfl ?_
 refine CW.cond rfl (fun h2 => ?_) (fun h2 => ?_)
 have hii : i < a.length := by have := h2; simp at this; first | exact this | omega | (simp; done) | (simp; omega)
 obtain ⟨ei, hei⟩ : ∃ e, a[i]? = some e := ⟨_, List.getElem?_eq_getElem hii⟩
 have hdi := drop_get hei
 have hib : i < b.length := by omega
 obtain ⟨eb, heb⟩ : ∃ e, b[i]? = some e := ⟨_, List.getElem?_eq_getElem hib⟩
 have hdb := drop_get heb
 refine CW.g XK 27 [.p,.e [0,1,5],.p,.p,.p] rfl rfl rfl ?_
 refine CW.drawn (by kernel_rfl) ?_
 refine RQ.k XK 27 2 rfl ?_
 (conv=>whnf);refine ⟨rfl,?_⟩
 refine RQ.v rfl (V.indexS rfl rfl rfl rfl rfl rfl Session.len hei) ?_
 refine RQ.k XK 27 3 rfl ?_
 (conv=>whnf);refine ⟨rfl,?_⟩
 refine RQ.v rfl (V.indexS rfl rfl rfl rfl rfl rfl Session.len heb) ?_
 refine RQ.k XK 27 1 rfl ?_
 (conv=>whnf);refine ⟨rfl,?_⟩
 refine RQ.cons rfl (QOK.call (laws_eqSession_fn ei eb) rfl (.cons (.agg (.cons (.r .r) (.cons (.r .r) (.cons (.r .r) (.nil))))) (.cons (.agg (.cons (.r .r) (.cons (.r .r) (.cons (.r .r) (.nil))))) (.nil))) ?_)
 refine RQ.k XK 27 1 rfl ?_
 (conv=>whnf);refine ⟨rfl,?_⟩
 refine RQ.nil ?_
 refine CW.g XK 27 [.e [0,1,5,26]] rfl rfl rfl ?_
 refine CW.cond rfl (fun h3 => ?_) (fun h3 => ?_)
 refine CW.g XK 27 [.n 1,.e [4]] rfl rfl rfl ?_
 refine CW.ret ?_
 exact Post.one (RV.b rfl q7) (AOs.r (AOs.r AOs.e))
 refine CW.g XK 27 [.p,.e [0,1,5],.o 1] rfl rfl rfl ?_
 refine RW.v rfl (V.inc rfl rfl rfl hii hl0) ?_
 refine RW.g XK 27 [.o 1,.p] rfl rfl rfl ?_
 exact ⟨i + 1, by omega, ⟨by omega, by simp_all [eqS, eqI, eqStr, eqB]⟩, rfl, Le.c rfl <| Le.c rfl <| Le.c rfl <| Le.e⟩
 have hii : a.length ≤ i := by have := h2; simp at this; first | exact this | omega | (simp; done) | (simp; omega)
 have hdi : a.drop i = [] := List.drop_eq_nil_of_le hii
 refine CW.exit ?_
 refine CW.g XK 27 [.e [],.n 1,.e [4]] rfl rfl rfl ?_
 refine CW.ret ?_
 exact Post.one (RV.b rfl q12) (AOs.r (AOs.r AOs.e))
set_option maxHeartbeats 4000000 in
theorem laws_eqItem_fn (a : Item) (b : Item) : Eng.Fn E.P 166 [.agg ((Item.c a).map .r), .agg ((Item.c b).map .r)] (.one (.one (.w (.v (.bool (eqItem a b)))))) [.agg ((Item.c a).map .r), .agg ((Item.c b).map .r)] := by
 refine Eng.Fn.intro (E := E) (rvs := [.tmp 4]) Tryz.func166 rfl rfl rfl (by simp [outSlots, moved, rvSlot, sl]) ?_
 intro B g bo
 refine CW.h XK 20 [.e [0,1],.o 1] rfl ?_;(conv=>whnf);intro b1;(conv=>whnf);refine ⟨rfl,?_⟩
 refine RW.freezeB (ts := (Item.c a)) 2 rfl (DRd.r (DRd.r (DRd.r DRd.e))) ?_
 refine RW.h XK 20 [.o 1] rfl ?_;(conv=>whnf);intro b2;(conv=>whnf);refine ⟨rfl,?_⟩
 refine RW.freezeB (ts := (Item.c b)) 3 rfl (DRd.r (DRd.r (DRd.r DRd.e))) ?_
 refine RW.g XK 20 [.o 1,.p,.e [2,3],.n 1,.e [2,3,9]] rfl rfl rfl ?_
 refine CW.cond rfl (fun h3 => ?_) (fun h3 => ?_)
 refine CW.g XK 20 [.n 1,.e [4]] rfl rfl rfl ?_
 refine CW.ret ?_
 exact Post.one (RV.b rfl (by simp_all [eqItem])) (AOs.a rfl (AOs.a rfl AOs.e))
 refine CW.g XK 20 [.p,.e [2,3],.n 1,.e [2,3,14]] rfl rfl rfl ?_
 refine CW.cond rfl (fun h4 => ?_) (fun h4 => ?_)
 refine CW.g XK 20 [.n 1,.e [4]] rfl rfl rfl ?_
 refine CW.ret ?_
 exact Post.one (RV.b rfl (by simp_all [eqItem])) (AOs.a rfl (AOs.a rfl AOs.e))
 refine CW.g XK 20 [.p,.e [2,3],.n 1,.e [19]] rfl rfl rfl ?_
 refine CW.cond rfl (fun h5 => ?_) (fun h5 => ?_)
 refine CW.g XK 20 [.n 1,.e [4]] rfl rfl rfl ?_
 refine CW.ret ?_
 exact Post.one (RV.b rfl (by simp_all [eqItem])) (AOs.a rfl (AOs.a rfl AOs.e))
 refine CW.g XK 20 [.p,.e [],.n 1,.e [4]] rfl rfl rfl ?_
 refine CW.ret ?_
 exact Post.one (RV.b rfl (by simp_all [eqItem])) (AOs.a rfl (AOs.a rfl AOs.e))
set_option maxHeartbeats 4000000 in
theorem laws_eqItemS_fn (a : List Item) (b : List Item) : Eng.Fn E.P 154 [.one (.r (sl 3 Item.c a)), .one (.r (sl 3 Item.c b))] (.one (.one (.w (.v (.bool (eqS eqItem a b)))))) [.one (.r (sl 3 Item.c a)), .one (.r (sl 3 Item.c b))] := by
 refine Eng.Fn.intro (E := E) (rvs := [.tmp 4]) Tryz.func154 rfl rfl rfl (by simp [outSlots, moved, rvSlot, sl]) ?_
 intro B g bo
 refine CW.bound (x := .tmp 0) (n := a.length) (AsT.r) (fun hl0 => ?_)
 refine CW.bound (x := .tmp 1) (n := b.length) (AsT.r) (fun hl1 => ?_)
 refine CW.g XK 27 [.e [0,1],.n 1,.e [0,1],.n 1,.e [0,1,10]] rfl rfl rfl ?_
 refine CW.cond rfl (fun h1 => ?_) (fun h1 => ?_)
 refine CW.g XK 27 [.n 1,.e [4]] rfl rfl rfl ?_
 refine CW.ret ?_
 exact Post.one (RV.b rfl q7) (AOs.r (AOs.r AOs.e))
 refine CW.g XK 27 [.p,.e [0,1],.n 1,.e [0,1,5],.p] rfl rfl rfl ?_
 refine CW.loopI 27 (fun (i : Nat) => [(0, .r (sl 3 Item.c a)), (1, .r (sl 3 Item.c b)), (5, I (i : Int))]) (fun (i : Nat) => i ≤ a.length ∧ eqS eqItem (a.drop i) (b.drop i) = eqS eqItem a b) (fun (i : Nat) => a.length - i) 0 rfl (Le.c rfl <| Le.c rfl <| Le.c rfl <| Le.e) ⟨by omega, by simp⟩ ?_
 rintro i ⟨hb, hr⟩
 have hlen : a.length = b.length := by simp at h1; omega
 refine CW.g XK 27 [.n 1,.e [0,1,5,14]] rfl rfl rfl ?_
 refine CW.cond rfl (fun h2 => ?_) (fun h2 => ?_)
 have hii : i < a.length := by have := h2; simp at this; first | exact this | omega | (simp; done) | (simp; omega)
 obtain ⟨ei, hei⟩ : ∃ e, a[i]? = some e := ⟨_, List.getElem?_eq_getElem hii⟩
 have hdi := drop_get hei
 have hib : i < b.length := by omega
 obtain ⟨eb, heb⟩ : ∃ e, b[i]? = some e := ⟨_, List.getElem?_eq_getElem hib⟩
 have hdb := drop_get heb
 refine CW.g XK 27 [.p,.e [0,1,5],.p,.p,.p] rfl rfl rfl ?_
 refine CW.drawn (by kernel_rfl) ?_
 refine RQ.k XK 27 2 rfl ?_
 (conv=>whnf);refine ⟨rfl,?_⟩
 refine RQ.v rfl (V.indexS rfl rfl rfl rfl rfl rfl Item.len hei) ?_
 refine RQ.k XK 27 3 rfl ?_
 (conv=>whnf);refine ⟨rfl,?_⟩
 refine RQ.v rfl (V.indexS rfl rfl rfl rfl rfl rfl Item.len heb) ?_
 refine RQ.k XK 27 1 rfl ?_
 (conv=>whnf);refine ⟨rfl,?_⟩
 refine RQ.cons rfl (QOK.call (laws_eqItem_fn ei eb) rfl (.cons (.agg (.cons (.r .r) (.cons (.r .r) (.cons (.r .r) (.nil))))) (.cons (.agg (.cons (.r .r) (.cons (.r .r) (.cons (.r .r) (.nil))))) (.nil))) ?_)
 refine RQ.k XK 27 1 rfl ?_
 (conv=>whnf);refine ⟨rfl,?_⟩
 refine RQ.nil ?_
 refine CW.g XK 27 [.e [0,1,5,26]] rfl rfl rfl ?_
 refine CW.cond rfl (fun h3 => ?_) (fun h3 => ?_)
 refine CW.g XK 27 [.n 1,.e [4]] rfl rfl rfl ?_
 refine CW.ret ?_
 exact Post.one (RV.b rfl q7) (AOs.r (AOs.r AOs.e))
 refine CW.g XK 27 [.p,.e [0,1,5],.o 1] rfl rfl rfl ?_
 refine RW.v rfl (V.inc rfl rfl rfl hii hl0) ?_
 refine RW.g XK 27 [.o 1,.p] rfl rfl rfl ?_
 exact ⟨i + 1, by omega, ⟨by omega, by simp_all [eqS, eqI, eqStr, eqB]⟩, rfl, Le.c rfl <| Le.c rfl <| Le.c rfl <| Le.e⟩
 have hii : a.length ≤ i := by have := h2; simp at this; first | exact this | omega | (simp; done) | (simp; omega)
 have hdi : a.drop i = [] := List.drop_eq_nil_of_le hii
 refine CW.exit ?_
 refine CW.g XK 27 [.e [],.n 1,.e [4]] rfl rfl rfl ?_
 refine CW.ret ?_
 exact Post.one (RV.b rfl q12) (AOs.r (AOs.r AOs.e))
set_option maxHeartbeats 4000000 in
theorem laws_eqKeep_fn (a : Keep) (b : Keep) : Eng.Fn E.P 128 [.agg ((Keep.c a).map .r), .agg ((Keep.c b).map .r)] (.one (.one (.w (.v (.bool (eqKeep a b)))))) [.agg ((Keep.c a).map .r), .agg ((Keep.c b).map .r)] := by
 refine Eng.Fn.intro (E := E) (rvs := [.tmp 4]) Tryz.func128 rfl rfl rfl (by simp [outSlots, moved, rvSlot, sl]) ?_
 intro B g bo
 refine CW.h XK 17 [.e [0,1],.o 1] rfl ?_;(conv=>whnf);intro b1;(conv=>whnf);refine ⟨rfl,?_⟩
 refine RW.freezeB (ts := (Keep.c a)) 2 rfl (DRd.r (DRd.r DRd.e)) ?_
 refine RW.h XK 17 [.o 1] rfl ?_;(conv=>whnf);intro b2;(conv=>whnf);refine ⟨rfl,?_⟩
 refine RW.freezeB (ts := (Keep.c b)) 3 rfl (DRd.r (DRd.r DRd.e)) ?_
 refine RW.g XK 17 [.o 1,.p,.e [2,3],.o 4] rfl rfl rfl ?_
 refine RW.call rfl (laws_eqSessionS_fn a.sessions b.sessions) rfl (.cons (.one (.r .r)) (.cons (.one (.r .r)) (.nil))) fun g3 => ?_
 refine RW.g XK 17 [.o 1,.p,.e [2,3,10]] rfl rfl rfl ?_
 refine CW.cond rfl (fun h4 => ?_) (fun h4 => ?_)
 refine CW.g XK 17 [.n 1,.e [4]] rfl rfl rfl ?_
 refine CW.ret ?_
 exact Post.one (RV.b rfl (by simp_all [eqKeep])) (AOs.a rfl (AOs.a rfl AOs.e))
 refine CW.g XK 17 [.p,.e [2,3],.o 4] rfl rfl rfl ?_
 refine RW.call rfl (laws_eqItemS_fn a.items b.items) rfl (.cons (.one (.r .r)) (.cons (.one (.r .r)) (.nil))) fun g5 => ?_
 refine RW.g XK 17 [.o 1,.p,.e [16]] rfl rfl rfl ?_
 refine CW.cond rfl (fun h6 => ?_) (fun h6 => ?_)
 refine CW.g XK 17 [.n 1,.e [4]] rfl rfl rfl ?_
 refine CW.ret ?_
 exact Post.one (RV.b rfl (by simp_all [eqKeep])) (AOs.a rfl (AOs.a rfl AOs.e))
 refine CW.g XK 17 [.p,.e [],.n 1,.e [4]] rfl rfl rfl ?_
 refine CW.ret ?_
 exact Post.one (RV.b rfl (by simp_all [eqKeep])) (AOs.a rfl (AOs.a rfl AOs.e))
set_option maxHeartbeats 4000000 in
theorem laws_eqServer_fn (a : Server) (b : Server) : Eng.Fn E.P 82 [.agg ((Server.c a).map .r), .agg ((Server.c b).map .r)] (.one (.one (.w (.v (.bool (eqServer a b)))))) [.agg ((Server.c a).map .r), .agg ((Server.c b).map .r)] := by
 refine Eng.Fn.intro (E := E) (rvs := [.tmp 4]) Tryz.func82 rfl rfl rfl (by simp [outSlots, moved, rvSlot, sl]) ?_
 intro B g bo
 refine CW.h XK 49 [.e [0,1],.o 1] rfl ?_;(conv=>whnf);intro b1;(conv=>whnf);refine ⟨rfl,?_⟩
 refine RW.freezeB (ts := (Server.c a)) 2 rfl (DRd.r (DRd.r (DRd.r (DRd.r (DRd.r (DRd.r (DRd.r (DRd.r (DRd.r (DRd.r (DRd.r (DRd.r (DRd.r (DRd.r (DRd.r (DRd.r (DRd.r (DRd.r (DRd.r (DRd.r (DRd.r (DRd.r (DRd.r (DRd.r (DRd.r (DRd.r (DRd.r DRd.e))))))))))))))))))))))))))) ?_
 refine RW.h XK 49 [.o 1] rfl ?_;(conv=>whnf);intro b2;(conv=>whnf);refine ⟨rfl,?_⟩
 refine RW.freezeB (ts := (Server.c b)) 3 rfl (DRd.r (DRd.r (DRd.r (DRd.r (DRd.r (DRd.r (DRd.r (DRd.r (DRd.r (DRd.r (DRd.r (DRd.r (DRd.r (DRd.r (DRd.r (DRd.r (DRd.r (DRd.r (DRd.r (DRd.r (DRd.r (DRd.r (DRd.r (DRd.r (DRd.r (DRd.r (DRd.r DRd.e))))))))))))))))))))))))))) ?_
 refine RW.g XK 49 [.o 1,.p,.e [2,3],.o 4] rfl rfl rfl ?_
 refine RW.call rfl (laws_eqNode_fn a.node b.node) rfl (.cons (.agg (.cons (.r .r) (.cons (.r .r) (.cons (.r .r) (.cons (.r .r) (.cons (.r .r) (.cons (.r .r) (.cons (.r .r) (.cons (.r .r) (.cons (.r .r) (.cons (.r .r) (.cons (.r .r) (.cons (.r .r) (.cons (.r .r) (.cons (.r .r) (.nil)))))))))))))))) (.cons (.agg (.cons (.r .r) (.cons (.r .r) (.cons (.r .r) (.cons (.r .r) (.cons (.r .r) (.cons (.r .r) (.cons (.r .r) (.cons (.r .r) (.cons (.r .r) (.cons (.r .r) (.cons (.r .r) (.cons (.r .r) (.cons (.r .r) (.cons (.r .r) (.nil)))))))))))))))) (.nil))) fun g3 => ?_
 refine RW.g XK 49 [.o 1,.p,.e [2,3,10]] rfl rfl rfl ?_
 refine CW.cond rfl (fun h4 => ?_) (fun h4 => ?_)
 refine CW.g XK 49 [.n 1,.e [4]] rfl rfl rfl ?_
 refine CW.ret ?_
 exact Post.one (RV.b rfl (by simp_all [eqServer])) (AOs.a rfl (AOs.a rfl AOs.e))
 refine CW.g XK 49 [.p,.e [2,3],.o 4] rfl rfl rfl ?_
 refine RW.call rfl (laws_eqDisk_fn a.disk b.disk) rfl (.cons (.agg (.cons (.r .r) (.nil))) (.cons (.agg (.cons (.r .r) (.nil))) (.nil))) fun g5 => ?_
 refine RW.g XK 49 [.o 1,.p,.e [2,3,16]] rfl rfl rfl ?_
 refine CW.cond rfl (fun h6 => ?_) (fun h6 => ?_)
 refine CW.g XK 49 [.n 1,.e [4]] rfl rfl rfl ?_
 refine CW.ret ?_
 exact Post.one (RV.b rfl (by simp_all [eqServer])) (AOs.a rfl (AOs.a rfl AOs.e))
 refine CW.g XK 49 [.p,.e [2,3],.o 4] rfl rfl rfl ?_
 refine RW.call rfl (laws_eqJournal_fn a.journal b.journal) rfl (.cons (.agg (.cons (.r .r) (.cons (.r .r) (.cons (.r .r) (.cons (.r .r) (.cons (.r .r) (.cons (.r .r) (.nil)))))))) (.cons (.agg (.cons (.r .r) (.cons (.r .r) (.cons (.r .r) (.cons (.r .r) (.cons (.r .r) (.cons (.r .r) (.nil)))))))) (.nil))) fun g7 => ?_
 refine RW.g XK 49 [.o 1,.p,.e [2,3,22]] rfl rfl rfl ?_
 refine CW.cond rfl (fun h8 => ?_) (fun h8 => ?_)
 refine CW.g XK 49 [.n 1,.e [4]] rfl rfl rfl ?_
 refine CW.ret ?_
 exact Post.one (RV.b rfl (by simp_all [eqServer])) (AOs.a rfl (AOs.a rfl AOs.e))
 refine CW.g XK 49 [.p,.e [2,3],.o 4] rfl rfl rfl ?_
 refine RW.call rfl (laws_eqKeep_fn a.keep b.keep) rfl (.cons (.agg (.cons (.r .r) (.cons (.r .r) (.nil)))) (.cons (.agg (.cons (.r .r) (.cons (.r .r) (.nil)))) (.nil))) fun g9 => ?_
 refine RW.g XK 49 [.o 1,.p,.e [2,3,28]] rfl rfl rfl ?_
 refine CW.cond rfl (fun h10 => ?_) (fun h10 => ?_)
 refine CW.g XK 49 [.n 1,.e [4]] rfl rfl rfl ?_
 refine CW.ret ?_
 exact Post.one (RV.b rfl (by simp_all [eqServer])) (AOs.a rfl (AOs.a rfl AOs.e))
 refine CW.g XK 49 [.p,.e [2,3],.n 1,.e [2,3,33]] rfl rfl rfl ?_
 refine CW.cond rfl (fun h11 => ?_) (fun h11 => ?_)
 refine CW.g XK 49 [.n 1,.e [4]] rfl rfl rfl ?_
 refine CW.ret ?_
 exact Post.one (RV.b rfl (by simp_all [eqServer])) (AOs.a rfl (AOs.a rfl AOs.e))
 refine CW.g XK 49 [.p,.e [2,3],.n 1,.e [2,3,38]] rfl rfl rfl ?_
 refine CW.cond rfl (fun h12 => ?_) (fun h12 => ?_)
 refine CW.g XK 49 [.n 1,.e [4]] rfl rfl rfl ?_
 refine CW.ret ?_
 exact Post.one (RV.b rfl (by simp_all [eqServer])) (AOs.a rfl (AOs.a rfl AOs.e))
 refine CW.g XK 49 [.p,.e [2,3],.n 1,.e [2,3,43]] rfl rfl rfl ?_
 refine CW.cond rfl (fun h13 => ?_) (fun h13 => ?_)
 refine CW.g XK 49 [.n 1,.e [4]] rfl rfl rfl ?_
 refine CW.ret ?_
 exact Post.one (RV.b rfl (by simp_all [eqServer])) (AOs.a rfl (AOs.a rfl AOs.e))
 refine CW.g XK 49 [.p,.e [2,3],.n 1,.e [48]] rfl rfl rfl ?_
 refine CW.cond rfl (fun h14 => ?_) (fun h14 => ?_)
 refine CW.g XK 49 [.n 1,.e [4]] rfl rfl rfl ?_
 refine CW.ret ?_
 exact Post.one (RV.b rfl (by simp_all [eqServer])) (AOs.a rfl (AOs.a rfl AOs.e))
 refine CW.g XK 49 [.p,.e [],.n 1,.e [4]] rfl rfl rfl ?_
 refine CW.ret ?_
 exact Post.one (RV.b rfl (by simp_all [eqServer])) (AOs.a rfl (AOs.a rfl AOs.e))
set_option maxHeartbeats 4000000 in
theorem laws_eqServerS_fn (a : List Server) (b : List Server) : Eng.Fn E.P 40 [.one (.r (sl 27 Server.c a)), .one (.r (sl 27 Server.c b))] (.one (.one (.w (.v (.bool (eqS eqServer a b)))))) [.one (.r (sl 27 Server.c a)), .one (.r (sl 27 Server.c b))] := by
 refine Eng.Fn.intro (E := E) (rvs := [.tmp 4]) Tryz.func40 rfl rfl rfl (by simp [outSlots, moved, rvSlot, sl]) ?_
 intro B g bo
 refine CW.bound (x := .tmp 0) (n := a.length) (AsT.r) (fun hl0 => ?_)
 refine CW.bound (x := .tmp 1) (n := b.length) (AsT.r) (fun hl1 => ?_)
 refine CW.g XK 27 [.e [0,1],.n 1,.e [0,1],.n 1,.e [0,1,10]] rfl rfl rfl ?_
 refine CW.cond rfl (fun h1 => ?_) (fun h1 => ?_)
 refine CW.g XK 27 [.n 1,.e [4]] rfl rfl rfl ?_
 refine CW.ret ?_
 exact Post.one (RV.b rfl q7) (AOs.r (AOs.r AOs.e))
 refine CW.g XK 27 [.p,.e [0,1],.n 1,.e [0,1,5],.p] rfl rfl rfl ?_
 refine CW.loopI 27 (fun (i : Nat) => [(0, .r (sl 27 Server.c a)), (1, .r (sl 27 Server.c b)), (5, I (i : Int))]) (fun (i : Nat) => i ≤ a.length ∧ eqS eqServer (a.drop i) (b.drop i) = eqS eqServer a b) (fun (i : Nat) => a.length - i) 0 rfl (Le.c rfl <| Le.c rfl <| Le.c rfl <| Le.e) ⟨by omega, by simp⟩ ?_
 rintro i ⟨hb, hr⟩
 have hlen : a.length = b.length := by simp at h1; omega
 refine CW.g XK 27 [.n 1,.e [0,1,5,14]] rfl rfl rfl ?_
 refine CW.cond rfl (fun h2 => ?_) (fun h2 => ?_)
 have hii : i < a.length := by have := h2; simp at this; first | exact this | omega | (simp; done) | (simp; omega)
 obtain ⟨ei, hei⟩ : ∃ e, a[i]? = some e := ⟨_, List.getElem?_eq_getElem hii⟩
 have hdi := drop_get hei
 have hib : i < b.length := by omega
 obtain ⟨eb, heb⟩ : ∃ e, b[i]? = some e := ⟨_, List.getElem?_eq_getElem hib⟩
 have hdb := drop_get heb
 refine CW.g XK 27 [.p,.e [0,1,5],.p,.p,.p] rfl rfl rfl ?_
 refine CW.drawn (by kernel_rfl) ?_
 refine RQ.k XK 27 2 rfl ?_
 (conv=>whnf);refine ⟨rfl,?_⟩
 refine RQ.v rfl (V.indexS rfl rfl rfl rfl rfl rfl Server.len hei) ?_
 refine RQ.k XK 27 3 rfl ?_
 (conv=>whnf);refine ⟨rfl,?_⟩
 refine RQ.v rfl (V.indexS rfl rfl rfl rfl rfl rfl Server.len heb) ?_
 refine RQ.k XK 27 1 rfl ?_
 (conv=>whnf);refine ⟨rfl,?_⟩
 refine RQ.cons rfl (QOK.call (laws_eqServer_fn ei eb) rfl (.cons (.agg (.cons (.r .r) (.cons (.r .r) (.cons (.r .r) (.cons (.r .r) (.cons (.r .r) (.cons (.r .r) (.cons (.r .r) (.cons (.r .r) (.cons (.r .r) (.cons (.r .r) (.cons (.r .r) (.cons (.r .r) (.cons (.r .r) (.cons (.r .r) (.cons (.r .r) (.cons (.r .r) (.cons (.r .r) (.cons (.r .r) (.cons (.r .r) (.cons (.r .r) (.cons (.r .r) (.cons (.r .r) (.cons (.r .r) (.cons (.r .r) (.cons (.r .r) (.cons (.r .r) (.cons (.r .r) (.nil))))))))))))))))))))))))))))) (.cons (.agg (.cons (.r .r) (.cons (.r .r) (.cons (.r .r) (.cons (.r .r) (.cons (.r .r) (.cons (.r .r) (.cons (.r .r) (.cons (.r .r) (.cons (.r .r) (.cons (.r .r) (.cons (.r .r) (.cons (.r .r) (.cons (.r .r) (.cons (.r .r) (.cons (.r .r) (.cons (.r .r) (.cons (.r .r) (.cons (.r .r) (.cons (.r .r) (.cons (.r .r) (.cons (.r .r) (.cons (.r .r) (.cons (.r .r) (.cons (.r .r) (.cons (.r .r) (.cons (.r .r) (.cons (.r .r) (.nil))))))))))))))))))))))))))))) (.nil))) ?_)
 refine RQ.k XK 27 1 rfl ?_
 (conv=>whnf);refine ⟨rfl,?_⟩
 refine RQ.nil ?_
 refine CW.g XK 27 [.e [0,1,5,26]] rfl rfl rfl ?_
 refine CW.cond rfl (fun h3 => ?_) (fun h3 => ?_)
 refine CW.g XK 27 [.n 1,.e [4]] rfl rfl rfl ?_
 refine CW.ret ?_
 exact Post.one (RV.b rfl q7) (AOs.r (AOs.r AOs.e))
 refine CW.g XK 27 [.p,.e [0,1,5],.o 1] rfl rfl rfl ?_
 refine RW.v rfl (V.inc rfl rfl rfl hii hl0) ?_
 refine RW.g XK 27 [.o 1,.p] rfl rfl rfl ?_
 exact ⟨i + 1, by omega, ⟨by omega, by simp_all [eqS, eqI, eqStr, eqB]⟩, rfl, Le.c rfl <| Le.c rfl <| Le.c rfl <| Le.e⟩
 have hii : a.length ≤ i := by have := h2; simp at this; first | exact this | omega | (simp; done) | (simp; omega)
 have hdi : a.drop i = [] := List.drop_eq_nil_of_le hii
 refine CW.exit ?_
 refine CW.g XK 27 [.e [],.n 1,.e [4]] rfl rfl rfl ?_
 refine CW.ret ?_
 exact Post.one (RV.b rfl q12) (AOs.r (AOs.r AOs.e))
set_option maxHeartbeats 4000000 in
theorem laws_eqMessage_fn (a : Message) (b : Message) : Eng.Fn E.P 83 [.agg ((Message.c a).map .r), .agg ((Message.c b).map .r)] (.one (.one (.w (.v (.bool (eqMessage a b)))))) [.agg ((Message.c a).map .r), .agg ((Message.c b).map .r)] := by
 refine Eng.Fn.intro (E := E) (rvs := [.tmp 4]) Tryz.func83 rfl rfl rfl (by simp [outSlots, moved, rvSlot, sl]) ?_
 intro B g bo
 refine CW.h XK 67 [.e [0,1],.o 1] rfl ?_;(conv=>whnf);intro b1;(conv=>whnf);refine ⟨rfl,?_⟩
 refine RW.freezeB (ts := (Message.c a)) 2 rfl (DRd.r (DRd.r (DRd.r (DRd.r (DRd.r (DRd.r (DRd.r (DRd.r (DRd.r (DRd.r (DRd.r (DRd.r DRd.e)))))))))))) ?_
 refine RW.h XK 67 [.o 1] rfl ?_;(conv=>whnf);intro b2;(conv=>whnf);refine ⟨rfl,?_⟩
 refine RW.freezeB (ts := (Message.c b)) 3 rfl (DRd.r (DRd.r (DRd.r (DRd.r (DRd.r (DRd.r (DRd.r (DRd.r (DRd.r (DRd.r (DRd.r (DRd.r DRd.e)))))))))))) ?_
 refine RW.g XK 67 [.o 1,.p,.e [2,3],.n 1,.e [2,3,9]] rfl rfl rfl ?_
 refine CW.cond rfl (fun h3 => ?_) (fun h3 => ?_)
 refine CW.g XK 67 [.n 1,.e [4]] rfl rfl rfl ?_
 refine CW.ret ?_
 exact Post.one (RV.b rfl (by simp_all [eqMessage])) (AOs.a rfl (AOs.a rfl AOs.e))
 refine CW.g XK 67 [.p,.e [2,3],.n 1,.e [2,3,14]] rfl rfl rfl ?_
 refine CW.cond rfl (fun h4 => ?_) (fun h4 => ?_)
 refine CW.g XK 67 [.n 1,.e [4]] rfl rfl rfl ?_
 refine CW.ret ?_
 exact Post.one (RV.b rfl (by simp_all [eqMessage])) (AOs.a rfl (AOs.a rfl AOs.e))
 refine CW.g XK 67 [.p,.e [2,3],.n 1,.e [2,3,19]] rfl rfl rfl ?_
 refine CW.cond rfl (fun h5 => ?_) (fun h5 => ?_)
 refine CW.g XK 67 [.n 1,.e [4]] rfl rfl rfl ?_
 refine CW.ret ?_
 exact Post.one (RV.b rfl (by simp_all [eqMessage])) (AOs.a rfl (AOs.a rfl AOs.e))
 refine CW.g XK 67 [.p,.e [2,3],.n 1,.e [2,3,24]] rfl rfl rfl ?_
 refine CW.cond rfl (fun h6 => ?_) (fun h6 => ?_)
 refine CW.g XK 67 [.n 1,.e [4]] rfl rfl rfl ?_
 refine CW.ret ?_
 exact Post.one (RV.b rfl (by simp_all [eqMessage])) (AOs.a rfl (AOs.a rfl AOs.e))
 refine CW.g XK 67 [.p,.e [2,3],.n 1,.e [2,3,29]] rfl rfl rfl ?_
 refine CW.cond rfl (fun h7 => ?_) (fun h7 => ?_)
 refine CW.g XK 67 [.n 1,.e [4]] rfl rfl rfl ?_
 refine CW.ret ?_
 exact Post.one (RV.b rfl (by simp_all [eqMessage])) (AOs.a rfl (AOs.a rfl AOs.e))
 refine CW.g XK 67 [.p,.e [2,3],.n 1,.e [2,3,34]] rfl rfl rfl ?_
 refine CW.cond rfl (fun h8 => ?_) (fun h8 => ?_)
 refine CW.g XK 67 [.n 1,.e [4]] rfl rfl rfl ?_
 refine CW.ret ?_
 exact Post.one (RV.b rfl (by simp_all [eqMessage])) (AOs.a rfl (AOs.a rfl AOs.e))
 refine CW.g XK 67 [.p,.e [2,3],.n 1,.e [2,3,39]] rfl rfl rfl ?_
 refine CW.cond rfl (fun h9 => ?_) (fun h9 => ?_)
 refine CW.g XK 67 [.n 1,.e [4]] rfl rfl rfl ?_
 refine CW.ret ?_
 exact Post.one (RV.b rfl (by simp_all [eqMessage])) (AOs.a rfl (AOs.a rfl AOs.e))
 refine CW.g XK 67 [.p,.e [2,3],.o 4] rfl rfl rfl ?_
 refine RW.v rfl (V.eqBool rfl rfl rfl (by kernel_rfl) (.inr ⟨rfl, rfl⟩)) ?_
 refine RW.g XK 67 [.p,.e [2,3,44]] rfl rfl rfl ?_
 refine CW.cond rfl (fun h10 => ?_) (fun h10 => ?_)
 refine CW.g XK 67 [.n 1,.e [4]] rfl rfl rfl ?_
 refine CW.ret ?_
 exact Post.one (RV.b rfl (by simp_all [eqMessage])) (AOs.a rfl (AOs.a rfl AOs.e))
 refine CW.g XK 67 [.p,.e [2,3],.o 4] rfl rfl rfl ?_
 refine RW.call rfl (laws_eqEntryS_fn a.entries b.entries) rfl (.cons (.one (.r .r)) (.cons (.one (.r .r)) (.nil))) fun g11 => ?_
 refine RW.g XK 67 [.o 1,.p,.e [2,3,50]] rfl rfl rfl ?_
 refine CW.cond rfl (fun h12 => ?_) (fun h12 => ?_)
 refine CW.g XK 67 [.n 1,.e [4]] rfl rfl rfl ?_
 refine CW.ret ?_
 exact Post.one (RV.b rfl (by simp_all [eqMessage])) (AOs.a rfl (AOs.a rfl AOs.e))
 refine CW.g XK 67 [.p,.e [2,3],.o 4] rfl rfl rfl ?_
 refine RW.call rfl (laws_eqIntS_fn a.conf b.conf) rfl (.cons (.one (.r .r)) (.cons (.one (.r .r)) (.nil))) fun g13 => ?_
 refine RW.g XK 67 [.o 1,.p,.e [2,3,56]] rfl rfl rfl ?_
 refine CW.cond rfl (fun h14 => ?_) (fun h14 => ?_)
 refine CW.g XK 67 [.n 1,.e [4]] rfl rfl rfl ?_
 refine CW.ret ?_
 exact Post.one (RV.b rfl (by simp_all [eqMessage])) (AOs.a rfl (AOs.a rfl AOs.e))
 refine CW.g XK 67 [.p,.e [2,3],.n 1,.e [2,3,61]] rfl rfl rfl ?_
 refine CW.cond rfl (fun h15 => ?_) (fun h15 => ?_)
 refine CW.g XK 67 [.n 1,.e [4]] rfl rfl rfl ?_
 refine CW.ret ?_
 exact Post.one (RV.b rfl (by simp_all [eqMessage])) (AOs.a rfl (AOs.a rfl AOs.e))
 refine CW.g XK 67 [.p,.e [2,3],.o 4] rfl rfl rfl ?_
 refine RW.v rfl (V.eqBool rfl rfl rfl (by kernel_rfl) (.inr ⟨rfl, rfl⟩)) ?_
 refine RW.g XK 67 [.p,.e [66]] rfl rfl rfl ?_
 refine CW.cond rfl (fun h16 => ?_) (fun h16 => ?_)
 refine CW.g XK 67 [.n 1,.e [4]] rfl rfl rfl ?_
 refine CW.ret ?_
 exact Post.one (RV.b rfl (by simp_all [eqMessage])) (AOs.a rfl (AOs.a rfl AOs.e))
 refine CW.g XK 67 [.p,.e [],.n 1,.e [4]] rfl rfl rfl ?_
 refine CW.ret ?_
 exact Post.one (RV.b rfl (by simp_all [eqMessage])) (AOs.a rfl (AOs.a rfl AOs.e))
set_option maxHeartbeats 4000000 in
theorem laws_eqMessageS_fn (a : List Message) (b : List Message) : Eng.Fn E.P 41 [.one (.r (sl 12 Message.c a)), .one (.r (sl 12 Message.c b))] (.one (.one (.w (.v (.bool (eqS eqMessage a b)))))) [.one (.r (sl 12 Message.c a)), .one (.r (sl 12 Message.c b))] := by
 refine Eng.Fn.intro (E := E) (rvs := [.tmp 4]) Tryz.func41 rfl rfl rfl (by simp [outSlots, moved, rvSlot, sl]) ?_
 intro B g bo
 refine CW.bound (x := .tmp 0) (n := a.length) (AsT.r) (fun hl0 => ?_)
 refine CW.bound (x := .tmp 1) (n := b.length) (AsT.r) (fun hl1 => ?_)
 refine CW.g XK 27 [.e [0,1],.n 1,.e [0,1],.n 1,.e [0,1,10]] rfl rfl rfl ?_
 refine CW.cond rfl (fun h1 => ?_) (fun h1 => ?_)
 refine CW.g XK 27 [.n 1,.e [4]] rfl rfl rfl ?_
 refine CW.ret ?_
 exact Post.one (RV.b rfl q7) (AOs.r (AOs.r AOs.e))
 refine CW.g XK 27 [.p,.e [0,1],.n 1,.e [0,1,5],.p] rfl rfl rfl ?_
 refine CW.loopI 27 (fun (i : Nat) => [(0, .r (sl 12 Message.c a)), (1, .r (sl 12 Message.c b)), (5, I (i : Int))]) (fun (i : Nat) => i ≤ a.length ∧ eqS eqMessage (a.drop i) (b.drop i) = eqS eqMessage a b) (fun (i : Nat) => a.length - i) 0 rfl (Le.c rfl <| Le.c rfl <| Le.c rfl <| Le.e) ⟨by omega, by simp⟩ ?_
 rintro i ⟨hb, hr⟩
 have hlen : a.length = b.length := by simp at h1; omega
 refine CW.g XK 27 [.n 1,.e [0,1,5,14]] rfl rfl rfl ?_
 refine CW.cond rfl (fun h2 => ?_) (fun h2 => ?_)
 have hii : i < a.length := by have := h2; simp at this; first | exact this | omega | (simp; done) | (simp; omega)
 obtain ⟨ei, hei⟩ : ∃ e, a[i]? = some e := ⟨_, List.getElem?_eq_getElem hii⟩
 have hdi := drop_get hei
 have hib : i < b.length := by omega
 obtain ⟨eb, heb⟩ : ∃ e, b[i]? = some e := ⟨_, List.getElem?_eq_getElem hib⟩
 have hdb := drop_get heb
 refine CW.g XK 27 [.p,.e [0,1,5],.p,.p,.p] rfl rfl rfl ?_
 refine CW.drawn (by kernel_rfl) ?_
 refine RQ.k XK 27 2 rfl ?_
 (conv=>whnf);refine ⟨rfl,?_⟩
 refine RQ.v rfl (V.indexS rfl rfl rfl rfl rfl rfl Message.len hei) ?_
 refine RQ.k XK 27 3 rfl ?_
 (conv=>whnf);refine ⟨rfl,?_⟩
 refine RQ.v rfl (V.indexS rfl rfl rfl rfl rfl rfl Message.len heb) ?_
 refine RQ.k XK 27 1 rfl ?_
 (conv=>whnf);refine ⟨rfl,?_⟩
 refine RQ.cons rfl (QOK.call (laws_eqMessage_fn ei eb) rfl (.cons (.agg (.cons (.r .r) (.cons (.r .r) (.cons (.r .r) (.cons (.r .r) (.cons (.r .r) (.cons (.r .r) (.cons (.r .r) (.cons (.r .r) (.cons (.r .r) (.cons (.r .r) (.cons (.r .r) (.cons (.r .r) (.nil)))))))))))))) (.cons (.agg (.cons (.r .r) (.cons (.r .r) (.cons (.r .r) (.cons (.r .r) (.cons (.r .r) (.cons (.r .r) (.cons (.r .r) (.cons (.r .r) (.cons (.r .r) (.cons (.r .r) (.cons (.r .r) (.cons (.r .r) (.nil)))))))))))))) (.nil))) ?_)
 refine RQ.k XK 27 1 rfl ?_
 (conv=>whnf);refine ⟨rfl,?_⟩
 refine RQ.nil ?_
 refine CW.g XK 27 [.e [0,1,5,26]] rfl rfl rfl ?_
 refine CW.cond rfl (fun h3 => ?_) (fun h3 => ?_)
 refine CW.g XK 27 [.n 1,.e [4]] rfl rfl rfl ?_
 refine CW.ret ?_
 exact Post.one (RV.b rfl q7) (AOs.r (AOs.r AOs.e))
 refine CW.g XK 27 [.p,.e [0,1,5],.o 1] rfl rfl rfl ?_
 refine RW.v rfl (V.inc rfl rfl rfl hii hl0) ?_
 refine RW.g XK 27 [.o 1,.p] rfl rfl rfl ?_
 exact ⟨i + 1, by omega, ⟨by omega, by simp_all [eqS, eqI, eqStr, eqB]⟩, rfl, Le.c rfl <| Le.c rfl <| Le.c rfl <| Le.e⟩
 have hii : a.length ≤ i := by have := h2; simp at this; first | exact this | omega | (simp; done) | (simp; omega)
 have hdi : a.drop i = [] := List.drop_eq_nil_of_le hii
 refine CW.exit ?_
 refine CW.g XK 27 [.e [],.n 1,.e [4]] rfl rfl rfl ?_
 refine CW.ret ?_
 exact Post.one (RV.b rfl q12) (AOs.r (AOs.r AOs.e))
set_option maxHeartbeats 4000000 in
theorem laws_eqWait_fn (a : Wait) (b : Wait) : Eng.Fn E.P 84 [.agg ((Wait.c a).map .r), .agg ((Wait.c b).map .r)] (.one (.one (.w (.v (.bool (eqWait a b)))))) [.agg ((Wait.c a).map .r), .agg ((Wait.c b).map .r)] := by
 refine Eng.Fn.intro (E := E) (rvs := [.tmp 4]) Tryz.func84 rfl rfl rfl (by simp [outSlots, moved, rvSlot, sl]) ?_
 intro B g bo
 refine CW.h XK 25 [.e [0,1],.o 1] rfl ?_;(conv=>whnf);intro b1;(conv=>whnf);refine ⟨rfl,?_⟩
 refine RW.freezeB (ts := (Wait.c a)) 2 rfl (DRd.r (DRd.r (DRd.r (DRd.r DRd.e)))) ?_
 refine RW.h XK 25 [.o 1] rfl ?_;(conv=>whnf);intro b2;(conv=>whnf);refine ⟨rfl,?_⟩
 refine RW.freezeB (ts := (Wait.c b)) 3 rfl (DRd.r (DRd.r (DRd.r (DRd.r DRd.e)))) ?_
 refine RW.g XK 25 [.o 1,.p,.e [2,3],.n 1,.e [2,3,9]] rfl rfl rfl ?_
 refine CW.cond rfl (fun h3 => ?_) (fun h3 => ?_)
 refine CW.g XK 25 [.n 1,.e [4]] rfl rfl rfl ?_
 refine CW.ret ?_
 exact Post.one (RV.b rfl (by simp_all [eqWait])) (AOs.a rfl (AOs.a rfl AOs.e))
 refine CW.g XK 25 [.p,.e [2,3],.n 1,.e [2,3,14]] rfl rfl rfl ?_
 refine CW.cond rfl (fun h4 => ?_) (fun h4 => ?_)
 refine CW.g XK 25 [.n 1,.e [4]] rfl rfl rfl ?_
 refine CW.ret ?_
 exact Post.one (RV.b rfl (by simp_all [eqWait])) (AOs.a rfl (AOs.a rfl AOs.e))
 refine CW.g XK 25 [.p,.e [2,3],.n 1,.e [2,3,19]] rfl rfl rfl ?_
 refine CW.cond rfl (fun h5 => ?_) (fun h5 => ?_)
 refine CW.g XK 25 [.n 1,.e [4]] rfl rfl rfl ?_
 refine CW.ret ?_
 exact Post.one (RV.b rfl (by simp_all [eqWait])) (AOs.a rfl (AOs.a rfl AOs.e))
 refine CW.g XK 25 [.p,.e [2,3],.n 1,.e [24]] rfl rfl rfl ?_
 refine CW.cond rfl (fun h6 => ?_) (fun h6 => ?_)
 refine CW.g XK 25 [.n 1,.e [4]] rfl rfl rfl ?_
 refine CW.ret ?_
 exact Post.one (RV.b rfl (by simp_all [eqWait])) (AOs.a rfl (AOs.a rfl AOs.e))
 refine CW.g XK 25 [.p,.e [],.n 1,.e [4]] rfl rfl rfl ?_
 refine CW.ret ?_
 exact Post.one (RV.b rfl (by simp_all [eqWait])) (AOs.a rfl (AOs.a rfl AOs.e))
set_option maxHeartbeats 4000000 in
theorem laws_eqWaitS_fn (a : List Wait) (b : List Wait) : Eng.Fn E.P 42 [.one (.r (sl 4 Wait.c a)), .one (.r (sl 4 Wait.c b))] (.one (.one (.w (.v (.bool (eqS eqWait a b)))))) [.one (.r (sl 4 Wait.c a)), .one (.r (sl 4 Wait.c b))] := by
 refine Eng.Fn.intro (E := E) (rvs := [.tmp 4]) Tryz.func42 rfl rfl rfl (by simp [outSlots, moved, rvSlot, sl]) ?_
 intro B g bo
 refine CW.bound (x := .tmp 0) (n := a.length) (AsT.r) (fun hl0 => ?_)
 refine CW.bound (x := .tmp 1) (n := b.length) (AsT.r) (fun hl1 => ?_)
 refine CW.g XK 27 [.e [0,1],.n 1,.e [0,1],.n 1,.e [0,1,10]] rfl rfl rfl ?_
 refine CW.cond rfl (fun h1 => ?_) (fun h1 => ?_)
 refine CW.g XK 27 [.n 1,.e [4]] rfl rfl rfl ?_
 refine CW.ret ?_
 exact Post.one (RV.b rfl q7) (AOs.r (AOs.r AOs.e))
 refine CW.g XK 27 [.p,.e [0,1],.n 1,.e [0,1,5],.p] rfl rfl rfl ?_
 refine CW.loopI 27 (fun (i : Nat) => [(0, .r (sl 4 Wait.c a)), (1, .r (sl 4 Wait.c b)), (5, I (i : Int))]) (fun (i : Nat) => i ≤ a.length ∧ eqS eqWait (a.drop i) (b.drop i) = eqS eqWait a b) (fun (i : Nat) => a.length - i) 0 rfl (Le.c rfl <| Le.c rfl <| Le.c rfl <| Le.e) ⟨by omega, by simp⟩ ?_
 rintro i ⟨hb, hr⟩
 have hlen : a.length = b.length := by simp at h1; omega
 refine CW.g XK 27 [.n 1,.e [0,1,5,14]] rfl rfl rfl ?_
 refine CW.cond rfl (fun h2 => ?_) (fun h2 => ?_)
 have hii : i < a.length := by have := h2; simp at this; first | exact this | omega | (simp; done) | (simp; omega)
 obtain ⟨ei, hei⟩ : ∃ e, a[i]? = some e := ⟨_, List.getElem?_eq_getElem hii⟩
 have hdi := drop_get hei
 have hib : i < b.length := by omega
 obtain ⟨eb, heb⟩ : ∃ e, b[i]? = some e := ⟨_, List.getElem?_eq_getElem hib⟩
 have hdb := drop_get heb
 refine CW.g XK 27 [.p,.e [0,1,5],.p,.p,.p] rfl rfl rfl ?_
 refine CW.drawn (by kernel_rfl) ?_
 refine RQ.k XK 27 2 rfl ?_
 (conv=>whnf);refine ⟨rfl,?_⟩
 refine RQ.v rfl (V.indexS rfl rfl rfl rfl rfl rfl Wait.len hei) ?_
 refine RQ.k XK 27 3 rfl ?_
 (conv=>whnf);refine ⟨rfl,?_⟩
 refine RQ.v rfl (V.indexS rfl rfl rfl rfl rfl rfl Wait.len heb) ?_
 refine RQ.k XK 27 1 rfl ?_
 (conv=>whnf);refine ⟨rfl,?_⟩
 refine RQ.cons rfl (QOK.call (laws_eqWait_fn ei eb) rfl (.cons (.agg (.cons (.r .r) (.cons (.r .r) (.cons (.r .r) (.cons (.r .r) (.nil)))))) (.cons (.agg (.cons (.r .r) (.cons (.r .r) (.cons (.r .r) (.cons (.r .r) (.nil)))))) (.nil))) ?_)
 refine RQ.k XK 27 1 rfl ?_
 (conv=>whnf);refine ⟨rfl,?_⟩
 refine RQ.nil ?_
 refine CW.g XK 27 [.e [0,1,5,26]] rfl rfl rfl ?_
 refine CW.cond rfl (fun h3 => ?_) (fun h3 => ?_)
 refine CW.g XK 27 [.n 1,.e [4]] rfl rfl rfl ?_
 refine CW.ret ?_
 exact Post.one (RV.b rfl q7) (AOs.r (AOs.r AOs.e))
 refine CW.g XK 27 [.p,.e [0,1,5],.o 1] rfl rfl rfl ?_
 refine RW.v rfl (V.inc rfl rfl rfl hii hl0) ?_
 refine RW.g XK 27 [.o 1,.p] rfl rfl rfl ?_
 exact ⟨i + 1, by omega, ⟨by omega, by simp_all [eqS, eqI, eqStr, eqB]⟩, rfl, Le.c rfl <| Le.c rfl <| Le.c rfl <| Le.e⟩
 have hii : a.length ≤ i := by have := h2; simp at this; first | exact this | omega | (simp; done) | (simp; omega)
 have hdi : a.drop i = [] := List.drop_eq_nil_of_le hii
 refine CW.exit ?_
 refine CW.g XK 27 [.e [],.n 1,.e [4]] rfl rfl rfl ?_
 refine CW.ret ?_
 exact Post.one (RV.b rfl q12) (AOs.r (AOs.r AOs.e))
set_option maxHeartbeats 4000000 in
theorem laws_eqLeader_fn (a : Leader) (b : Leader) : Eng.Fn E.P 85 [.agg ((Leader.c a).map .r), .agg ((Leader.c b).map .r)] (.one (.one (.w (.v (.bool (eqLeader a b)))))) [.agg ((Leader.c a).map .r), .agg ((Leader.c b).map .r)] := by
 refine Eng.Fn.intro (E := E) (rvs := [.tmp 4]) Tryz.func85 rfl rfl rfl (by simp [outSlots, moved, rvSlot, sl]) ?_
 intro B g bo
 refine CW.h XK 21 [.e [0,1],.o 1] rfl ?_;(conv=>whnf);intro b1;(conv=>whnf);refine ⟨rfl,?_⟩
 refine RW.freezeB (ts := (Leader.c a)) 2 rfl (DRd.r (DRd.r (DRd.r (DRd.r (DRd.r DRd.e))))) ?_
 refine RW.h XK 21 [.o 1] rfl ?_;(conv=>whnf);intro b2;(conv=>whnf);refine ⟨rfl,?_⟩
 refine RW.freezeB (ts := (Leader.c b)) 3 rfl (DRd.r (DRd.r (DRd.r (DRd.r (DRd.r DRd.e))))) ?_
 refine RW.g XK 21 [.o 1,.p,.e [2,3],.n 1,.e [2,3,9]] rfl rfl rfl ?_
 refine CW.cond rfl (fun h3 => ?_) (fun h3 => ?_)
 refine CW.g XK 21 [.n 1,.e [4]] rfl rfl rfl ?_
 refine CW.ret ?_
 exact Post.one (RV.b rfl (by simp_all [eqLeader])) (AOs.a rfl (AOs.a rfl AOs.e))
 refine CW.g XK 21 [.p,.e [2,3],.n 1,.e [2,3,14]] rfl rfl rfl ?_
 refine CW.cond rfl (fun h4 => ?_) (fun h4 => ?_)
 refine CW.g XK 21 [.n 1,.e [4]] rfl rfl rfl ?_
 refine CW.ret ?_
 exact Post.one (RV.b rfl (by simp_all [eqLeader])) (AOs.a rfl (AOs.a rfl AOs.e))
 refine CW.g XK 21 [.p,.e [2,3],.o 4] rfl rfl rfl ?_
 refine RW.call rfl (laws_eqLog_fn a.log b.log) rfl (.cons (.agg (.cons (.r .r) (.cons (.r .r) (.cons (.r .r) (.nil))))) (.cons (.agg (.cons (.r .r) (.cons (.r .r) (.cons (.r .r) (.nil))))) (.nil))) fun g5 => ?_
 refine RW.g XK 21 [.o 1,.p,.e [20]] rfl rfl rfl ?_
 refine CW.cond rfl (fun h6 => ?_) (fun h6 => ?_)
 refine CW.g XK 21 [.n 1,.e [4]] rfl rfl rfl ?_
 refine CW.ret ?_
 exact Post.one (RV.b rfl (by simp_all [eqLeader])) (AOs.a rfl (AOs.a rfl AOs.e))
 refine CW.g XK 21 [.p,.e [],.n 1,.e [4]] rfl rfl rfl ?_
 refine CW.ret ?_
 exact Post.one (RV.b rfl (by simp_all [eqLeader])) (AOs.a rfl (AOs.a rfl AOs.e))
set_option maxHeartbeats 4000000 in
theorem laws_eqLeaderS_fn (a : List Leader) (b : List Leader) : Eng.Fn E.P 43 [.one (.r (sl 5 Leader.c a)), .one (.r (sl 5 Leader.c b))] (.one (.one (.w (.v (.bool (eqS eqLeader a b)))))) [.one (.r (sl 5 Leader.c a)), .one (.r (sl 5 Leader.c b))] := by
 refine Eng.Fn.intro (E := E) (rvs := [.tmp 4]) Tryz.func43 rfl rfl rfl (by simp [outSlots, moved, rvSlot, sl]) ?_
 intro B g bo
 refine CW.bound (x := .tmp 0) (n := a.length) (AsT.r) (fun hl0 => ?_)
 refine CW.bound (x := .tmp 1) (n := b.length) (AsT.r) (fun hl1 => ?_)
 refine CW.g XK 27 [.e [0,1],.n 1,.e [0,1],.n 1,.e [0,1,10]] rfl rfl rfl ?_
 refine CW.cond rfl (fun h1 => ?_) (fun h1 => ?_)
 refine CW.g XK 27 [.n 1,.e [4]] rfl rfl rfl ?_
 refine CW.ret ?_
 exact Post.one (RV.b rfl q7) (AOs.r (AOs.r AOs.e))
 refine CW.g XK 27 [.p,.e [0,1],.n 1,.e [0,1,5],.p] rfl rfl rfl ?_
 refine CW.loopI 27 (fun (i : Nat) => [(0, .r (sl 5 Leader.c a)), (1, .r (sl 5 Leader.c b)), (5, I (i : Int))]) (fun (i : Nat) => i ≤ a.length ∧ eqS eqLeader (a.drop i) (b.drop i) = eqS eqLeader a b) (fun (i : Nat) => a.length - i) 0 rfl (Le.c rfl <| Le.c rfl <| Le.c rfl <| Le.e) ⟨by omega, by simp⟩ ?_
 rintro i ⟨hb, hr⟩
 have hlen : a.length = b.length := by simp at h1; omega
 refine CW.g XK 27 [.n 1,.e [0,1,5,14]] rfl rfl rfl ?_
 refine CW.cond rfl (fun h2 => ?_) (fun h2 => ?_)
 have hii : i < a.length := by have := h2; simp at this; first | exact this | omega | (simp; done) | (simp; omega)
 obtain ⟨ei, hei⟩ : ∃ e, a[i]? = some e := ⟨_, List.getElem?_eq_getElem hii⟩
 have hdi := drop_get hei
 have hib : i < b.length := by omega
 obtain ⟨eb, heb⟩ : ∃ e, b[i]? = some e := ⟨_, List.getElem?_eq_getElem hib⟩
 have hdb := drop_get heb
 refine CW.g XK 27 [.p,.e [0,1,5],.p,.p,.p] rfl rfl rfl ?_
 refine CW.drawn (by kernel_rfl) ?_
 refine RQ.k XK 27 2 rfl ?_
 (conv=>whnf);refine ⟨rfl,?_⟩
 refine RQ.v rfl (V.indexS rfl rfl rfl rfl rfl rfl Leader.len hei) ?_
 refine RQ.k XK 27 3 rfl ?_
 (conv=>whnf);refine ⟨rfl,?_⟩
 refine RQ.v rfl (V.indexS rfl rfl rfl rfl rfl rfl Leader.len heb) ?_
 refine RQ.k XK 27 1 rfl ?_
 (conv=>whnf);refine ⟨rfl,?_⟩
 refine RQ.cons rfl (QOK.call (laws_eqLeader_fn ei eb) rfl (.cons (.agg (.cons (.r .r) (.cons (.r .r) (.cons (.r .r) (.cons (.r .r) (.cons (.r .r) (.nil))))))) (.cons (.agg (.cons (.r .r) (.cons (.r .r) (.cons (.r .r) (.cons (.r .r) (.cons (.r .r) (.nil))))))) (.nil))) ?_)
 refine RQ.k XK 27 1 rfl ?_
 (conv=>whnf);refine ⟨rfl,?_⟩
 refine RQ.nil ?_
 refine CW.g XK 27 [.e [0,1,5,26]] rfl rfl rfl ?_
 refine CW.cond rfl (fun h3 => ?_) (fun h3 => ?_)
 refine CW.g XK 27 [.n 1,.e [4]] rfl rfl rfl ?_
 refine CW.ret ?_
 exact Post.one (RV.b rfl q7) (AOs.r (AOs.r AOs.e))
 refine CW.g XK 27 [.p,.e [0,1,5],.o 1] rfl rfl rfl ?_
 refine RW.v rfl (V.inc rfl rfl rfl hii hl0) ?_
 refine RW.g XK 27 [.o 1,.p] rfl rfl rfl ?_
 exact ⟨i + 1, by omega, ⟨by omega, by simp_all [eqS, eqI, eqStr, eqB]⟩, rfl, Le.c rfl <| Le.c rfl <| Le.c rfl <| Le.e⟩
 have hii : a.length ≤ i := by have := h2; simp at this; first | exact this | omega | (simp; done) | (simp; omega)
 have hdi : a.drop i = [] := List.drop_eq_nil_of_le hii
 refine CW.exit ?_
 refine CW.g XK 27 [.e [],.n 1,.e [4]] rfl rfl rfl ?_
 refine CW.ret ?_
 exact Post.one (RV.b rfl q12) (AOs.r (AOs.r AOs.e))
end Go.Proofs.YtdipdkfbaehglaaGreatDoor.Y
