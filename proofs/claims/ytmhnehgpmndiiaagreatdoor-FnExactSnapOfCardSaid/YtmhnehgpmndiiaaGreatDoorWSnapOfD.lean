import Derived.Test.YtmhnehgpmndiiaaGreatDoorWSnapOfC
namespace Go.Proofs.YtmhnehgpmndiiaaGreatDoor.Y
open Go Go.RowKit Go.Eng Go.Proofs
set_option maxRecDepth 10000
set_option maxHeartbeats 4000000 in
theorem laws_toServer_fn (a : Server) (hs : okToServer a) : Eng.Fn E.P 7 [.agg ((Server.c a).map .r)] (.one (.agg ((Server.c a).map .w))) [.agg ((Server.c a).map .r)] := by
 refine Eng.Fn.intro (E := E) (rvs := [.cell 2 61]) Tryz.func7 rfl rfl rfl (by simp [outSlots, moved, rvSlot, sl]) ?_
 intro B g bo
 refine CW.keep 33 [0] rfl ?_;(conv=>whnf);refine ⟨?_⟩
 refine CW.seq ?_
 refine CW.region ?_
 refine RW.k XK 33 1 rfl ?_
 (conv=>whnf);intro b1;(conv=>whnf);refine ⟨rfl,?_⟩
 refine RW.freezeB (ts := (Server.c a)) 1 rfl (DRd.r (DRd.r (DRd.r (DRd.r (DRd.r (DRd.r (DRd.r (DRd.r (DRd.r (DRd.r (DRd.r (DRd.r (DRd.r (DRd.r (DRd.r (DRd.r (DRd.r (DRd.r (DRd.r (DRd.r (DRd.r (DRd.r (DRd.r (DRd.r (DRd.r (DRd.r (DRd.r DRd.e))))))))))))))))))))))))))) ?_
 refine RW.k XK 33 1 rfl ?_
 (conv=>whnf);intro b2;(conv=>whnf);refine ⟨rfl,?_⟩
 refine RW.nil ?_
 refine CW.keep 33 [1,2] rfl ?_;(conv=>whnf);refine ⟨?_⟩
 refine CW.k XK 33 1 [1,2,3] rfl ?_
 (conv=>whnf);intro b3;(conv=>whnf);refine ⟨rfl,?_⟩
 refine CW.seq ?_
 refine CW.region ?_
 refine RW.k XK 33 2 rfl ?_
 (conv=>whnf);refine ⟨rfl,?_⟩
 refine RW.call rfl (laws_toNode_fn a.node hs.1) rfl (.cons (.agg (.cons (.r .r) (.cons (.r .r) (.cons (.r .r) (.cons (.r .r) (.cons (.r .r) (.cons (.r .r) (.cons (.r .r) (.cons (.r .r) (.cons (.r .r) (.cons (.r .r) (.cons (.r .r) (.cons (.r .r) (.cons (.r .r) (.cons (.r .r) (.nil)))))))))))))))) (.nil)) fun g4 => ?_
 refine RW.k XK 33 2 rfl ?_
 (conv=>whnf);refine ⟨rfl,?_⟩
 refine RW.keep 33 [1,2,3,6] rfl ?_;(conv=>whnf);refine ⟨?_⟩
 refine RW.pullA (k := 3) (l := 6) (j := 5) 3 6 5 rfl rfl rfl (by decide) rfl rfl rfl rfl ?_
 refine RW.keep 33 [1,2,3,6] rfl ?_;(conv=>whnf);refine ⟨?_⟩
 refine RW.pullA (k := 3) (l := 6) (j := 8) 3 6 8 rfl rfl rfl (by decide) rfl rfl rfl rfl ?_
 refine RW.keep 33 [1,2,3,6] rfl ?_;(conv=>whnf);refine ⟨?_⟩
 refine RW.pullA (k := 3) (l := 6) (j := 12) 3 6 12 rfl rfl rfl (by decide) rfl rfl rfl rfl ?_
 refine RW.keep 33 [1,2,3,6] rfl ?_;(conv=>whnf);refine ⟨?_⟩
 refine RW.pullA (k := 3) (l := 6) (j := 13) 3 6 13 rfl rfl rfl (by decide) rfl rfl rfl rfl ?_
 refine RW.keep 33 [1,2,3] rfl ?_;(conv=>whnf);refine ⟨?_⟩
 refine RW.nil ?_
 refine CW.keep 33 [1,2,3] rfl ?_;(conv=>whnf);refine ⟨?_⟩
 refine CW.seq ?_
 refine CW.region ?_
 refine RW.k XK 33 2 rfl ?_
 (conv=>whnf);refine ⟨rfl,?_⟩
 refine RW.call rfl (laws_toDisk_fn a.disk hs.2.1) rfl (.cons (.agg (.cons (.r .r) (.nil))) (.nil)) fun g5 => ?_
 refine RW.k XK 33 2 rfl ?_
 (conv=>whnf);refine ⟨rfl,?_⟩
 refine RW.keep 33 [1,2,3,10] rfl ?_;(conv=>whnf);refine ⟨?_⟩
 refine RW.pullA (k := 3) (l := 10) (j := 14) 3 10 14 rfl rfl rfl (by decide) rfl rfl rfl rfl ?_
 refine RW.keep 33 [1,2,3] rfl ?_;(conv=>whnf);refine ⟨?_⟩
 refine RW.nil ?_
 refine CW.keep 33 [1,2,3] rfl ?_;(conv=>whnf);refine ⟨?_⟩
 refine CW.seq ?_
 refine CW.region ?_
 refine RW.k XK 33 2 rfl ?_
 (conv=>whnf);refine ⟨rfl,?_⟩
 refine RW.call rfl (laws_toJournal_fn a.journal hs.2.2.1) rfl (.cons (.agg (.cons (.r .r) (.cons (.r .r) (.cons (.r .r) (.cons (.r .r) (.cons (.r .r) (.cons (.r .r) (.nil)))))))) (.nil)) fun g6 => ?_
 refine RW.k XK 33 2 rfl ?_
 (conv=>whnf);refine ⟨rfl,?_⟩
 refine RW.keep 33 [1,2,3,14] rfl ?_;(conv=>whnf);refine ⟨?_⟩
 refine RW.pullA (k := 3) (l := 14) (j := 20) 3 14 20 rfl rfl rfl (by decide) rfl rfl rfl rfl ?_
 refine RW.keep 33 [1,2,3] rfl ?_;(conv=>whnf);refine ⟨?_⟩
 refine RW.nil ?_
 refine CW.keep 33 [1,2,3] rfl ?_;(conv=>whnf);refine ⟨?_⟩
 refine CW.seq ?_
 refine CW.region ?_
 refine RW.k XK 33 2 rfl ?_
 (conv=>whnf);refine ⟨rfl,?_⟩
 refine RW.call rfl (laws_toKeep_fn a.keep hs.2.2.2.1) rfl (.cons (.agg (.cons (.r .r) (.cons (.r .r) (.nil)))) (.nil)) fun g7 => ?_
 refine RW.k XK 33 2 rfl ?_
 (conv=>whnf);refine ⟨rfl,?_⟩
 refine RW.keep 33 [1,2,3,18] rfl ?_;(conv=>whnf);refine ⟨?_⟩
 refine RW.pullA (k := 3) (l := 18) (j := 21) 3 18 21 rfl rfl rfl (by decide) rfl rfl rfl rfl ?_
 refine RW.keep 33 [1,2,3,18] rfl ?_;(conv=>whnf);refine ⟨?_⟩
 refine RW.pullA (k := 3) (l := 18) (j := 22) 3 18 22 rfl rfl rfl (by decide) rfl rfl rfl rfl ?_
 refine RW.keep 33 [1,2,3] rfl ?_;(conv=>whnf);refine ⟨?_⟩
 refine RW.nil ?_
 refine CW.keep 33 [1,2,3] rfl ?_;(conv=>whnf);refine ⟨?_⟩
 refine CW.k XK 33 4 [2,3] rfl ?_
 (conv=>whnf);refine ⟨rfl,?_⟩
 refine CW.seq ?_
 refine CW.region ?_
 refine RW.k XK 33 2 rfl ?_
 (conv=>whnf);refine ⟨rfl,?_⟩
 refine RW.keep 33 [2,3] rfl ?_;(conv=>whnf);refine ⟨?_⟩
 refine RW.pullO (k := 2) (l := 3) (j := 5) 2 3 5 rfl rfl rfl (by decide) rfl rfl rfl rfl ?_
 refine RW.keep 33 [2,3] rfl ?_;(conv=>whnf);refine ⟨?_⟩
 refine RW.pullO (k := 2) (l := 3) (j := 8) 2 3 8 rfl rfl rfl (by decide) rfl rfl rfl rfl ?_
 refine RW.keep 33 [2,3] rfl ?_;(conv=>whnf);refine ⟨?_⟩
 refine RW.pullO (k := 2) (l := 3) (j := 12) 2 3 12 rfl rfl rfl (by decide) rfl rfl rfl rfl ?_
 refine RW.keep 33 [2,3] rfl ?_;(conv=>whnf);refine ⟨?_⟩
 refine RW.pullO (k := 2) (l := 3) (j := 13) 2 3 13 rfl rfl rfl (by decide) rfl rfl rfl rfl ?_
 refine RW.keep 33 [2,3] rfl ?_;(conv=>whnf);refine ⟨?_⟩
 refine RW.pullO (k := 2) (l := 3) (j := 14) 2 3 14 rfl rfl rfl (by decide) rfl rfl rfl rfl ?_
 refine RW.keep 33 [2,3] rfl ?_;(conv=>whnf);refine ⟨?_⟩
 refine RW.pullO (k := 2) (l := 3) (j := 20) 2 3 20 rfl rfl rfl (by decide) rfl rfl rfl rfl ?_
 refine RW.keep 33 [2,3] rfl ?_;(conv=>whnf);refine ⟨?_⟩
 refine RW.pullO (k := 2) (l := 3) (j := 21) 2 3 21 rfl rfl rfl (by decide) rfl rfl rfl rfl ?_
 refine RW.keep 33 [2,3] rfl ?_;(conv=>whnf);refine ⟨?_⟩
 refine RW.pullO (k := 2) (l := 3) (j := 22) 2 3 22 rfl rfl rfl (by decide) rfl rfl rfl rfl ?_
 refine RW.keep 33 [2] rfl ?_;(conv=>whnf);refine ⟨?_⟩
 refine RW.nil ?_
 refine CW.keep 33 [2] rfl ?_;(conv=>whnf);refine ⟨?_⟩
 refine CW.ret ?_
 exact Post.one (RV.c (f := fun e => (Server.c e).map .w) (e' := a) rfl rfl rfl rfl (DT.v (DT.v (DT.v (DT.v (DT.v (DT.w (DT.v (DT.v (DT.w (DT.v (DT.v (DT.v (DT.w (DT.w (DT.w (DT.v (DT.v (DT.v (DT.v (DT.v (DT.w (DT.w (DT.w (DT.v (DT.v (DT.v (DT.v DT.e))))))))))))))))))))))))))) (by simp_all)) (AOs.a rfl AOs.e)
set_option maxHeartbeats 4000000 in
theorem laws_eqIntS_fn (a : List Int) (b : List Int) : Eng.Fn E.P 32 [.one (.r (sl 1 cI a)), .one (.r (sl 1 cI b))] (.one (.one (.w (.v (.bool (eqS eqI a b)))))) [.one (.r (sl 1 cI a)), .one (.r (sl 1 cI b))] := by
 refine Eng.Fn.intro (E := E) (rvs := [.tmp 4]) Tryz.func32 rfl rfl rfl (by simp [outSlots, moved, rvSlot, sl]) ?_
 intro B g bo
 refine CW.bound (x := .tmp 0) (n := a.length) (AsT.r) (fun hl0 => ?_)
 refine CW.bound (x := .tmp 1) (n := b.length) (AsT.r) (fun hl1 => ?_)
 refine CW.keep 26 [0,1] rfl ?_;(conv=>whnf);refine ⟨?_⟩
 refine CW.k XK 26 1 [0,1] rfl ?_
 (conv=>whnf);refine ⟨rfl,?_⟩
 refine CW.seq ?_
 refine CW.k XK 26 1 [0,1,10] rfl ?_
 (conv=>whnf);refine ⟨rfl,?_⟩
 refine CW.cond rfl (fun h1 => ?_) (fun h1 => ?_)
 ·skip
  refine CW.k XK 26 1 [4] rfl ?_
  (conv=>whnf);refine ⟨rfl,?_⟩
  refine CW.ret ?_
  exact Post.one (RV.b rfl (by first | (simp_all [eqS, eqI, eqStr, eqB]; done) | exact (eqS_ne (by simp_all; omega)).symm)) (AOs.r (AOs.r AOs.e))
 ·skip
  refine CW.skip ?_
  refine CW.keep 26 [0,1] rfl ?_;(conv=>whnf);refine ⟨?_⟩
  refine CW.seq ?_
  refine CW.k XK 26 1 [0,1,5] rfl ?_
  (conv=>whnf);refine ⟨rfl,?_⟩
  refine CW.block ?_
  refine CW.loopI 26 (fun (i : Nat) => [(0, .r (sl 1 cI a)), (1, .r (sl 1 cI b)), (5, I (i : Int))]) (fun (i : Nat) => i ≤ a.length ∧ eqS eqI (a.drop i) (b.drop i) = eqS eqI a b) (fun (i : Nat) => a.length - i) 0 rfl (Le.c rfl <| Le.c rfl <| Le.c rfl <| Le.e) ⟨by omega, by simp⟩ ?_
  rintro i ⟨hb, hr⟩
  have hlen : a.length = b.length := by simp at h1; omega
  refine CW.seq ?_
  refine CW.k XK 26 1 [0,1,5,14] rfl ?_
  (conv=>whnf);refine ⟨rfl,?_⟩
  refine CW.cond rfl (fun h2 => ?_) (fun h2 => ?_)
  ·skip
   have hii : i < a.length := by have := h2; simp at this; first | exact this | omega | (simp; done) | (simp; omega)
   obtain ⟨ei, hei⟩ : ∃ e, a[i]? = some e := ⟨_, List.getElem?_eq_getElem hii⟩
   have hdi := drop_get hei
   have hib : i < b.length := by omega
   obtain ⟨eb, heb⟩ : ∃ e, b[i]? = some e := ⟨_, List.getElem?_eq_getElem hib⟩
   have hdb := drop_get heb
   refine CW.skip ?_
   refine CW.keep 26 [0,1,5] rfl ?_;(conv=>whnf);refine ⟨?_⟩
   refine CW.seq ?_
   refine CW.block ?_
   refine CW.seq ?_
   refine CW.drawn (by kernel_rfl) ?_
   refine RQ.k XK 26 2 rfl ?_
   (conv=>whnf);refine ⟨rfl,?_⟩
   refine RQ.v rfl (V.indexS rfl rfl rfl rfl rfl rfl cI.len hei) ?_
   refine RQ.k XK 26 3 rfl ?_
   (conv=>whnf);refine ⟨rfl,?_⟩
   refine RQ.v rfl (V.indexS rfl rfl rfl rfl rfl rfl cI.len heb) ?_
   refine RQ.k XK 26 2 rfl ?_
   (conv=>whnf);refine ⟨rfl,?_⟩
   refine RQ.nil ?_
   refine CW.keep 26 [0,1,5,25] rfl ?_;(conv=>whnf);refine ⟨?_⟩
   refine CW.cond rfl (fun h3 => ?_) (fun h3 => ?_)
   ·skip
    refine CW.k XK 26 1 [4] rfl ?_
    (conv=>whnf);refine ⟨rfl,?_⟩
    refine CW.ret ?_
    exact Post.one (RV.b rfl (by first | (simp_all [eqS, eqI, eqStr, eqB]; done) | exact (eqS_ne (by simp_all; omega)).symm)) (AOs.r (AOs.r AOs.e))
   ·skip
    refine CW.skip ?_
    refine CW.keep 26 [0,1,5] rfl ?_;(conv=>whnf);refine ⟨?_⟩
    refine CW.region ?_
    refine RW.k XK 26 1 rfl ?_
    (conv=>whnf);refine ⟨rfl,?_⟩
    refine RW.v rfl (V.inc rfl rfl rfl hii hl0) ?_
    refine RW.k XK 26 1 rfl ?_
    (conv=>whnf);refine ⟨rfl,?_⟩
    refine RW.nil ?_
    exact ⟨i + 1, by omega, ⟨by omega, by simp_all [eqS, eqI, eqStr, eqB]⟩, rfl, Le.c rfl <| Le.c rfl <| Le.c rfl <| Le.e⟩
  ·skip
   have hii : a.length ≤ i := by have := h2; simp at this; first | exact this | omega | (simp; done) | (simp; omega)
   have hdi : a.drop i = [] := List.drop_eq_nil_of_le hii
   refine CW.exit ?_
   refine CW.keep 26 [] rfl ?_;(conv=>whnf);refine ⟨?_⟩
   refine CW.k XK 26 1 [4] rfl ?_
   (conv=>whnf);refine ⟨rfl,?_⟩
   refine CW.ret ?_
   exact Post.one (RV.b rfl (by rw [← hr, hdi, List.drop_eq_nil_of_le (show b.length ≤ i by omega)]; rfl)) (AOs.r (AOs.r AOs.e))
set_option maxHeartbeats 4000000 in
theorem laws_eqSnap_fn (a : Snap) (b : Snap) : Eng.Fn E.P 9 [.agg ((Snap.c a).map .r), .agg ((Snap.c b).map .r)] (.one (.one (.w (.v (.bool (eqSnap a b)))))) [.agg ((Snap.c a).map .r), .agg ((Snap.c b).map .r)] := by
 refine Eng.Fn.intro (E := E) (rvs := [.tmp 4]) Tryz.func9 rfl rfl rfl (by simp [outSlots, moved, rvSlot, sl]) ?_
 intro B g bo
 refine CW.keep 26 [0,1] rfl ?_;(conv=>whnf);refine ⟨?_⟩
 refine CW.seq ?_
 refine CW.region ?_
 refine RW.k XK 26 1 rfl ?_
 (conv=>whnf);intro b1;(conv=>whnf);refine ⟨rfl,?_⟩
 refine RW.freezeB (ts := (Snap.c a)) 2 rfl (DRd.r (DRd.r (DRd.r (DRd.r DRd.e)))) ?_
 refine RW.k XK 26 1 rfl ?_
 (conv=>whnf);intro b2;(conv=>whnf);refine ⟨rfl,?_⟩
 refine RW.freezeB (ts := (Snap.c b)) 3 rfl (DRd.r (DRd.r (DRd.r (DRd.r DRd.e)))) ?_
 refine RW.k XK 26 1 rfl ?_
 (conv=>whnf);refine ⟨rfl,?_⟩
 refine RW.nil ?_
 refine CW.keep 26 [2,3] rfl ?_;(conv=>whnf);refine ⟨?_⟩
 refine CW.seq ?_
 refine CW.k XK 26 1 [2,3,9] rfl ?_
 (conv=>whnf);refine ⟨rfl,?_⟩
 refine CW.cond rfl (fun h3 => ?_) (fun h3 => ?_)
 ·skip
  refine CW.k XK 26 1 [4] rfl ?_
  (conv=>whnf);refine ⟨rfl,?_⟩
  refine CW.ret ?_
  exact Post.one (RV.b rfl (by simp_all [eqSnap])) (AOs.a rfl (AOs.a rfl AOs.e))
 ·skip
  refine CW.skip ?_
  refine CW.keep 26 [2,3] rfl ?_;(conv=>whnf);refine ⟨?_⟩
  refine CW.seq ?_
  refine CW.k XK 26 1 [2,3,14] rfl ?_
  (conv=>whnf);refine ⟨rfl,?_⟩
  refine CW.cond rfl (fun h4 => ?_) (fun h4 => ?_)
  ·skip
   refine CW.k XK 26 1 [4] rfl ?_
   (conv=>whnf);refine ⟨rfl,?_⟩
   refine CW.ret ?_
   exact Post.one (RV.b rfl (by simp_all [eqSnap])) (AOs.a rfl (AOs.a rfl AOs.e))
  ·skip
   refine CW.skip ?_
   refine CW.keep 26 [2,3] rfl ?_;(conv=>whnf);refine ⟨?_⟩
   refine CW.seq ?_
   refine CW.seq ?_
   refine CW.region ?_
   refine RW.k XK 26 4 rfl ?_
   (conv=>whnf);refine ⟨rfl,?_⟩
   refine RW.call rfl (laws_eqIntS_fn a.conf b.conf) rfl (.cons (.one (.r .r)) (.cons (.one (.r .r)) (.nil))) fun g5 => ?_
   refine RW.k XK 26 1 rfl ?_
   (conv=>whnf);refine ⟨rfl,?_⟩
   refine RW.nil ?_
   refine CW.keep 26 [2,3,20] rfl ?_;(conv=>whnf);refine ⟨?_⟩
   refine CW.cond rfl (fun h6 => ?_) (fun h6 => ?_)
   ·skip
    refine CW.k XK 26 1 [4] rfl ?_
    (conv=>whnf);refine ⟨rfl,?_⟩
    refine CW.ret ?_
    exact Post.one (RV.b rfl (by simp_all [eqSnap])) (AOs.a rfl (AOs.a rfl AOs.e))
   ·skip
    refine CW.skip ?_
    refine CW.keep 26 [2,3] rfl ?_;(conv=>whnf);refine ⟨?_⟩
    refine CW.seq ?_
    refine CW.k XK 26 1 [25] rfl ?_
    (conv=>whnf);refine ⟨rfl,?_⟩
    refine CW.cond rfl (fun h7 => ?_) (fun h7 => ?_)
    ·skip
     refine CW.k XK 26 1 [4] rfl ?_
     (conv=>whnf);refine ⟨rfl,?_⟩
     refine CW.ret ?_
     exact Post.one (RV.b rfl (by simp_all [eqSnap])) (AOs.a rfl (AOs.a rfl AOs.e))
    ·skip
     refine CW.skip ?_
     refine CW.keep 26 [] rfl ?_;(conv=>whnf);refine ⟨?_⟩
     refine CW.k XK 26 1 [4] rfl ?_
     (conv=>whnf);refine ⟨rfl,?_⟩
     refine CW.ret ?_
     exact Post.one (RV.b rfl (by simp_all [eqSnap])) (AOs.a rfl (AOs.a rfl AOs.e))
set_option maxHeartbeats 4000000 in
theorem laws_eqEntry_fn (a : Entry) (b : Entry) : Eng.Fn E.P 208 [.agg ((Entry.c a).map .r), .agg ((Entry.c b).map .r)] (.one (.one (.w (.v (.bool (eqEntry a b)))))) [.agg ((Entry.c a).map .r), .agg ((Entry.c b).map .r)] := by
 refine Eng.Fn.intro (E := E) (rvs := [.tmp 4]) Tryz.func208 rfl rfl rfl (by simp [outSlots, moved, rvSlot, sl]) ?_
 intro B g bo
 refine CW.keep 20 [0,1] rfl ?_;(conv=>whnf);refine ⟨?_⟩
 refine CW.seq ?_
 refine CW.region ?_
 refine RW.k XK 20 1 rfl ?_
 (conv=>whnf);intro b1;(conv=>whnf);refine ⟨rfl,?_⟩
 refine RW.freezeB (ts := (Entry.c a)) 2 rfl (DRd.r (DRd.r (DRd.r DRd.e))) ?_
 refine RW.k XK 20 1 rfl ?_
 (conv=>whnf);intro b2;(conv=>whnf);refine ⟨rfl,?_⟩
 refine RW.freezeB (ts := (Entry.c b)) 3 rfl (DRd.r (DRd.r (DRd.r DRd.e))) ?_
 refine RW.k XK 20 1 rfl ?_
 (conv=>whnf);refine ⟨rfl,?_⟩
 refine RW.nil ?_
 refine CW.keep 20 [2,3] rfl ?_;(conv=>whnf);refine ⟨?_⟩
 refine CW.seq ?_
 refine CW.k XK 20 1 [2,3,9] rfl ?_
 (conv=>whnf);refine ⟨rfl,?_⟩
 refine CW.cond rfl (fun h3 => ?_) (fun h3 => ?_)
 ·skip
  refine CW.k XK 20 1 [4] rfl ?_
  (conv=>whnf);refine ⟨rfl,?_⟩
  refine CW.ret ?_
  exact Post.one (RV.b rfl (by simp_all [eqEntry])) (AOs.a rfl (AOs.a rfl AOs.e))
 ·skip
  refine CW.skip ?_
  refine CW.keep 20 [2,3] rfl ?_;(conv=>whnf);refine ⟨?_⟩
  refine CW.seq ?_
  refine CW.k XK 20 1 [2,3,14] rfl ?_
  (conv=>whnf);refine ⟨rfl,?_⟩
  refine CW.cond rfl (fun h4 => ?_) (fun h4 => ?_)
  ·skip
   refine CW.k XK 20 1 [4] rfl ?_
   (conv=>whnf);refine ⟨rfl,?_⟩
   refine CW.ret ?_
   exact Post.one (RV.b rfl (by simp_all [eqEntry])) (AOs.a rfl (AOs.a rfl AOs.e))
  ·skip
   refine CW.skip ?_
   refine CW.keep 20 [2,3] rfl ?_;(conv=>whnf);refine ⟨?_⟩
   refine CW.seq ?_
   refine CW.k XK 20 1 [19] rfl ?_
   (conv=>whnf);refine ⟨rfl,?_⟩
   refine CW.cond rfl (fun h5 => ?_) (fun h5 => ?_)
   ·skip
    refine CW.k XK 20 1 [4] rfl ?_
    (conv=>whnf);refine ⟨rfl,?_⟩
    refine CW.ret ?_
    exact Post.one (RV.b rfl (by simp_all [eqEntry])) (AOs.a rfl (AOs.a rfl AOs.e))
   ·skip
    refine CW.skip ?_
    refine CW.keep 20 [] rfl ?_;(conv=>whnf);refine ⟨?_⟩
    refine CW.k XK 20 1 [4] rfl ?_
    (conv=>whnf);refine ⟨rfl,?_⟩
    refine CW.ret ?_
    exact Post.one (RV.b rfl (by simp_all [eqEntry])) (AOs.a rfl (AOs.a rfl AOs.e))
set_option maxHeartbeats 4000000 in
theorem laws_eqEntryS_fn (a : List Entry) (b : List Entry) : Eng.Fn E.P 160 [.one (.r (sl 3 Entry.c a)), .one (.r (sl 3 Entry.c b))] (.one (.one (.w (.v (.bool (eqS eqEntry a b)))))) [.one (.r (sl 3 Entry.c a)), .one (.r (sl 3 Entry.c b))] := by
 refine Eng.Fn.intro (E := E) (rvs := [.tmp 4]) Tryz.func160 rfl rfl rfl (by simp [outSlots, moved, rvSlot, sl]) ?_
 intro B g bo
 refine CW.bound (x := .tmp 0) (n := a.length) (AsT.r) (fun hl0 => ?_)
 refine CW.bound (x := .tmp 1) (n := b.length) (AsT.r) (fun hl1 => ?_)
 refine CW.keep 27 [0,1] rfl ?_;(conv=>whnf);refine ⟨?_⟩
 refine CW.k XK 27 1 [0,1] rfl ?_
 (conv=>whnf);refine ⟨rfl,?_⟩
 refine CW.seq ?_
 refine CW.k XK 27 1 [0,1,10] rfl ?_
 (conv=>whnf);refine ⟨rfl,?_⟩
 refine CW.cond rfl (fun h1 => ?_) (fun h1 => ?_)
 ·skip
  refine CW.k XK 27 1 [4] rfl ?_
  (conv=>whnf);refine ⟨rfl,?_⟩
  refine CW.ret ?_
  exact Post.one (RV.b rfl (by first | (simp_all [eqS, eqI, eqStr, eqB]; done) | exact (eqS_ne (by simp_all; omega)).symm)) (AOs.r (AOs.r AOs.e))
 ·skip
  refine CW.skip ?_
  refine CW.keep 27 [0,1] rfl ?_;(conv=>whnf);refine ⟨?_⟩
  refine CW.seq ?_
  refine CW.k XK 27 1 [0,1,5] rfl ?_
  (conv=>whnf);refine ⟨rfl,?_⟩
  refine CW.block ?_
  refine CW.loopI 27 (fun (i : Nat) => [(0, .r (sl 3 Entry.c a)), (1, .r (sl 3 Entry.c b)), (5, I (i : Int))]) (fun (i : Nat) => i ≤ a.length ∧ eqS eqEntry (a.drop i) (b.drop i) = eqS eqEntry a b) (fun (i : Nat) => a.length - i) 0 rfl (Le.c rfl <| Le.c rfl <| Le.c rfl <| Le.e) ⟨by omega, by simp⟩ ?_
  rintro i ⟨hb, hr⟩
  have hlen : a.length = b.length := by simp at h1; omega
  refine CW.seq ?_
  refine CW.k XK 27 1 [0,1,5,14] rfl ?_
  (conv=>whnf);refine ⟨rfl,?_⟩
  refine CW.cond rfl (fun h2 => ?_) (fun h2 => ?_)
  ·skip
   have hii : i < a.length := by have := h2; simp at this; first | exact this | omega | (simp; done) | (simp; omega)
   obtain ⟨ei, hei⟩ : ∃ e, a[i]? = some e := ⟨_, List.getElem?_eq_getElem hii⟩
   have hdi := drop_get hei
   have hib : i < b.length := by omega
   obtain ⟨eb, heb⟩ : ∃ e, b[i]? = some e := ⟨_, List.getElem?_eq_getElem hib⟩
   have hdb := drop_get heb
   refine CW.skip ?_
   refine CW.keep 27 [0,1,5] rfl ?_;(conv=>whnf);refine ⟨?_⟩
   refine CW.seq ?_
   refine CW.block ?_
   refine CW.seq ?_
   refine CW.drawn (by kernel_rfl) ?_
   refine RQ.k XK 27 2 rfl ?_
   (conv=>whnf);refine ⟨rfl,?_⟩
   refine RQ.v rfl (V.indexS rfl rfl rfl rfl rfl rfl Entry.len hei) ?_
   refine RQ.k XK 27 3 rfl ?_
   (conv=>whnf);refine ⟨rfl,?_⟩
   refine RQ.v rfl (V.indexS rfl rfl rfl rfl rfl rfl Entry.len heb) ?_
   refine RQ.k XK 27 1 rfl ?_
   (conv=>whnf);refine ⟨rfl,?_⟩
   refine RQ.cons rfl (QOK.call (laws_eqEntry_fn ei eb) rfl (.cons (.agg (.cons (.r .r) (.cons (.r .r) (.cons (.r .r) (.nil))))) (.cons (.agg (.cons (.r .r) (.cons (.r .r) (.cons (.r .r) (.nil))))) (.nil))) ?_)
   refine RQ.k XK 27 1 rfl ?_
   (conv=>whnf);refine ⟨rfl,?_⟩
   refine RQ.nil ?_
   refine CW.keep 27 [0,1,5,26] rfl ?_;(conv=>whnf);refine ⟨?_⟩
   refine CW.cond rfl (fun h3 => ?_) (fun h3 => ?_)
   ·skip
    refine CW.k XK 27 1 [4] rfl ?_
    (conv=>whnf);refine ⟨rfl,?_⟩
    refine CW.ret ?_
    exact Post.one (RV.b rfl (by first | (simp_all [eqS, eqI, eqStr, eqB]; done) | exact (eqS_ne (by simp_all; omega)).symm)) (AOs.r (AOs.r AOs.e))
   ·skip
    refine CW.skip ?_
    refine CW.keep 27 [0,1,5] rfl ?_;(conv=>whnf);refine ⟨?_⟩
    refine CW.region ?_
    refine RW.k XK 27 1 rfl ?_
    (conv=>whnf);refine ⟨rfl,?_⟩
    refine RW.v rfl (V.inc rfl rfl rfl hii hl0) ?_
    refine RW.k XK 27 1 rfl ?_
    (conv=>whnf);refine ⟨rfl,?_⟩
    refine RW.nil ?_
    exact ⟨i + 1, by omega, ⟨by omega, by simp_all [eqS, eqI, eqStr, eqB]⟩, rfl, Le.c rfl <| Le.c rfl <| Le.c rfl <| Le.e⟩
  ·skip
   have hii : a.length ≤ i := by have := h2; simp at this; first | exact this | omega | (simp; done) | (simp; omega)
   have hdi : a.drop i = [] := List.drop_eq_nil_of_le hii
   refine CW.exit ?_
   refine CW.keep 27 [] rfl ?_;(conv=>whnf);refine ⟨?_⟩
   refine CW.k XK 27 1 [4] rfl ?_
   (conv=>whnf);refine ⟨rfl,?_⟩
   refine CW.ret ?_
   exact Post.one (RV.b rfl (by rw [← hr, hdi, List.drop_eq_nil_of_le (show b.length ≤ i by omega)]; rfl)) (AOs.r (AOs.r AOs.e))
set_option maxHeartbeats 4000000 in
theorem laws_eqLog_fn (a : Log) (b : Log) : Eng.Fn E.P 90 [.agg ((Log.c a).map .r), .agg ((Log.c b).map .r)] (.one (.one (.w (.v (.bool (eqLog a b)))))) [.agg ((Log.c a).map .r), .agg ((Log.c b).map .r)] := by
 refine Eng.Fn.intro (E := E) (rvs := [.tmp 4]) Tryz.func90 rfl rfl rfl (by simp [outSlots, moved, rvSlot, sl]) ?_
 intro B g bo
 refine CW.keep 21 [0,1] rfl ?_;(conv=>whnf);refine ⟨?_⟩
 refine CW.seq ?_
 refine CW.region ?_
 refine RW.k XK 21 1 rfl ?_
 (conv=>whnf);intro b1;(conv=>whnf);refine ⟨rfl,?_⟩
 refine RW.freezeB (ts := (Log.c a)) 2 rfl (DRd.r (DRd.r (DRd.r DRd.e))) ?_
 refine RW.k XK 21 1 rfl ?_
 (conv=>whnf);intro b2;(conv=>whnf);refine ⟨rfl,?_⟩
 refine RW.freezeB (ts := (Log.c b)) 3 rfl (DRd.r (DRd.r (DRd.r DRd.e))) ?_
 refine RW.k XK 21 1 rfl ?_
 (conv=>whnf);refine ⟨rfl,?_⟩
 refine RW.nil ?_
 refine CW.keep 21 [2,3] rfl ?_;(conv=>whnf);refine ⟨?_⟩
 refine CW.seq ?_
 refine CW.k XK 21 1 [2,3,9] rfl ?_
 (conv=>whnf);refine ⟨rfl,?_⟩
 refine CW.cond rfl (fun h3 => ?_) (fun h3 => ?_)
 ·skip
  refine CW.k XK 21 1 [4] rfl ?_
  (conv=>whnf);refine ⟨rfl,?_⟩
  refine CW.ret ?_
  exact Post.one (RV.b rfl (by simp_all [eqLog])) (AOs.a rfl (AOs.a rfl AOs.e))
 ·skip
  refine CW.skip ?_
  refine CW.keep 21 [2,3] rfl ?_;(conv=>whnf);refine ⟨?_⟩
  refine CW.seq ?_
  refine CW.k XK 21 1 [2,3,14] rfl ?_
  (conv=>whnf);refine ⟨rfl,?_⟩
  refine CW.cond rfl (fun h4 => ?_) (fun h4 => ?_)
  ·skip
   refine CW.k XK 21 1 [4] rfl ?_
   (conv=>whnf);refine ⟨rfl,?_⟩
   refine CW.ret ?_
   exact Post.one (RV.b rfl (by simp_all [eqLog])) (AOs.a rfl (AOs.a rfl AOs.e))
  ·skip
   refine CW.skip ?_
   refine CW.keep 21 [2,3] rfl ?_;(conv=>whnf);refine ⟨?_⟩
   refine CW.seq ?_
   refine CW.seq ?_
   refine CW.region ?_
   refine RW.k XK 21 4 rfl ?_
   (conv=>whnf);refine ⟨rfl,?_⟩
   refine RW.call rfl (laws_eqEntryS_fn a.entries b.entries) rfl (.cons (.one (.r .r)) (.cons (.one (.r .r)) (.nil))) fun g5 => ?_
   refine RW.k XK 21 1 rfl ?_
   (conv=>whnf);refine ⟨rfl,?_⟩
   refine RW.nil ?_
   refine CW.keep 21 [20] rfl ?_;(conv=>whnf);refine ⟨?_⟩
   refine CW.cond rfl (fun h6 => ?_) (fun h6 => ?_)
   ·skip
    refine CW.k XK 21 1 [4] rfl ?_
    (conv=>whnf);refine ⟨rfl,?_⟩
    refine CW.ret ?_
    exact Post.one (RV.b rfl (by simp_all [eqLog])) (AOs.a rfl (AOs.a rfl AOs.e))
   ·skip
    refine CW.skip ?_
    refine CW.keep 21 [] rfl ?_;(conv=>whnf);refine ⟨?_⟩
    refine CW.k XK 21 1 [4] rfl ?_
    (conv=>whnf);refine ⟨rfl,?_⟩
    refine CW.ret ?_
    exact Post.one (RV.b rfl (by simp_all [eqLog])) (AOs.a rfl (AOs.a rfl AOs.e))
set_option maxHeartbeats 4000000 in
theorem laws_eqPeer_fn (a : Peer) (b : Peer) : Eng.Fn E.P 161 [.agg ((Peer.c a).map .r), .agg ((Peer.c b).map .r)] (.one (.one (.w (.v (.bool (eqPeer a b)))))) [.agg ((Peer.c a).map .r), .agg ((Peer.c b).map .r)] := by
 refine Eng.Fn.intro (E := E) (rvs := [.tmp 4]) Tryz.func161 rfl rfl rfl (by simp [outSlots, moved, rvSlot, sl]) ?_
 intro B g bo
 refine CW.keep 25 [0,1] rfl ?_;(conv=>whnf);refine ⟨?_⟩
 refine CW.seq ?_
 refine CW.region ?_
 refine RW.k XK 25 1 rfl ?_
 (conv=>whnf);intro b1;(conv=>whnf);refine ⟨rfl,?_⟩
 refine RW.freezeB (ts := (Peer.c a)) 2 rfl (DRd.r (DRd.r (DRd.r (DRd.r DRd.e)))) ?_
 refine RW.k XK 25 1 rfl ?_
 (conv=>whnf);intro b2;(conv=>whnf);refine ⟨rfl,?_⟩
 refine RW.freezeB (ts := (Peer.c b)) 3 rfl (DRd.r (DRd.r (DRd.r (DRd.r DRd.e)))) ?_
 refine RW.k XK 25 1 rfl ?_
 (conv=>whnf);refine ⟨rfl,?_⟩
 refine RW.nil ?_
 refine CW.keep 25 [2,3] rfl ?_;(conv=>whnf);refine ⟨?_⟩
 refine CW.seq ?_
 refine CW.k XK 25 1 [2,3,9] rfl ?_
 (conv=>whnf);refine ⟨rfl,?_⟩
 refine CW.cond rfl (fun h3 => ?_) (fun h3 => ?_)
 ·skip
  refine CW.k XK 25 1 [4] rfl ?_
  (conv=>whnf);refine ⟨rfl,?_⟩
  refine CW.ret ?_
  exact Post.one (RV.b rfl (by simp_all [eqPeer])) (AOs.a rfl (AOs.a rfl AOs.e))
 ·skip
  refine CW.skip ?_
  refine CW.keep 25 [2,3] rfl ?_;(conv=>whnf);refine ⟨?_⟩
  refine CW.seq ?_
  refine CW.k XK 25 1 [2,3,14] rfl ?_
  (conv=>whnf);refine ⟨rfl,?_⟩
  refine CW.cond rfl (fun h4 => ?_) (fun h4 => ?_)
  ·skip
   refine CW.k XK 25 1 [4] rfl ?_
   (conv=>whnf);refine ⟨rfl,?_⟩
   refine CW.ret ?_
   exact Post.one (RV.b rfl (by simp_all [eqPeer])) (AOs.a rfl (AOs.a rfl AOs.e))
  ·skip
   refine CW.skip ?_
   refine CW.keep 25 [2,3] rfl ?_;(conv=>whnf);refine ⟨?_⟩
   refine CW.seq ?_
   refine CW.k XK 25 1 [2,3,19] rfl ?_
   (conv=>whnf);refine ⟨rfl,?_⟩
   refine CW.cond rfl (fun h5 => ?_) (fun h5 => ?_)
   ·skip
    refine CW.k XK 25 1 [4] rfl ?_
    (conv=>whnf);refine ⟨rfl,?_⟩
    refine CW.ret ?_
    exact Post.one (RV.b rfl (by simp_all [eqPeer])) (AOs.a rfl (AOs.a rfl AOs.e))
   ·skip
    refine CW.skip ?_
    refine CW.keep 25 [2,3] rfl ?_;(conv=>whnf);refine ⟨?_⟩
    refine CW.seq ?_
    refine CW.k XK 25 1 [24] rfl ?_
    (conv=>whnf);refine ⟨rfl,?_⟩
    refine CW.cond rfl (fun h6 => ?_) (fun h6 => ?_)
    ·skip
     refine CW.k XK 25 1 [4] rfl ?_
     (conv=>whnf);refine ⟨rfl,?_⟩
     refine CW.ret ?_
     exact Post.one (RV.b rfl (by simp_all [eqPeer])) (AOs.a rfl (AOs.a rfl AOs.e))
    ·skip
     refine CW.skip ?_
     refine CW.keep 25 [] rfl ?_;(conv=>whnf);refine ⟨?_⟩
     refine CW.k XK 25 1 [4] rfl ?_
     (conv=>whnf);refine ⟨rfl,?_⟩
     refine CW.ret ?_
     exact Post.one (RV.b rfl (by simp_all [eqPeer])) (AOs.a rfl (AOs.a rfl AOs.e))
set_option maxHeartbeats 4000000 in
theorem laws_eqPeerS_fn (a : List Peer) (b : List Peer) : Eng.Fn E.P 91 [.one (.r (sl 4 Peer.c a)), .one (.r (sl 4 Peer.c b))] (.one (.one (.w (.v (.bool (eqS eqPeer a b)))))) [.one (.r (sl 4 Peer.c a)), .one (.r (sl 4 Peer.c b))] := by
 refine Eng.Fn.intro (E := E) (rvs := [.tmp 4]) Tryz.func91 rfl rfl rfl (by simp [outSlots, moved, rvSlot, sl]) ?_
 intro B g bo
 refine CW.bound (x := .tmp 0) (n := a.length) (AsT.r) (fun hl0 => ?_)
 refine CW.bound (x := .tmp 1) (n := b.length) (AsT.r) (fun hl1 => ?_)
 refine CW.keep 27 [0,1] rfl ?_;(conv=>whnf);refine ⟨?_⟩
 refine CW.k XK 27 1 [0,1] rfl ?_
 (conv=>whnf);refine ⟨rfl,?_⟩
 refine CW.seq ?_
 refine CW.k XK 27 1 [0,1,10] rfl ?_
 (conv=>whnf);refine ⟨rfl,?_⟩
 refine CW.cond rfl (fun h1 => ?_) (fun h1 => ?_)
 ·skip
  refine CW.k XK 27 1 [4] rfl ?_
  (conv=>whnf);refine ⟨rfl,?_⟩
  refine CW.ret ?_
  exact Post.one (RV.b rfl (by first | (simp_all [eqS, eqI, eqStr, eqB]; done) | exact (eqS_ne (by simp_all; omega)).symm)) (AOs.r (AOs.r AOs.e))
 ·skip
  refine CW.skip ?_
  refine CW.keep 27 [0,1] rfl ?_;(conv=>whnf);refine ⟨?_⟩
  refine CW.seq ?_
  refine CW.k XK 27 1 [0,1,5] rfl ?_
  (conv=>whnf);refine ⟨rfl,?_⟩
  refine CW.block ?_
  refine CW.loopI 27 (fun (i : Nat) => [(0, .r (sl 4 Peer.c a)), (1, .r (sl 4 Peer.c b)), (5, I (i : Int))]) (fun (i : Nat) => i ≤ a.length ∧ eqS eqPeer (a.drop i) (b.drop i) = eqS eqPeer a b) (fun (i : Nat) => a.length - i) 0 rfl (Le.c rfl <| Le.c rfl <| Le.c rfl <| Le.e) ⟨by omega, by simp⟩ ?_
  rintro i ⟨hb, hr⟩
  have hlen : a.length = b.length := by simp at h1; omega
  refine CW.seq ?_
  refine CW.k XK 27 1 [0,1,5,14] rfl ?_
  (conv=>whnf);refine ⟨rfl,?_⟩
  refine CW.cond rfl (fun h2 => ?_) (fun h2 => ?_)
  ·skip
   have hii : i < a.length := by have := h2; simp at this; first | exact this | omega | (simp; done) | (simp; omega)
   obtain ⟨ei, hei⟩ : ∃ e, a[i]? = some e := ⟨_, List.getElem?_eq_getElem hii⟩
   have hdi := drop_get hei
   have hib : i < b.length := by omega
   obtain ⟨eb, heb⟩ : ∃ e, b[i]? = some e := ⟨_, List.getElem?_eq_getElem hib⟩
   have hdb := drop_get heb
   refine CW.skip ?_
   refine CW.keep 27 [0,1,5] rfl ?_;(conv=>whnf);refine ⟨?_⟩
   refine CW.seq ?_
   refine CW.block ?_
   refine CW.seq ?_
   refine CW.drawn (by kernel_rfl) ?_
   refine RQ.k XK 27 2 rfl ?_
   (conv=>whnf);refine ⟨rfl,?_⟩
   refine RQ.v rfl (V.indexS rfl rfl rfl rfl rfl rfl Peer.len hei) ?_
   refine RQ.k XK 27 3 rfl ?_
   (conv=>whnf);refine ⟨rfl,?_⟩
   refine RQ.v rfl (V.indexS rfl rfl rfl rfl rfl rfl Peer.len heb) ?_
   refine RQ.k XK 27 1 rfl ?_
   (conv=>whnf);refine ⟨rfl,?_⟩
   refine RQ.cons rfl (QOK.call (laws_eqPeer_fn ei eb) rfl (.cons (.agg (.cons (.r .r) (.cons (.r .r) (.cons (.r .r) (.cons (.r .r) (.nil)))))) (.cons (.agg (.cons (.r .r) (.cons (.r .r) (.cons (.r .r) (.cons (.r .r) (.nil)))))) (.nil))) ?_)
   refine RQ.k XK 27 1 rfl ?_
   (conv=>whnf);refine ⟨rfl,?_⟩
   refine RQ.nil ?_
   refine CW.keep 27 [0,1,5,26] rfl ?_;(conv=>whnf);refine ⟨?_⟩
   refine CW.cond rfl (fun h3 => ?_) (fun h3 => ?_)
   ·skip
    refine CW.k XK 27 1 [4] rfl ?_
    (conv=>whnf);refine ⟨rfl,?_⟩
    refine CW.ret ?_
    exact Post.one (RV.b rfl (by first | (simp_all [eqS, eqI, eqStr, eqB]; done) | exact (eqS_ne (by simp_all; omega)).symm)) (AOs.r (AOs.r AOs.e))
   ·skip
    refine CW.skip ?_
    refine CW.keep 27 [0,1,5] rfl ?_;(conv=>whnf);refine ⟨?_⟩
    refine CW.region ?_
    refine RW.k XK 27 1 rfl ?_
    (conv=>whnf);refine ⟨rfl,?_⟩
    refine RW.v rfl (V.inc rfl rfl rfl hii hl0) ?_
    refine RW.k XK 27 1 rfl ?_
    (conv=>whnf);refine ⟨rfl,?_⟩
    refine RW.nil ?_
    exact ⟨i + 1, by omega, ⟨by omega, by simp_all [eqS, eqI, eqStr, eqB]⟩, rfl, Le.c rfl <| Le.c rfl <| Le.c rfl <| Le.e⟩
  ·skip
   have hii : a.length ≤ i := by have := h2; simp at this; first | exact this | omega | (simp; done) | (simp; omega)
   have hdi : a.drop i = [] := List.drop_eq_nil_of_le hii
   refine CW.exit ?_
   refine CW.keep 27 [] rfl ?_;(conv=>whnf);refine ⟨?_⟩
   refine CW.k XK 27 1 [4] rfl ?_
   (conv=>whnf);refine ⟨rfl,?_⟩
   refine CW.ret ?_
   exact Post.one (RV.b rfl (by rw [← hr, hdi, List.drop_eq_nil_of_le (show b.length ≤ i by omega)]; rfl)) (AOs.r (AOs.r AOs.e))
set_option maxHeartbeats 4000000 in
theorem laws_eqNode_fn (a : Node) (b : Node) : Eng.Fn E.P 33 [.agg ((Node.c a).map .r), .agg ((Node.c b).map .r)] (.one (.one (.w (.v (.bool (eqNode a b)))))) [.agg ((Node.c a).map .r), .agg ((Node.c b).map .r)] := by
 refine Eng.Fn.intro (E := E) (rvs := [.tmp 4]) Tryz.func33 rfl rfl rfl (by simp [outSlots, moved, rvSlot, sl]) ?_
 intro B g bo
 refine CW.keep 69 [0,1] rfl ?_;(conv=>whnf);refine ⟨?_⟩
 refine CW.seq ?_
 refine CW.region ?_
 refine RW.k XK 69 1 rfl ?_
 (conv=>whnf);intro b1;(conv=>whnf);refine ⟨rfl,?_⟩
 refine RW.freezeB (ts := (Node.c a)) 2 rfl (DRd.r (DRd.r (DRd.r (DRd.r (DRd.r (DRd.r (DRd.r (DRd.r (DRd.r (DRd.r (DRd.r (DRd.r (DRd.r (DRd.r DRd.e)))))))))))))) ?_
 refine RW.k XK 69 1 rfl ?_
 (conv=>whnf);intro b2;(conv=>whnf);refine ⟨rfl,?_⟩
 refine RW.freezeB (ts := (Node.c b)) 3 rfl (DRd.r (DRd.r (DRd.r (DRd.r (DRd.r (DRd.r (DRd.r (DRd.r (DRd.r (DRd.r (DRd.r (DRd.r (DRd.r (DRd.r DRd.e)))))))))))))) ?_
 refine RW.k XK 69 1 rfl ?_
 (conv=>whnf);refine ⟨rfl,?_⟩
 refine RW.nil ?_
 refine CW.keep 69 [2,3] rfl ?_;(conv=>whnf);refine ⟨?_⟩
 refine CW.seq ?_
 refine CW.k XK 69 1 [2,3,9] rfl ?_
 (conv=>whnf);refine ⟨rfl,?_⟩
 refine CW.cond rfl (fun h3 => ?_) (fun h3 => ?_)
 ·skip
  refine CW.k XK 69 1 [4] rfl ?_
  (conv=>whnf);refine ⟨rfl,?_⟩
  refine CW.ret ?_
  exact Post.one (RV.b rfl (by simp_all [eqNode])) (AOs.a rfl (AOs.a rfl AOs.e))
 ·skip
  refine CW.skip ?_
  refine CW.keep 69 [2,3] rfl ?_;(conv=>whnf);refine ⟨?_⟩
  refine CW.seq ?_
  refine CW.k XK 69 1 [2,3,14] rfl ?_
  (conv=>whnf);refine ⟨rfl,?_⟩
  refine CW.cond rfl (fun h4 => ?_) (fun h4 => ?_)
  ·skip
   refine CW.k XK 69 1 [4] rfl ?_
   (conv=>whnf);refine ⟨rfl,?_⟩
   refine CW.ret ?_
   exact Post.one (RV.b rfl (by simp_all [eqNode])) (AOs.a rfl (AOs.a rfl AOs.e))
  ·skip
   refine CW.skip ?_
   refine CW.keep 69 [2,3] rfl ?_;(conv=>whnf);refine ⟨?_⟩
   refine CW.seq ?_
   refine CW.k XK 69 1 [2,3,19] rfl ?_
   (conv=>whnf);refine ⟨rfl,?_⟩
   refine CW.cond rfl (fun h5 => ?_) (fun h5 => ?_)
   ·skip
    refine CW.k XK 69 1 [4] rfl ?_
    (conv=>whnf);refine ⟨rfl,?_⟩
    refine CW.ret ?_
    exact Post.one (RV.b rfl (by simp_all [eqNode])) (AOs.a rfl (AOs.a rfl AOs.e))
   ·skip
    refine CW.skip ?_
    refine CW.keep 69 [2,3] rfl ?_;(conv=>whnf);refine ⟨?_⟩
    refine CW.seq ?_
    refine CW.k XK 69 1 [2,3,24] rfl ?_
    (conv=>whnf);refine ⟨rfl,?_⟩
    refine CW.cond rfl (fun h6 => ?_) (fun h6 => ?_)
    ·skip
     refine CW.k XK 69 1 [4] rfl ?_
     (conv=>whnf);refine ⟨rfl,?_⟩
     refine CW.ret ?_
     exact Post.one (RV.b rfl (by simp_all [eqNode])) (AOs.a rfl (AOs.a rfl AOs.e))
    ·skip
     refine CW.skip ?_
     refine CW.keep 69 [2,3] rfl ?_;(conv=>whnf);refine ⟨?_⟩
     refine CW.seq ?_
     refine CW.k XK 69 1 [2,3,29] rfl ?_
     (conv=>whnf);refine ⟨rfl,?_⟩
     refine CW.cond rfl (fun h7 => ?_) (fun h7 => ?_)
     ·skip
      refine CW.k XK 69 1 [4] rfl ?_
      (conv=>whnf);refine ⟨rfl,?_⟩
      refine CW.ret ?_
      exact Post.one (RV.b rfl (by simp_all [eqNode])) (AOs.a rfl (AOs.a rfl AOs.e))
     ·skip
      refine CW.skip ?_
      refine CW.keep 69 [2,3] rfl ?_;(conv=>whnf);refine ⟨?_⟩
      refine CW.seq ?_
      refine CW.seq ?_
      refine CW.region ?_
      refine RW.k XK 69 4 rfl ?_
      (conv=>whnf);refine ⟨rfl,?_⟩
      refine RW.call rfl (laws_eqIntS_fn a.conf b.conf) rfl (.cons (.one (.r .r)) (.cons (.one (.r .r)) (.nil))) fun g8 => ?_
      refine RW.k XK 69 1 rfl ?_
      (conv=>whnf);refine ⟨rfl,?_⟩
      refine RW.nil ?_
      refine CW.keep 69 [2,3,35] rfl ?_;(conv=>whnf);refine ⟨?_⟩
      refine CW.cond rfl (fun h9 => ?_) (fun h9 => ?_)
      ·skip
       refine CW.k XK 69 1 [4] rfl ?_
       (conv=>whnf);refine ⟨rfl,?_⟩
       refine CW.ret ?_
       exact Post.one (RV.b rfl (by simp_all [eqNode])) (AOs.a rfl (AOs.a rfl AOs.e))
      ·skip
       refine CW.skip ?_
       refine CW.keep 69 [2,3] rfl ?_;(conv=>whnf);refine ⟨?_⟩
       refine CW.seq ?_
       refine CW.seq ?_
       refine CW.region ?_
       refine RW.k XK 69 4 rfl ?_
       (conv=>whnf);refine ⟨rfl,?_⟩
       refine RW.call rfl (laws_eqLog_fn a.log b.log) rfl (.cons (.agg (.cons (.r .r) (.cons (.r .r) (.cons (.r .r) (.nil))))) (.cons (.agg (.cons (.r .r) (.cons (.r .r) (.cons (.r .r) (.nil))))) (.nil))) fun g10 => ?_
       refine RW.k XK 69 1 rfl ?_
       (conv=>whnf);refine ⟨rfl,?_⟩
       refine RW.nil ?_
       refine CW.keep 69 [2,3,41] rfl ?_;(conv=>whnf);refine ⟨?_⟩
       refine CW.cond rfl (fun h11 => ?_) (fun h11 => ?_)
       ·skip
        refine CW.k XK 69 1 [4] rfl ?_
        (conv=>whnf);refine ⟨rfl,?_⟩
        refine CW.ret ?_
        exact Post.one (RV.b rfl (by simp_all [eqNode])) (AOs.a rfl (AOs.a rfl AOs.e))
       ·skip
        refine CW.skip ?_
        refine CW.keep 69 [2,3] rfl ?_;(conv=>whnf);refine ⟨?_⟩
        refine CW.seq ?_
        refine CW.k XK 69 1 [2,3,46] rfl ?_
        (conv=>whnf);refine ⟨rfl,?_⟩
        refine CW.cond rfl (fun h12 => ?_) (fun h12 => ?_)
        ·skip
         refine CW.k XK 69 1 [4] rfl ?_
         (conv=>whnf);refine ⟨rfl,?_⟩
         refine CW.ret ?_
         exact Post.one (RV.b rfl (by simp_all [eqNode])) (AOs.a rfl (AOs.a rfl AOs.e))
        ·skip
         refine CW.skip ?_
         refine CW.keep 69 [2,3] rfl ?_;(conv=>whnf);refine ⟨?_⟩
         refine CW.seq ?_
         refine CW.k XK 69 1 [2,3,51] rfl ?_
         (conv=>whnf);refine ⟨rfl,?_⟩
         refine CW.cond rfl (fun h13 => ?_) (fun h13 => ?_)
         ·skip
          refine CW.k XK 69 1 [4] rfl ?_
          (conv=>whnf);refine ⟨rfl,?_⟩
          refine CW.ret ?_
          exact Post.one (RV.b rfl (by simp_all [eqNode])) (AOs.a rfl (AOs.a rfl AOs.e))
         ·skip
          refine CW.skip ?_
          refine CW.keep 69 [2,3] rfl ?_;(conv=>whnf);refine ⟨?_⟩
          refine CW.seq ?_
          refine CW.k XK 69 1 [2,3,56] rfl ?_
          (conv=>whnf);refine ⟨rfl,?_⟩
          refine CW.cond rfl (fun h14 => ?_) (fun h14 => ?_)
          ·skip
           refine CW.k XK 69 1 [4] rfl ?_
           (conv=>whnf);refine ⟨rfl,?_⟩
           refine CW.ret ?_
           exact Post.one (RV.b rfl (by simp_all [eqNode])) (AOs.a rfl (AOs.a rfl AOs.e))
          ·skip
           refine CW.skip ?_
           refine CW.keep 69 [2,3] rfl ?_;(conv=>whnf);refine ⟨?_⟩
           refine CW.seq ?_
           refine CW.seq ?_
           refine CW.region ?_
           refine RW.k XK 69 4 rfl ?_
           (conv=>whnf);refine ⟨rfl,?_⟩
           refine RW.call rfl (laws_eqIntS_fn a.votes b.votes) rfl (.cons (.one (.r .r)) (.cons (.one (.r .r)) (.nil))) fun g15 => ?_
           refine RW.k XK 69 1 rfl ?_
           (conv=>whnf);refine ⟨rfl,?_⟩
           refine RW.nil ?_
           refine CW.keep 69 [2,3,62] rfl ?_;(conv=>whnf);refine ⟨?_⟩
           refine CW.cond rfl (fun h16 => ?_) (fun h16 => ?_)
           ·skip
            refine CW.k XK 69 1 [4] rfl ?_
            (conv=>whnf);refine ⟨rfl,?_⟩
            refine CW.ret ?_
            exact Post.one (RV.b rfl (by simp_all [eqNode])) (AOs.a rfl (AOs.a rfl AOs.e))
           ·skip
            refine CW.skip ?_
            refine CW.keep 69 [2,3] rfl ?_;(conv=>whnf);refine ⟨?_⟩
            refine CW.seq ?_
            refine CW.seq ?_
            refine CW.region ?_
            refine RW.k XK 69 4 rfl ?_
            (conv=>whnf);refine ⟨rfl,?_⟩
            refine RW.call rfl (laws_eqPeerS_fn a.peers b.peers) rfl (.cons (.one (.r .r)) (.cons (.one (.r .r)) (.nil))) fun g17 => ?_
            refine RW.k XK 69 1 rfl ?_
            (conv=>whnf);refine ⟨rfl,?_⟩
            refine RW.nil ?_
            refine CW.keep 69 [68] rfl ?_;(conv=>whnf);refine ⟨?_⟩
            refine CW.cond rfl (fun h18 => ?_) (fun h18 => ?_)
            ·skip
             refine CW.k XK 69 1 [4] rfl ?_
             (conv=>whnf);refine ⟨rfl,?_⟩
             refine CW.ret ?_
             exact Post.one (RV.b rfl (by simp_all [eqNode])) (AOs.a rfl (AOs.a rfl AOs.e))
            ·skip
             refine CW.skip ?_
             refine CW.keep 69 [] rfl ?_;(conv=>whnf);refine ⟨?_⟩
             refine CW.k XK 69 1 [4] rfl ?_
             (conv=>whnf);refine ⟨rfl,?_⟩
             refine CW.ret ?_
             exact Post.one (RV.b rfl (by simp_all [eqNode])) (AOs.a rfl (AOs.a rfl AOs.e))
set_option maxHeartbeats 4000000 in
theorem laws_eqFile_fn (a : File) (b : File) : Eng.Fn E.P 162 [.agg ((File.c a).map .r), .agg ((File.c b).map .r)] (.one (.one (.w (.v (.bool (eqFile a b)))))) [.agg ((File.c a).map .r), .agg ((File.c b).map .r)] := by
 refine Eng.Fn.intro (E := E) (rvs := [.tmp 4]) Tryz.func162 rfl rfl rfl (by simp [outSlots, moved, rvSlot, sl]) ?_
 intro B g bo
 refine CW.keep 20 [0,1] rfl ?_;(conv=>whnf);refine ⟨?_⟩
 refine CW.seq ?_
 refine CW.region ?_
 refine RW.k XK 20 1 rfl ?_
 (conv=>whnf);intro b1;(conv=>whnf);refine ⟨rfl,?_⟩
 refine RW.freezeB (ts := (File.c a)) 2 rfl (DRd.r (DRd.r (DRd.r DRd.e))) ?_
 refine RW.k XK 20 1 rfl ?_
 (conv=>whnf);intro b2;(conv=>whnf);refine ⟨rfl,?_⟩
 refine RW.freezeB (ts := (File.c b)) 3 rfl (DRd.r (DRd.r (DRd.r DRd.e))) ?_
 refine RW.k XK 20 1 rfl ?_
 (conv=>whnf);refine ⟨rfl,?_⟩
 refine RW.nil ?_
 refine CW.keep 20 [2,3] rfl ?_;(conv=>whnf);refine ⟨?_⟩
 refine CW.seq ?_
 refine CW.k XK 20 1 [2,3,9] rfl ?_
 (conv=>whnf);refine ⟨rfl,?_⟩
 refine CW.cond rfl (fun h3 => ?_) (fun h3 => ?_)
 ·skip
  refine CW.k XK 20 1 [4] rfl ?_
  (conv=>whnf);refine ⟨rfl,?_⟩
  refine CW.ret ?_
  exact Post.one (RV.b rfl (by simp_all [eqFile])) (AOs.a rfl (AOs.a rfl AOs.e))
 ·skip
  refine CW.skip ?_
  refine CW.keep 20 [2,3] rfl ?_;(conv=>whnf);refine ⟨?_⟩
  refine CW.seq ?_
  refine CW.k XK 20 1 [2,3,14] rfl ?_
  (conv=>whnf);refine ⟨rfl,?_⟩
  refine CW.cond rfl (fun h4 => ?_) (fun h4 => ?_)
  ·skip
   refine CW.k XK 20 1 [4] rfl ?_
   (conv=>whnf);refine ⟨rfl,?_⟩
   refine CW.ret ?_
   exact Post.one (RV.b rfl (by simp_all [eqFile])) (AOs.a rfl (AOs.a rfl AOs.e))
  ·skip
   refine CW.skip ?_
   refine CW.keep 20 [2,3] rfl ?_;(conv=>whnf);refine ⟨?_⟩
   refine CW.seq ?_
   refine CW.k XK 20 1 [19] rfl ?_
   (conv=>whnf);refine ⟨rfl,?_⟩
   refine CW.cond rfl (fun h5 => ?_) (fun h5 => ?_)
   ·skip
    refine CW.k XK 20 1 [4] rfl ?_
    (conv=>whnf);refine ⟨rfl,?_⟩
    refine CW.ret ?_
    exact Post.one (RV.b rfl (by simp_all [eqFile])) (AOs.a rfl (AOs.a rfl AOs.e))
   ·skip
    refine CW.skip ?_
    refine CW.keep 20 [] rfl ?_;(conv=>whnf);refine ⟨?_⟩
    refine CW.k XK 20 1 [4] rfl ?_
    (conv=>whnf);refine ⟨rfl,?_⟩
    refine CW.ret ?_
    exact Post.one (RV.b rfl (by simp_all [eqFile])) (AOs.a rfl (AOs.a rfl AOs.e))
set_option maxHeartbeats 4000000 in
theorem laws_eqFileS_fn (a : List File) (b : List File) : Eng.Fn E.P 92 [.one (.r (sl 3 File.c a)), .one (.r (sl 3 File.c b))] (.one (.one (.w (.v (.bool (eqS eqFile a b)))))) [.one (.r (sl 3 File.c a)), .one (.r (sl 3 File.c b))] := by
 refine Eng.Fn.intro (E := E) (rvs := [.tmp 4]) Tryz.func92 rfl rfl rfl (by simp [outSlots, moved, rvSlot, sl]) ?_
 intro B g bo
 refine CW.bound (x := .tmp 0) (n := a.length) (AsT.r) (fun hl0 => ?_)
 refine CW.bound (x := .tmp 1) (n := b.length) (AsT.r) (fun hl1 => ?_)
 refine CW.keep 27 [0,1] rfl ?_;(conv=>whnf);refine ⟨?_⟩
 refine CW.k XK 27 1 [0,1] rfl ?_
 (conv=>whnf);refine ⟨rfl,?_⟩
 refine CW.seq ?_
 refine CW.k XK 27 1 [0,1,10] rfl ?_
 (conv=>whnf);refine ⟨rfl,?_⟩
 refine CW.cond rfl (fun h1 => ?_) (fun h1 => ?_)
 ·skip
  refine CW.k XK 27 1 [4] rfl ?_
  (conv=>whnf);refine ⟨rfl,?_⟩
  refine CW.ret ?_
  exact Post.one (RV.b rfl (by first | (simp_all [eqS, eqI, eqStr, eqB]; done) | exact (eqS_ne (by simp_all; omega)).symm)) (AOs.r (AOs.r AOs.e))
 ·skip
  refine CW.skip ?_
  refine CW.keep 27 [0,1] rfl ?_;(conv=>whnf);refine ⟨?_⟩
  refine CW.seq ?_
  refine CW.k XK 27 1 [0,1,5] rfl ?_
  (conv=>whnf);refine ⟨rfl,?_⟩
  refine CW.block ?_
  refine CW.loopI 27 (fun (i : Nat) => [(0, .r (sl 3 File.c a)), (1, .r (sl 3 File.c b)), (5, I (i : Int))]) (fun (i : Nat) => i ≤ a.length ∧ eqS eqFile (a.drop i) (b.drop i) = eqS eqFile a b) (fun (i : Nat) => a.length - i) 0 rfl (Le.c rfl <| Le.c rfl <| Le.c rfl <| Le.e) ⟨by omega, by simp⟩ ?_
  rintro i ⟨hb, hr⟩
  have hlen : a.length = b.length := by simp at h1; omega
  refine CW.seq ?_
  refine CW.k XK 27 1 [0,1,5,14] rfl ?_
  (conv=>whnf);refine ⟨rfl,?_⟩
  refine CW.cond rfl (fun h2 => ?_) (fun h2 => ?_)
  ·skip
   have hii : i < a.length := by have := h2; simp at this; first | exact this | omega | (simp; done) | (simp; omega)
   obtain ⟨ei, hei⟩ : ∃ e, a[i]? = some e := ⟨_, List.getElem?_eq_getElem hii⟩
   have hdi := drop_get hei
   have hib : i < b.length := by omega
   obtain ⟨eb, heb⟩ : ∃ e, b[i]? = some e := ⟨_, List.getElem?_eq_getElem hib⟩
   have hdb := drop_get heb
   refine CW.skip ?_
   refine CW.keep 27 [0,1,5] rfl ?_;(conv=>whnf);refine ⟨?_⟩
   refine CW.seq ?_
   refine CW.block ?_
   refine CW.seq ?_
   refine CW.drawn (by kernel_rfl) ?_
   refine RQ.k XK 27 2 rfl ?_
   (conv=>whnf);refine ⟨rfl,?_⟩
   refine RQ.v rfl (V.indexS rfl rfl rfl rfl rfl rfl File.len hei) ?_
   refine RQ.k XK 27 3 rfl ?_
   (conv=>whnf);refine ⟨rfl,?_⟩
   refine RQ.v rfl (V.indexS rfl rfl rfl rfl rfl rfl File.len heb) ?_
   refine RQ.k XK 27 1 rfl ?_
   (conv=>whnf);refine ⟨rfl,?_⟩
   refine RQ.cons rfl (QOK.call (laws_eqFile_fn ei eb) rfl (.cons (.agg (.cons (.r .r) (.cons (.r .r) (.cons (.r .r) (.nil))))) (.cons (.agg (.cons (.r .r) (.cons (.r .r) (.cons (.r .r) (.nil))))) (.nil))) ?_)
   refine RQ.k XK 27 1 rfl ?_
   (conv=>whnf);refine ⟨rfl,?_⟩
   refine RQ.nil ?_
   refine CW.keep 27 [0,1,5,26] rfl ?_;(conv=>whnf);refine ⟨?_⟩
   refine CW.cond rfl (fun h3 => ?_) (fun h3 => ?_)
   ·skip
    refine CW.k XK 27 1 [4] rfl ?_
    (conv=>whnf);refine ⟨rfl,?_⟩
    refine CW.ret ?_
    exact Post.one (RV.b rfl (by first | (simp_all [eqS, eqI, eqStr, eqB]; done) | exact (eqS_ne (by simp_all; omega)).symm)) (AOs.r (AOs.r AOs.e))
   ·skip
    refine CW.skip ?_
    refine CW.keep 27 [0,1,5] rfl ?_;(conv=>whnf);refine ⟨?_⟩
    refine CW.region ?_
    refine RW.k XK 27 1 rfl ?_
    (conv=>whnf);refine ⟨rfl,?_⟩
    refine RW.v rfl (V.inc rfl rfl rfl hii hl0) ?_
    refine RW.k XK 27 1 rfl ?_
    (conv=>whnf);refine ⟨rfl,?_⟩
    refine RW.nil ?_
    exact ⟨i + 1, by omega, ⟨by omega, by simp_all [eqS, eqI, eqStr, eqB]⟩, rfl, Le.c rfl <| Le.c rfl <| Le.c rfl <| Le.e⟩
  ·skip
   have hii : a.length ≤ i := by have := h2; simp at this; first | exact this | omega | (simp; done) | (simp; omega)
   have hdi : a.drop i = [] := List.drop_eq_nil_of_le hii
   refine CW.exit ?_
   refine CW.keep 27 [] rfl ?_;(conv=>whnf);refine ⟨?_⟩
   refine CW.k XK 27 1 [4] rfl ?_
   (conv=>whnf);refine ⟨rfl,?_⟩
   refine CW.ret ?_
   exact Post.one (RV.b rfl (by rw [← hr, hdi, List.drop_eq_nil_of_le (show b.length ≤ i by omega)]; rfl)) (AOs.r (AOs.r AOs.e))
set_option maxHeartbeats 4000000 in
theorem laws_eqDisk_fn (a : Disk) (b : Disk) : Eng.Fn E.P 34 [.agg ((Disk.c a).map .r), .agg ((Disk.c b).map .r)] (.one (.one (.w (.v (.bool (eqDisk a b)))))) [.agg ((Disk.c a).map .r), .agg ((Disk.c b).map .r)] := by
 refine Eng.Fn.intro (E := E) (rvs := [.tmp 4]) Tryz.func34 rfl rfl rfl (by simp [outSlots, moved, rvSlot, sl]) ?_
 intro B g bo
 refine CW.keep 11 [0,1] rfl ?_;(conv=>whnf);refine ⟨?_⟩
 refine CW.seq ?_
 refine CW.region ?_
 refine RW.k XK 11 1 rfl ?_
 (conv=>whnf);intro b1;(conv=>whnf);refine ⟨rfl,?_⟩
 refine RW.freezeB (ts := (Disk.c a)) 2 rfl (DRd.r DRd.e) ?_
 refine RW.k XK 11 1 rfl ?_
 (conv=>whnf);intro b2;(conv=>whnf);refine ⟨rfl,?_⟩
 refine RW.freezeB (ts := (Disk.c b)) 3 rfl (DRd.r DRd.e) ?_
 refine RW.k XK 11 1 rfl ?_
 (conv=>whnf);refine ⟨rfl,?_⟩
 refine RW.nil ?_
 refine CW.keep 11 [2,3] rfl ?_;(conv=>whnf);refine ⟨?_⟩
 refine CW.seq ?_
 refine CW.seq ?_
 refine CW.region ?_
 refine RW.k XK 11 4 rfl ?_
 (conv=>whnf);refine ⟨rfl,?_⟩
 refine RW.call rfl (laws_eqFileS_fn a.files b.files) rfl (.cons (.one (.r .r)) (.cons (.one (.r .r)) (.nil))) fun g3 => ?_
 refine RW.k XK 11 1 rfl ?_
 (conv=>whnf);refine ⟨rfl,?_⟩
 refine RW.nil ?_
 refine CW.keep 11 [10] rfl ?_;(conv=>whnf);refine ⟨?_⟩
 refine CW.cond rfl (fun h4 => ?_) (fun h4 => ?_)
 ·skip
  refine CW.k XK 11 1 [4] rfl ?_
  (conv=>whnf);refine ⟨rfl,?_⟩
  refine CW.ret ?_
  exact Post.one (RV.b rfl (by simp_all [eqDisk])) (AOs.a rfl (AOs.a rfl AOs.e))
 ·skip
  refine CW.skip ?_
  refine CW.keep 11 [] rfl ?_;(conv=>whnf);refine ⟨?_⟩
  refine CW.k XK 11 1 [4] rfl ?_
  (conv=>whnf);refine ⟨rfl,?_⟩
  refine CW.ret ?_
  exact Post.one (RV.b rfl (by simp_all [eqDisk])) (AOs.a rfl (AOs.a rfl AOs.e))
set_option maxHeartbeats 4000000 in
theorem laws_eqJournal_fn (a : Journal) (b : Journal) : Eng.Fn E.P 35 [.agg ((Journal.c a).map .r), .agg ((Journal.c b).map .r)] (.one (.one (.w (.v (.bool (eqJournal a b)))))) [.agg ((Journal.c a).map .r), .agg ((Journal.c b).map .r)] := by
 refine Eng.Fn.intro (E := E) (rvs := [.tmp 4]) Tryz.func35 rfl rfl rfl (by simp [outSlots, moved, rvSlot, sl]) ?_
 intro B g bo
 refine CW.keep 26 [0,1] rfl ?_;(conv=>whnf);refine ⟨?_⟩
 refine CW.seq ?_
 refine CW.region ?_
 refine RW.k XK 26 1 rfl ?_
 (conv=>whnf);intro b1;(conv=>whnf);refine ⟨rfl,?_⟩
 refine RW.freezeB (ts := (Journal.c a)) 2 rfl (DRd.r (DRd.r (DRd.r (DRd.r (DRd.r (DRd.r DRd.e)))))) ?_
 refine RW.k XK 26 1 rfl ?_
 (conv=>whnf);intro b2;(conv=>whnf);refine ⟨rfl,?_⟩
 refine RW.freezeB (ts := (Journal.c b)) 3 rfl (DRd.r (DRd.r (DRd.r (DRd.r (DRd.r (DRd.r DRd.e)))))) ?_
 refine RW.k XK 26 1 rfl ?_
 (conv=>whnf);refine ⟨rfl,?_⟩
 refine RW.nil ?_
 refine CW.keep 26 [2,3] rfl ?_;(conv=>whnf);refine ⟨?_⟩
 refine CW.seq ?_
 refine CW.k XK 26 1 [2,3,9] rfl ?_
 (conv=>whnf);refine ⟨rfl,?_⟩
 refine CW.cond rfl (fun h3 => ?_) (fun h3 => ?_)
 ·skip
  refine CW.k XK 26 1 [4] rfl ?_
  (conv=>whnf);refine ⟨rfl,?_⟩
  refine CW.ret ?_
  exact Post.one (RV.b rfl (by simp_all [eqJournal])) (AOs.a rfl (AOs.a rfl AOs.e))
 ·skip
  refine CW.skip ?_
  refine CW.keep 26 [2,3] rfl ?_;(conv=>whnf);refine ⟨?_⟩
  refine CW.seq ?_
  refine CW.k XK 26 1 [2,3,14] rfl ?_
  (conv=>whnf);refine ⟨rfl,?_⟩
  refine CW.cond rfl (fun h4 => ?_) (fun h4 => ?_)
  ·skip
   refine CW.k XK 26 1 [4] rfl ?_
   (conv=>whnf);refine ⟨rfl,?_⟩
   refine CW.ret ?_
   exact Post.one (RV.b rfl (by simp_all [eqJournal])) (AOs.a rfl (AOs.a rfl AOs.e))
  ·skip
   refine CW.skip ?_
   refine CW.keep 26 [2,3] rfl ?_;(conv=>whnf);refine ⟨?_⟩
   refine CW.seq ?_
   refine CW.k XK 26 1 [2,3,19] rfl ?_
   (conv=>whnf);refine ⟨rfl,?_⟩
   refine CW.cond rfl (fun h5 => ?_) (fun h5 => ?_)
   ·skip
    refine CW.k XK 26 1 [4] rfl ?_
    (conv=>whnf);refine ⟨rfl,?_⟩
    refine CW.ret ?_
    exact Post.one (RV.b rfl (by simp_all [eqJournal])) (AOs.a rfl (AOs.a rfl AOs.e))
   ·skip
    refine CW.skip ?_
    refine CW.keep 26 [2,3] rfl ?_;(conv=>whnf);refine ⟨?_⟩
    refine CW.seq ?_
    refine CW.seq ?_
    refine CW.region ?_
    refine RW.k XK 26 4 rfl ?_
    (conv=>whnf);refine ⟨rfl,?_⟩
    refine RW.call rfl (laws_eqLog_fn a.log b.log) rfl (.cons (.agg (.cons (.r .r) (.cons (.r .r) (.cons (.r .r) (.nil))))) (.cons (.agg (.cons (.r .r) (.cons (.r .r) (.cons (.r .r) (.nil))))) (.nil))) fun g6 => ?_
    refine RW.k XK 26 1 rfl ?_
    (conv=>whnf);refine ⟨rfl,?_⟩
    refine RW.nil ?_
    refine CW.keep 26 [25] rfl ?_;(conv=>whnf);refine ⟨?_⟩
    refine CW.cond rfl (fun h7 => ?_) (fun h7 => ?_)
    ·skip
     refine CW.k XK 26 1 [4] rfl ?_
     (conv=>whnf);refine ⟨rfl,?_⟩
     refine CW.ret ?_
     exact Post.one (RV.b rfl (by simp_all [eqJournal])) (AOs.a rfl (AOs.a rfl AOs.e))
    ·skip
     refine CW.skip ?_
     refine CW.keep 26 [] rfl ?_;(conv=>whnf);refine ⟨?_⟩
     refine CW.k XK 26 1 [4] rfl ?_
     (conv=>whnf);refine ⟨rfl,?_⟩
     refine CW.ret ?_
     exact Post.one (RV.b rfl (by simp_all [eqJournal])) (AOs.a rfl (AOs.a rfl AOs.e))
set_option maxHeartbeats 4000000 in
theorem laws_eqSession_fn (a : Session) (b : Session) : Eng.Fn E.P 163 [.agg ((Session.c a).map .r), .agg ((Session.c b).map .r)] (.one (.one (.w (.v (.bool (eqSession a b)))))) [.agg ((Session.c a).map .r), .agg ((Session.c b).map .r)] := by
 refine Eng.Fn.intro (E := E) (rvs := [.tmp 4]) Tryz.func163 rfl rfl rfl (by simp [outSlots, moved, rvSlot, sl]) ?_
 intro B g bo
 refine CW.keep 20 [0,1] rfl ?_;(conv=>whnf);refine ⟨?_⟩
 refine CW.seq ?_
 refine CW.region ?_
 refine RW.k XK 20 1 rfl ?_
 (conv=>whnf);intro b1;(conv=>whnf);refine ⟨rfl,?_⟩
 refine RW.freezeB (ts := (Session.c a)) 2 rfl (DRd.r (DRd.r (DRd.r DRd.e))) ?_
 refine RW.k XK 20 1 rfl ?_
 (conv=>whnf);intro b2;(conv=>whnf);refine ⟨rfl,?_⟩
 refine RW.freezeB (ts := (Session.c b)) 3 rfl (DRd.r (DRd.r (DRd.r DRd.e))) ?_
 refine RW.k XK 20 1 rfl ?_
 (conv=>whnf);refine ⟨rfl,?_⟩
 refine RW.nil ?_
 refine CW.keep 20 [2,3] rfl ?_;(conv=>whnf);refine ⟨?_⟩
 refine CW.seq ?_
 refine CW.k XK 20 1 [2,3,9] rfl ?_
 (conv=>whnf);refine ⟨rfl,?_⟩
 refine CW.cond rfl (fun h3 => ?_) (fun h3 => ?_)
 ·skip
  refine CW.k XK 20 1 [4] rfl ?_
  (conv=>whnf);refine ⟨rfl,?_⟩
  refine CW.ret ?_
  exact Post.one (RV.b rfl (by simp_all [eqSession])) (AOs.a rfl (AOs.a rfl AOs.e))
 ·skip
  refine CW.skip ?_
  refine CW.keep 20 [2,3] rfl ?_;(conv=>whnf);refine ⟨?_⟩
  refine CW.seq ?_
  refine CW.k XK 20 1 [2,3,14] rfl ?_
  (conv=>whnf);refine ⟨rfl,?_⟩
  refine CW.cond rfl (fun h4 => ?_) (fun h4 => ?_)
  ·skip
   refine CW.k XK 20 1 [4] rfl ?_
   (conv=>whnf);refine ⟨rfl,?_⟩
   refine CW.ret ?_
   exact Post.one (RV.b rfl (by simp_all [eqSession])) (AOs.a rfl (AOs.a rfl AOs.e))
  ·skip
   refine CW.skip ?_
   refine CW.keep 20 [2,3] rfl ?_;(conv=>whnf);refine ⟨?_⟩
   refine CW.seq ?_
   refine CW.k XK 20 1 [19] rfl ?_
   (conv=>whnf);refine ⟨rfl,?_⟩
   refine CW.cond rfl (fun h5 => ?_) (fun h5 => ?_)
   ·skip
    refine CW.k XK 20 1 [4] rfl ?_
    (conv=>whnf);refine ⟨rfl,?_⟩
    refine CW.ret ?_
    exact Post.one (RV.b rfl (by simp_all [eqSession])) (AOs.a rfl (AOs.a rfl AOs.e))
   ·skip
    refine CW.skip ?_
    refine CW.keep 20 [] rfl ?_;(conv=>whnf);refine ⟨?_⟩
    refine CW.k XK 20 1 [4] rfl ?_
    (conv=>whnf);refine ⟨rfl,?_⟩
    refine CW.ret ?_
    exact Post.one (RV.b rfl (by simp_all [eqSession])) (AOs.a rfl (AOs.a rfl AOs.e))
set_option maxHeartbeats 4000000 in
theorem laws_eqSessionS_fn (a : List Session) (b : List Session) : Eng.Fn E.P 93 [.one (.r (sl 3 Session.c a)), .one (.r (sl 3 Session.c b))] (.one (.one (.w (.v (.bool (eqS eqSession a b)))))) [.one (.r (sl 3 Session.c a)), .one (.r (sl 3 Session.c b))] := by
 refine Eng.Fn.intro (E := E) (rvs := [.tmp 4]) Tryz.func93 rfl rfl rfl (by simp [outSlots, moved, rvSlot, sl]) ?_
 intro B g bo
 refine CW.bound (x := .tmp 0) (n := a.length) (AsT.r) (fun hl0 => ?_)
 refine CW.bound (x := .tmp 1) (n := b.length) (AsT.r) (fun hl1 => ?_)
 refine CW.keep 27 [0,1] rfl ?_;(conv=>whnf);refine ⟨?_⟩
 refine CW.k XK 27 1 [0,1] rfl ?_
 (conv=>whnf);refine ⟨rfl,?_⟩
 refine CW.seq ?_
 refine CW.k XK 27 1 [0,1,10] rfl ?_
 (conv=>whnf);refine ⟨rfl,?_⟩
 refine CW.cond rfl (fun h1 => ?_) (fun h1 => ?_)
 ·skip
  refine CW.k XK 27 1 [4] rfl ?_
  (conv=>whnf);refine ⟨rfl,?_⟩
  refine CW.ret ?_
  exact Post.one (RV.b rfl (by first | (simp_all [eqS, eqI, eqStr, eqB]; done) | exact (eqS_ne (by simp_all; omega)).symm)) (AOs.r (AOs.r AOs.e))
 ·skip
  refine CW.skip ?_
  refine CW.keep 27 [0,1] rfl ?_;(conv=>whnf);refine ⟨?_⟩
  refine CW.seq ?_
  refine CW.k XK 27 1 [0,1,5] rfl ?_
  (conv=>whnf);refine ⟨rfl,?_⟩
  refine CW.block ?_
  refine CW.loopI 27 (fun (i : Nat) => [(0, .r (sl 3 Session.c a)), (1, .r (sl 3 Session.c b)), (5, I (i : Int))]) (fun (i : Nat) => i ≤ a.length ∧ eqS eqSession (a.drop i) (b.drop i) = eqS eqSession a b) (fun (i : Nat) => a.length - i) 0 rfl (Le.c rfl <| Le.c rfl <| Le.c rfl <| Le.e) ⟨by omega, by simp⟩ ?_
  rintro i ⟨hb, hr⟩
  have hlen : a.length = b.length := by simp at h1; omega
  refine CW.seq ?_
  refine CW.k XK 27 1 [0,1,5,14] rfl ?_
  (conv=>whnf);refine ⟨rfl,?_⟩
  refine CW.cond rfl (fun h2 => ?_) (fun h2 => ?_)
  ·skip
   have hii : i < a.length := by have := h2; simp at this; first | exact this | omega | (simp; done) | (simp; omega)
   obtain ⟨ei, hei⟩ : ∃ e, a[i]? = some e := ⟨_, List.getElem?_eq_getElem hii⟩
   have hdi := drop_get hei
   have hib : i < b.length := by omega
   obtain ⟨eb, heb⟩ : ∃ e, b[i]? = some e := ⟨_, List.getElem?_eq_getElem hib⟩
   have hdb := drop_get heb
   refine CW.skip ?_
   refine CW.keep 27 [0,1,5] rfl ?_;(conv=>whnf);refine ⟨?_⟩
   refine CW.seq ?_
   refine CW.block ?_
   refine CW.seq ?_
   refine CW.drawn (by kernel_rfl) ?_
   refine RQ.k XK 27 2 rfl ?_
   (conv=>whnf);refine ⟨rfl,?_⟩
   refine RQ.v rfl (V.indexS rfl rfl rfl rfl rfl rfl Session.len hei) ?_
   refine RQ.k XK 27 3 rfl ?_
   (conv=>whnf);refine ⟨rfl,?_⟩
   refine RQ.v rfl (V.indexS rfl rfl rfl rfl rfl rfl Session.len heb) ?_
   refine RQ.k XK 27 1 rfl ?_
   (conv=>whnf);refine ⟨rfl,?_⟩
   refine RQ.cons rfl (QOK.call (laws_eqSession_fn ei eb) rfl (.cons (.agg (.cons (.r .r) (.cons (.r .r) (.cons (.r .r) (.nil))))) (.cons (.agg (.cons (.r .r) (.cons (.r .r) (.cons (.r .r) (.nil))))) (.nil))) ?_)
   refine RQ.k XK 27 1 rfl ?_
   (conv=>whnf);refine ⟨rfl,?_⟩
   refine RQ.nil ?_
   refine CW.keep 27 [0,1,5,26] rfl ?_;(conv=>whnf);refine ⟨?_⟩
   refine CW.cond rfl (fun h3 => ?_) (fun h3 => ?_)
   ·skip
    refine CW.k XK 27 1 [4] rfl ?_
    (conv=>whnf);refine ⟨rfl,?_⟩
    refine CW.ret ?_
    exact Post.one (RV.b rfl (by first | (simp_all [eqS, eqI, eqStr, eqB]; done) | exact (eqS_ne (by simp_all; omega)).symm)) (AOs.r (AOs.r AOs.e))
   ·skip
    refine CW.skip ?_
    refine CW.keep 27 [0,1,5] rfl ?_;(conv=>whnf);refine ⟨?_⟩
    refine CW.region ?_
    refine RW.k XK 27 1 rfl ?_
    (conv=>whnf);refine ⟨rfl,?_⟩
    refine RW.v rfl (V.inc rfl rfl rfl hii hl0) ?_
    refine RW.k XK 27 1 rfl ?_
    (conv=>whnf);refine ⟨rfl,?_⟩
    refine RW.nil ?_
    exact ⟨i + 1, by omega, ⟨by omega, by simp_all [eqS, eqI, eqStr, eqB]⟩, rfl, Le.c rfl <| Le.c rfl <| Le.c rfl <| Le.e⟩
  ·skip
   have hii : a.length ≤ i := by have := h2; simp at this; first | exact this | omega | (simp; done) | (simp; omega)
   have hdi : a.drop i = [] := List.drop_eq_nil_of_le hii
   refine CW.exit ?_
   refine CW.keep 27 [] rfl ?_;(conv=>whnf);refine ⟨?_⟩
   refine CW.k XK 27 1 [4] rfl ?_
   (conv=>whnf);refine ⟨rfl,?_⟩
   refine CW.ret ?_
   exact Post.one (RV.b rfl (by rw [← hr, hdi, List.drop_eq_nil_of_le (show b.length ≤ i by omega)]; rfl)) (AOs.r (AOs.r AOs.e))
set_option maxHeartbeats 4000000 in
theorem laws_eqItem_fn (a : Item) (b : Item) : Eng.Fn E.P 164 [.agg ((Item.c a).map .r), .agg ((Item.c b).map .r)] (.one (.one (.w (.v (.bool (eqItem a b)))))) [.agg ((Item.c a).map .r), .agg ((Item.c b).map .r)] := by
 refine Eng.Fn.intro (E := E) (rvs := [.tmp 4]) Tryz.func164 rfl rfl rfl (by simp [outSlots, moved, rvSlot, sl]) ?_
 intro B g bo
 refine CW.keep 20 [0,1] rfl ?_;(conv=>whnf);refine ⟨?_⟩
 refine CW.seq ?_
 refine CW.region ?_
 refine RW.k XK 20 1 rfl ?_
 (conv=>whnf);intro b1;(conv=>whnf);refine ⟨rfl,?_⟩
 refine RW.freezeB (ts := (Item.c a)) 2 rfl (DRd.r (DRd.r (DRd.r DRd.e))) ?_
 refine RW.k XK 20 1 rfl ?_
 (conv=>whnf);intro b2;(conv=>whnf);refine ⟨rfl,?_⟩
 refine RW.freezeB (ts := (Item.c b)) 3 rfl (DRd.r (DRd.r (DRd.r DRd.e))) ?_
 refine RW.k XK 20 1 rfl ?_
 (conv=>whnf);refine ⟨rfl,?_⟩
 refine RW.nil ?_
 refine CW.keep 20 [2,3] rfl ?_;(conv=>whnf);refine ⟨?_⟩
 refine CW.seq ?_
 refine CW.k XK 20 1 [2,3,9] rfl ?_
 (conv=>whnf);refine ⟨rfl,?_⟩
 refine CW.cond rfl (fun h3 => ?_) (fun h3 => ?_)
 ·skip
  refine CW.k XK 20 1 [4] rfl ?_
  (conv=>whnf);refine ⟨rfl,?_⟩
  refine CW.ret ?_
  exact Post.one (RV.b rfl (by simp_all [eqItem])) (AOs.a rfl (AOs.a rfl AOs.e))
 ·skip
  refine CW.skip ?_
  refine CW.keep 20 [2,3] rfl ?_;(conv=>whnf);refine ⟨?_⟩
  refine CW.seq ?_
  refine CW.k XK 20 1 [2,3,14] rfl ?_
  (conv=>whnf);refine ⟨rfl,?_⟩
  refine CW.cond rfl (fun h4 => ?_) (fun h4 => ?_)
  ·skip
   refine CW.k XK 20 1 [4] rfl ?_
   (conv=>whnf);refine ⟨rfl,?_⟩
   refine CW.ret ?_
   exact Post.one (RV.b rfl (by simp_all [eqItem])) (AOs.a rfl (AOs.a rfl AOs.e))
  ·skip
   refine CW.skip ?_
   refine CW.keep 20 [2,3] rfl ?_;(conv=>whnf);refine ⟨?_⟩
   refine CW.seq ?_
   refine CW.k XK 20 1 [19] rfl ?_
   (conv=>whnf);refine ⟨rfl,?_⟩
   refine CW.cond rfl (fun h5 => ?_) (fun h5 => ?_)
   ·skip
    refine CW.k XK 20 1 [4] rfl ?_
    (conv=>whnf);refine ⟨rfl,?_⟩
    refine CW.ret ?_
    exact Post.one (RV.b rfl (by simp_all [eqItem])) (AOs.a rfl (AOs.a rfl AOs.e))
   ·skip
    refine CW.skip ?_
    refine CW.keep 20 [] rfl ?_;(conv=>whnf);refine ⟨?_⟩
    refine CW.k XK 20 1 [4] rfl ?_
    (conv=>whnf);refine ⟨rfl,?_⟩
    refine CW.ret ?_
    exact Post.one (RV.b rfl (by simp_all [eqItem])) (AOs.a rfl (AOs.a rfl AOs.e))
set_option maxHeartbeats 4000000 in
theorem laws_eqItemS_fn (a : List Item) (b : List Item) : Eng.Fn E.P 94 [.one (.r (sl 3 Item.c a)), .one (.r (sl 3 Item.c b))] (.one (.one (.w (.v (.bool (eqS eqItem a b)))))) [.one (.r (sl 3 Item.c a)), .one (.r (sl 3 Item.c b))] := by
 refine Eng.Fn.intro (E := E) (rvs := [.tmp 4]) Tryz.func94 rfl rfl rfl (by simp [outSlots, moved, rvSlot, sl]) ?_
 intro B g bo
 refine CW.bound (x := .tmp 0) (n := a.length) (AsT.r) (fun hl0 => ?_)
 refine CW.bound (x := .tmp 1) (n := b.length) (AsT.r) (fun hl1 => ?_)
 refine CW.keep 27 [0,1] rfl ?_;(conv=>whnf);refine ⟨?_⟩
 refine CW.k XK 27 1 [0,1] rfl ?_
 (conv=>whnf);refine ⟨rfl,?_⟩
 refine CW.seq ?_
 refine CW.k XK 27 1 [0,1,10] rfl ?_
 (conv=>whnf);refine ⟨rfl,?_⟩
 refine CW.cond rfl (fun h1 => ?_) (fun h1 => ?_)
 ·skip
  refine CW.k XK 27 1 [4] rfl ?_
  (conv=>whnf);refine ⟨rfl,?_⟩
  refine CW.ret ?_
  exact Post.one (RV.b rfl (by first | (simp_all [eqS, eqI, eqStr, eqB]; done) | exact (eqS_ne (by simp_all; omega)).symm)) (AOs.r (AOs.r AOs.e))
 ·skip
  refine CW.skip ?_
  refine CW.keep 27 [0,1] rfl ?_;(conv=>whnf);refine ⟨?_⟩
  refine CW.seq ?_
  refine CW.k XK 27 1 [0,1,5] rfl ?_
  (conv=>whnf);refine ⟨rfl,?_⟩
  refine CW.block ?_
  refine CW.loopI 27 (fun (i : Nat) => [(0, .r (sl 3 Item.c a)), (1, .r (sl 3 Item.c b)), (5, I (i : Int))]) (fun (i : Nat) => i ≤ a.length ∧ eqS eqItem (a.drop i) (b.drop i) = eqS eqItem a b) (fun (i : Nat) => a.length - i) 0 rfl (Le.c rfl <| Le.c rfl <| Le.c rfl <| Le.e) ⟨by omega, by simp⟩ ?_
  rintro i ⟨hb, hr⟩
  have hlen : a.length = b.length := by simp at h1; omega
  refine CW.seq ?_
  refine CW.k XK 27 1 [0,1,5,14] rfl ?_
  (conv=>whnf);refine ⟨rfl,?_⟩
  refine CW.cond rfl (fun h2 => ?_) (fun h2 => ?_)
  ·skip
   have hii : i < a.length := by have := h2; simp at this; first | exact this | omega | (simp; done) | (simp; omega)
   obtain ⟨ei, hei⟩ : ∃ e, a[i]? = some e := ⟨_, List.getElem?_eq_getElem hii⟩
   have hdi := drop_get hei
   have hib : i < b.length := by omega
   obtain ⟨eb, heb⟩ : ∃ e, b[i]? = some e := ⟨_, List.getElem?_eq_getElem hib⟩
   have hdb := drop_get heb
   refine CW.skip ?_
   refine CW.keep 27 [0,1,5] rfl ?_;(conv=>whnf);refine ⟨?_⟩
   refine CW.seq ?_
   refine CW.block ?_
   refine CW.seq ?_
   refine CW.drawn (by kernel_rfl) ?_
   refine RQ.k XK 27 2 rfl ?_
   (conv=>whnf);refine ⟨rfl,?_⟩
   refine RQ.v rfl (V.indexS rfl rfl rfl rfl rfl rfl Item.len hei) ?_
   refine RQ.k XK 27 3 rfl ?_
   (conv=>whnf);refine ⟨rfl,?_⟩
   refine RQ.v rfl (V.indexS rfl rfl rfl rfl rfl rfl Item.len heb) ?_
   refine RQ.k XK 27 1 rfl ?_
   (conv=>whnf);refine ⟨rfl,?_⟩
   refine RQ.cons rfl (QOK.call (laws_eqItem_fn ei eb) rfl (.cons (.agg (.cons (.r .r) (.cons (.r .r) (.cons (.r .r) (.nil))))) (.cons (.agg (.cons (.r .r) (.cons (.r .r) (.cons (.r .r) (.nil))))) (.nil))) ?_)
   refine RQ.k XK 27 1 rfl ?_
   (conv=>whnf);refine ⟨rfl,?_⟩
   refine RQ.nil ?_
   refine CW.keep 27 [0,1,5,26] rfl ?_;(conv=>whnf);refine ⟨?_⟩
   refine CW.cond rfl (fun h3 => ?_) (fun h3 => ?_)
   ·skip
    refine CW.k XK 27 1 [4] rfl ?_
    (conv=>whnf);refine ⟨rfl,?_⟩
    refine CW.ret ?_
    exact Post.one (RV.b rfl (by first | (simp_all [eqS, eqI, eqStr, eqB]; done) | exact (eqS_ne (by simp_all; omega)).symm)) (AOs.r (AOs.r AOs.e))
   ·skip
    refine CW.skip ?_
    refine CW.keep 27 [0,1,5] rfl ?_;(conv=>whnf);refine ⟨?_⟩
    refine CW.region ?_
    refine RW.k XK 27 1 rfl ?_
    (conv=>whnf);refine ⟨rfl,?_⟩
    refine RW.v rfl (V.inc rfl rfl rfl hii hl0) ?_
    refine RW.k XK 27 1 rfl ?_
    (conv=>whnf);refine ⟨rfl,?_⟩
    refine RW.nil ?_
    exact ⟨i + 1, by omega, ⟨by omega, by simp_all [eqS, eqI, eqStr, eqB]⟩, rfl, Le.c rfl <| Le.c rfl <| Le.c rfl <| Le.e⟩
  ·skip
   have hii : a.length ≤ i := by have := h2; simp at this; first | exact this | omega | (simp; done) | (simp; omega)
   have hdi : a.drop i = [] := List.drop_eq_nil_of_le hii
   refine CW.exit ?_
   refine CW.keep 27 [] rfl ?_;(conv=>whnf);refine ⟨?_⟩
   refine CW.k XK 27 1 [4] rfl ?_
   (conv=>whnf);refine ⟨rfl,?_⟩
   refine CW.ret ?_
   exact Post.one (RV.b rfl (by rw [← hr, hdi, List.drop_eq_nil_of_le (show b.length ≤ i by omega)]; rfl)) (AOs.r (AOs.r AOs.e))
set_option maxHeartbeats 4000000 in
theorem laws_eqKeep_fn (a : Keep) (b : Keep) : Eng.Fn E.P 36 [.agg ((Keep.c a).map .r), .agg ((Keep.c b).map .r)] (.one (.one (.w (.v (.bool (eqKeep a b)))))) [.agg ((Keep.c a).map .r), .agg ((Keep.c b).map .r)] := by
 refine Eng.Fn.intro (E := E) (rvs := [.tmp 4]) Tryz.func36 rfl rfl rfl (by simp [outSlots, moved, rvSlot, sl]) ?_
 intro B g bo
 refine CW.keep 17 [0,1] rfl ?_;(conv=>whnf);refine ⟨?_⟩
 refine CW.seq ?_
 refine CW.region ?_
 refine RW.k XK 17 1 rfl ?_
 (conv=>whnf);intro b1;(conv=>whnf);refine ⟨rfl,?_⟩
 refine RW.freezeB (ts := (Keep.c a)) 2 rfl (DRd.r (DRd.r DRd.e)) ?_
 refine RW.k XK 17 1 rfl ?_
 (conv=>whnf);intro b2;(conv=>whnf);refine ⟨rfl,?_⟩
 refine RW.freezeB (ts := (Keep.c b)) 3 rfl (DRd.r (DRd.r DRd.e)) ?_
 refine RW.k XK 17 1 rfl ?_
 (conv=>whnf);refine ⟨rfl,?_⟩
 refine RW.nil ?_
 refine CW.keep 17 [2,3] rfl ?_;(conv=>whnf);refine ⟨?_⟩
 refine CW.seq ?_
 refine CW.seq ?_
 refine CW.region ?_
 refine RW.k XK 17 4 rfl ?_
 (conv=>whnf);refine ⟨rfl,?_⟩
 refine RW.call rfl (laws_eqSessionS_fn a.sessions b.sessions) rfl (.cons (.one (.r .r)) (.cons (.one (.r .r)) (.nil))) fun g3 => ?_
 refine RW.k XK 17 1 rfl ?_
 (conv=>whnf);refine ⟨rfl,?_⟩
 refine RW.nil ?_
 refine CW.keep 17 [2,3,10] rfl ?_;(conv=>whnf);refine ⟨?_⟩
 refine CW.cond rfl (fun h4 => ?_) (fun h4 => ?_)
 ·skip
  refine CW.k XK 17 1 [4] rfl ?_
  (conv=>whnf);refine ⟨rfl,?_⟩
  refine CW.ret ?_
  exact Post.one (RV.b rfl (by simp_all [eqKeep])) (AOs.a rfl (AOs.a rfl AOs.e))
 ·skip
  refine CW.skip ?_
  refine CW.keep 17 [2,3] rfl ?_;(conv=>whnf);refine ⟨?_⟩
  refine CW.seq ?_
  refine CW.seq ?_
  refine CW.region ?_
  refine RW.k XK 17 4 rfl ?_
  (conv=>whnf);refine ⟨rfl,?_⟩
  refine RW.call rfl (laws_eqItemS_fn a.items b.items) rfl (.cons (.one (.r .r)) (.cons (.one (.r .r)) (.nil))) fun g5 => ?_
  refine RW.k XK 17 1 rfl ?_
  (conv=>whnf);refine ⟨rfl,?_⟩
  refine RW.nil ?_
  refine CW.keep 17 [16] rfl ?_;(conv=>whnf);refine ⟨?_⟩
  refine CW.cond rfl (fun h6 => ?_) (fun h6 => ?_)
  ·skip
   refine CW.k XK 17 1 [4] rfl ?_
   (conv=>whnf);refine ⟨rfl,?_⟩
   refine CW.ret ?_
   exact Post.one (RV.b rfl (by simp_all [eqKeep])) (AOs.a rfl (AOs.a rfl AOs.e))
  ·skip
   refine CW.skip ?_
   refine CW.keep 17 [] rfl ?_;(conv=>whnf);refine ⟨?_⟩
   refine CW.k XK 17 1 [4] rfl ?_
   (conv=>whnf);refine ⟨rfl,?_⟩
   refine CW.ret ?_
   exact Post.one (RV.b rfl (by simp_all [eqKeep])) (AOs.a rfl (AOs.a rfl AOs.e))
set_option maxHeartbeats 4000000 in
theorem laws_eqServer_fn (a : Server) (b : Server) : Eng.Fn E.P 10 [.agg ((Server.c a).map .r), .agg ((Server.c b).map .r)] (.one (.one (.w (.v (.bool (eqServer a b)))))) [.agg ((Server.c a).map .r), .agg ((Server.c b).map .r)] := by
 refine Eng.Fn.intro (E := E) (rvs := [.tmp 4]) Tryz.func10 rfl rfl rfl (by simp [outSlots, moved, rvSlot, sl]) ?_
 intro B g bo
 refine CW.keep 49 [0,1] rfl ?_;(conv=>whnf);refine ⟨?_⟩
 refine CW.seq ?_
 refine CW.region ?_
 refine RW.k XK 49 1 rfl ?_
 (conv=>whnf);intro b1;(conv=>whnf);refine ⟨rfl,?_⟩
 refine RW.freezeB (ts := (Server.c a)) 2 rfl (DRd.r (DRd.r (DRd.r (DRd.r (DRd.r (DRd.r (DRd.r (DRd.r (DRd.r (DRd.r (DRd.r (DRd.r (DRd.r (DRd.r (DRd.r (DRd.r (DRd.r (DRd.r (DRd.r (DRd.r (DRd.r (DRd.r (DRd.r (DRd.r (DRd.r (DRd.r (DRd.r DRd.e))))))))))))))))))))))))))) ?_
 refine RW.k XK 49 1 rfl ?_
 (conv=>whnf);intro b2;(conv=>whnf);refine ⟨rfl,?_⟩
 refine RW.freezeB (ts := (Server.c b)) 3 rfl (DRd.r (DRd.r (DRd.r (DRd.r (DRd.r (DRd.r (DRd.r (DRd.r (DRd.r (DRd.r (DRd.r (DRd.r (DRd.r (DRd.r (DRd.r (DRd.r (DRd.r (DRd.r (DRd.r (DRd.r (DRd.r (DRd.r (DRd.r (DRd.r (DRd.r (DRd.r (DRd.r DRd.e))))))))))))))))))))))))))) ?_
 refine RW.k XK 49 1 rfl ?_
 (conv=>whnf);refine ⟨rfl,?_⟩
 refine RW.nil ?_
 refine CW.keep 49 [2,3] rfl ?_;(conv=>whnf);refine ⟨?_⟩
 refine CW.seq ?_
 refine CW.seq ?_
 refine CW.region ?_
 refine RW.k XK 49 4 rfl ?_
 (conv=>whnf);refine ⟨rfl,?_⟩
 refine RW.call rfl (laws_eqNode_fn a.node b.node) rfl (.cons (.agg (.cons (.r .r) (.cons (.r .r) (.cons (.r .r) (.cons (.r .r) (.cons (.r .r) (.cons (.r .r) (.cons (.r .r) (.cons (.r .r) (.cons (.r .r) (.cons (.r .r) (.cons (.r .r) (.cons (.r .r) (.cons (.r .r) (.cons (.r .r) (.nil)))))))))))))))) (.cons (.agg (.cons (.r .r) (.cons (.r .r) (.cons (.r .r) (.cons (.r .r) (.cons (.r .r) (.cons (.r .r) (.cons (.r .r) (.cons (.r .r) (.cons (.r .r) (.cons (.r .r) (.cons (.r .r) (.cons (.r .r) (.cons (.r .r) (.cons (.r .r) (.nil)))))))))))))))) (.nil))) fun g3 => ?_
 refine RW.k XK 49 1 rfl ?_
 (conv=>whnf);refine ⟨rfl,?_⟩
 refine RW.nil ?_
 refine CW.keep 49 [2,3,10] rfl ?_;(conv=>whnf);refine ⟨?_⟩
 refine CW.cond rfl (fun h4 => ?_) (fun h4 => ?_)
 ·skip
  refine CW.k XK 49 1 [4] rfl ?_
  (conv=>whnf);refine ⟨rfl,?_⟩
  refine CW.ret ?_
  exact Post.one (RV.b rfl (by simp_all [eqServer])) (AOs.a rfl (AOs.a rfl AOs.e))
 ·skip
  refine CW.skip ?_
  refine CW.keep 49 [2,3] rfl ?_;(conv=>whnf);refine ⟨?_⟩
  refine CW.seq ?_
  refine CW.seq ?_
  refine CW.region ?_
  refine RW.k XK 49 4 rfl ?_
  (conv=>whnf);refine ⟨rfl,?_⟩
  refine RW.call rfl (laws_eqDisk_fn a.disk b.disk) rfl (.cons (.agg (.cons (.r .r) (.nil))) (.cons (.agg (.cons (.r .r) (.nil))) (.nil))) fun g5 => ?_
  refine RW.k XK 49 1 rfl ?_
  (conv=>whnf);refine ⟨rfl,?_⟩
  refine RW.nil ?_
  refine CW.keep 49 [2,3,16] rfl ?_;(conv=>whnf);refine ⟨?_⟩
  refine CW.cond rfl (fun h6 => ?_) (fun h6 => ?_)
  ·skip
   refine CW.k XK 49 1 [4] rfl ?_
   (conv=>whnf);refine ⟨rfl,?_⟩
   refine CW.ret ?_
   exact Post.one (RV.b rfl (by simp_all [eqServer])) (AOs.a rfl (AOs.a rfl AOs.e))
  ·skip
   refine CW.skip ?_
   refine CW.keep 49 [2,3] rfl ?_;(conv=>whnf);refine ⟨?_⟩
   refine CW.seq ?_
   refine CW.seq ?_
   refine CW.region ?_
   refine RW.k XK 49 4 rfl ?_
   (conv=>whnf);refine ⟨rfl,?_⟩
   refine RW.call rfl (laws_eqJournal_fn a.journal b.journal) rfl (.cons (.agg (.cons (.r .r) (.cons (.r .r) (.cons (.r .r) (.cons (.r .r) (.cons (.r .r) (.cons (.r .r) (.nil)))))))) (.cons (.agg (.cons (.r .r) (.cons (.r .r) (.cons (.r .r) (.cons (.r .r) (.cons (.r .r) (.cons (.r .r) (.nil)))))))) (.nil))) fun g7 => ?_
   refine RW.k XK 49 1 rfl ?_
   (conv=>whnf);refine ⟨rfl,?_⟩
   refine RW.nil ?_
   refine CW.keep 49 [2,3,22] rfl ?_;(conv=>whnf);refine ⟨?_⟩
   refine CW.cond rfl (fun h8 => ?_) (fun h8 => ?_)
   ·skip
    refine CW.k XK 49 1 [4] rfl ?_
    (conv=>whnf);refine ⟨rfl,?_⟩
    refine CW.ret ?_
    exact Post.one (RV.b rfl (by simp_all [eqServer])) (AOs.a rfl (AOs.a rfl AOs.e))
   ·skip
    refine CW.skip ?_
    refine CW.keep 49 [2,3] rfl ?_;(conv=>whnf);refine ⟨?_⟩
    refine CW.seq ?_
    refine CW.seq ?_
    refine CW.region ?_
    refine RW.k XK 49 4 rfl ?_
    (conv=>whnf);refine ⟨rfl,?_⟩
    refine RW.call rfl (laws_eqKeep_fn a.keep b.keep) rfl (.cons (.agg (.cons (.r .r) (.cons (.r .r) (.nil)))) (.cons (.agg (.cons (.r .r) (.cons (.r .r) (.nil)))) (.nil))) fun g9 => ?_
    refine RW.k XK 49 1 rfl ?_
    (conv=>whnf);refine ⟨rfl,?_⟩
    refine RW.nil ?_
    refine CW.keep 49 [2,3,28] rfl ?_;(conv=>whnf);refine ⟨?_⟩
    refine CW.cond rfl (fun h10 => ?_) (fun h10 => ?_)
    ·skip
     refine CW.k XK 49 1 [4] rfl ?_
     (conv=>whnf);refine ⟨rfl,?_⟩
     refine CW.ret ?_
     exact Post.one (RV.b rfl (by simp_all [eqServer])) (AOs.a rfl (AOs.a rfl AOs.e))
    ·skip
     refine CW.skip ?_
     refine CW.keep 49 [2,3] rfl ?_;(conv=>whnf);refine ⟨?_⟩
     refine CW.seq ?_
     refine CW.k XK 49 1 [2,3,33] rfl ?_
     (conv=>whnf);refine ⟨rfl,?_⟩
     refine CW.cond rfl (fun h11 => ?_) (fun h11 => ?_)
     ·skip
      refine CW.k XK 49 1 [4] rfl ?_
      (conv=>whnf);refine ⟨rfl,?_⟩
      refine CW.ret ?_
      exact Post.one (RV.b rfl (by simp_all [eqServer])) (AOs.a rfl (AOs.a rfl AOs.e))
     ·skip
      refine CW.skip ?_
      refine CW.keep 49 [2,3] rfl ?_;(conv=>whnf);refine ⟨?_⟩
      refine CW.seq ?_
      refine CW.k XK 49 1 [2,3,38] rfl ?_
      (conv=>whnf);refine ⟨rfl,?_⟩
      refine CW.cond rfl (fun h12 => ?_) (fun h12 => ?_)
      ·skip
       refine CW.k XK 49 1 [4] rfl ?_
       (conv=>whnf);refine ⟨rfl,?_⟩
       refine CW.ret ?_
       exact Post.one (RV.b rfl (by simp_all [eqServer])) (AOs.a rfl (AOs.a rfl AOs.e))
      ·skip
       refine CW.skip ?_
       refine CW.keep 49 [2,3] rfl ?_;(conv=>whnf);refine ⟨?_⟩
       refine CW.seq ?_
       refine CW.k XK 49 1 [2,3,43] rfl ?_
       (conv=>whnf);refine ⟨rfl,?_⟩
       refine CW.cond rfl (fun h13 => ?_) (fun h13 => ?_)
       ·skip
        refine CW.k XK 49 1 [4] rfl ?_
        (conv=>whnf);refine ⟨rfl,?_⟩
        refine CW.ret ?_
        exact Post.one (RV.b rfl (by simp_all [eqServer])) (AOs.a rfl (AOs.a rfl AOs.e))
       ·skip
        refine CW.skip ?_
        refine CW.keep 49 [2,3] rfl ?_;(conv=>whnf);refine ⟨?_⟩
        refine CW.seq ?_
        refine CW.k XK 49 1 [48] rfl ?_
        (conv=>whnf);refine ⟨rfl,?_⟩
        refine CW.cond rfl (fun h14 => ?_) (fun h14 => ?_)
        ·skip
         refine CW.k XK 49 1 [4] rfl ?_
         (conv=>whnf);refine ⟨rfl,?_⟩
         refine CW.ret ?_
         exact Post.one (RV.b rfl (by simp_all [eqServer])) (AOs.a rfl (AOs.a rfl AOs.e))
        ·skip
         refine CW.skip ?_
         refine CW.keep 49 [] rfl ?_;(conv=>whnf);refine ⟨?_⟩
         refine CW.k XK 49 1 [4] rfl ?_
         (conv=>whnf);refine ⟨rfl,?_⟩
         refine CW.ret ?_
         exact Post.one (RV.b rfl (by simp_all [eqServer])) (AOs.a rfl (AOs.a rfl AOs.e))
set_option maxHeartbeats 4000000 in
theorem laws_markIntS_fn (a : List Int) (k : Int) (hk : k ≤ 9223372036854775807) : Eng.Fn E.P 41 [.one (.w (sl 1 cI a)), .one (.r (.v (.int .i64 k)))] (.one (.one (.w (.v (.int .i64 ((mkL mkI a k).2)))))) [.one (.w (sl 1 cI ((mkL mkI a k).1))), .one (.r (.v (.int .i64 k)))] := by
 refine Eng.Fn.intro (E := E) (rvs := [.tmp 4]) Tryz.func41 rfl rfl rfl (by simp [outSlots, moved, rvSlot, sl]) ?_
 intro B g bo
 refine CW.bound (x := .tmp 0) (n := a.length) (AsT.al rfl rfl nofun) (fun hl0 => ?_)
 refine CW.keep 19 [0,1] rfl ?_;(conv=>whnf);refine ⟨?_⟩
 have hl0b : a.length ≤ maxLen := hl0
 refine CW.k XK 19 1 [0,1] rfl ?_
 (conv=>whnf);refine ⟨rfl,?_⟩
 refine CW.seq ?_
 refine CW.k XK 19 1 [0,1,5] rfl ?_
 (conv=>whnf);refine ⟨rfl,?_⟩
 refine CW.block ?_
 refine CW.loopI 19 (fun (zz : Nat × Int × List Int) => match zz with | (i, l, b) => [(0, .w (sl 1 cI b) (g 0 0)), (1, I l), (5, I (i : Int))]) (fun (zz : Nat × Int × List Int) => match zz with | (i, l, b) => i ≤ b.length ∧ l ≤ 9223372036854775807 ∧ b.length = a.length ∧ b.drop i = a.drop i ∧ (b.take i ++ (mkL mkI (a.drop i) l).1, (mkL mkI (a.drop i) l).2) = mkL mkI a k) (fun (zz : Nat × Int × List Int) => match zz with | (i, l, b) => a.length - i) (0, _, _) rfl (Le.c rfl <| Le.c rfl <| Le.c rfl <| Le.e) ⟨by omega, hk, rfl, rfl, by simp⟩ ?_
 rintro ⟨i, l, b⟩ ⟨hb, hlk, hlen, hdr, hr⟩
 refine CW.seq ?_
 refine CW.k XK 19 1 [0,1,5,9] rfl ?_
 (conv=>whnf);refine ⟨rfl,?_⟩
 refine CW.cond rfl (fun h1 => ?_) (fun h1 => ?_)
 ·skip
  have hii : i < b.length := by have := h1; simp at this; first | exact this | omega | (simp; done) | (simp; omega)
  obtain ⟨ei, hei⟩ : ∃ e, b[i]? = some e := ⟨_, List.getElem?_eq_getElem hii⟩
  have hdi := drop_get hei
  refine CW.skip ?_
  refine CW.keep 19 [0,1,5] rfl ?_;(conv=>whnf);refine ⟨?_⟩
  refine CW.seq ?_
  refine CW.block ?_
  refine CW.seq ?_
  refine CW.region ?_
  refine RW.k XK 19 3 rfl ?_
  (conv=>whnf);refine ⟨rfl,?_⟩
  refine RW.v rfl (V.indexW rfl rfl rfl rfl rfl rfl rfl (by first | omega | (simp; omega))) ?_
  refine RW.storeS1 (v := l) (c := cI) (u := .v (.int .i64 l)) rfl rfl rfl rfl rfl rfl rfl (.inl rfl) rfl cI.len (by first | omega | (simp; omega)) rfl ?_
  refine RW.nil ?_
  refine CW.keep 19 [0,1,5] rfl ?_;(conv=>whnf);refine ⟨?_⟩
  refine CW.region ?_
  refine RW.k XK 19 3 rfl ?_
  (conv=>whnf);refine ⟨rfl,?_⟩
  refine RW.nil ?_
  refine CW.keep 19 [0,1,5] rfl ?_;(conv=>whnf);refine ⟨?_⟩
  refine CW.region ?_
  refine RW.k XK 19 1 rfl ?_
  (conv=>whnf);refine ⟨rfl,?_⟩
  refine RW.v rfl (V.inc rfl rfl rfl hii (by omega)) ?_
  refine RW.k XK 19 1 rfl ?_
  (conv=>whnf);refine ⟨rfl,?_⟩
  refine RW.nil ?_
  exact ⟨(i + 1, (IntKind.i64.wrap (l + 1)), (b.set i l)), by simp only []; omega, mk_step mkI (l) ((IntKind.i64.wrap (l + 1))) hei hlen hdr hr (by first | rfl | simp only [List.set_set]) rfl (by first | exact wrap_le _ | (apply mkL_le; assumption)), rfl, Le.c rfl <| Le.c rfl <| Le.c rfl <| Le.e⟩
 ·skip
  have hii : b.length ≤ i := by have := h1; simp at this; first | exact this | omega | (simp; done) | (simp; omega)
  have hdi : b.drop i = [] := List.drop_eq_nil_of_le hii
  refine CW.exit ?_
  refine CW.keep 19 [0,1] rfl ?_;(conv=>whnf);refine ⟨?_⟩
  refine CW.k XK 19 1 [0,4] rfl ?_
  (conv=>whnf);refine ⟨rfl,?_⟩
  refine CW.ret ?_
  exact Post.one (RV.i rfl (by rw [← hr, ← hdr, hdi]; rfl)) (AOs.w (by show _ = D.w _ _; exact congrArg (fun l => D.w (sl _ cI l) _) (by rw [← hr, ← hdr, hdi]; show b = b.take i ++ []; rw [List.append_nil, List.take_of_length_le hii])) (AOs.r AOs.e))
set_option maxHeartbeats 4000000 in
theorem laws_markText_fn (k : Int) (hk : k ≤ 9223372036854775807) : Eng.Fn E.P 166 [.one (.r (.v (.int .i64 k)))] (.one (.one (.w (.v (.string (mtext k)))))) [.one (.r (.v (.int .i64 k)))] := by
 refine Eng.Fn.intro (E := E) (rvs := [.tmp 2]) Tryz.func166 rfl rfl rfl (by simp [outSlots, moved, rvSlot, sl]) ?_
 intro B g bo
 refine CW.keep 20 [0] rfl ?_;(conv=>whnf);refine ⟨?_⟩
 refine CW.k XK 20 1 [0] rfl ?_
 (conv=>whnf);refine ⟨rfl,?_⟩
 refine CW.seq ?_
 refine CW.k XK 20 1 [0,5] rfl ?_
 (conv=>whnf);refine ⟨rfl,?_⟩
 refine CW.cond rfl (fun h1 => ?_) (fun h1 => ?_)
 ·skip
  refine CW.k XK 20 1 [2] rfl ?_
  (conv=>whnf);refine ⟨rfl,?_⟩
  refine CW.ret ?_
  exact Post.one (RV.s rfl (by simp_all [mtext])) (AOs.r AOs.e)
 ·skip
  refine CW.skip ?_
  refine CW.keep 20 [0] rfl ?_;(conv=>whnf);refine ⟨?_⟩
  refine CW.k XK 20 1 [0,3] rfl ?_
  (conv=>whnf);refine ⟨rfl,?_⟩
  refine CW.seq ?_
  refine CW.block ?_
  refine CW.loopI 20 (fun (zz : Int × ByteArray) => match zz with | (n, out) => [(0, I n), (3, S out)]) (fun (zz : Int × ByteArray) => match zz with | (n, out) => 0 ≤ n ∧ out.size ≤ 60 ∧ n * 10 ^ out.size ≤ 9223372036854775807 ∧ dgs n.toNat out = dgs k.toNat ⟨#[]⟩) (fun (zz : Int × ByteArray) => match zz with | (n, out) => n.toNat) (_, _) rfl (Le.c rfl <| Le.c rfl <| Le.e) ⟨by simp at h1; omega, by decide, by show k * 10 ^ 0 ≤ _; omega, rfl⟩ ?_
  rintro ⟨n, out⟩ ⟨h0, hs, hp, hr⟩
  refine CW.seq ?_
  refine CW.k XK 20 1 [0,3,7] rfl ?_
  (conv=>whnf);refine ⟨rfl,?_⟩
  refine CW.cond rfl (fun h2 => ?_) (fun h2 => ?_)
  ·skip
   refine CW.skip ?_
   refine CW.keep 20 [0,3] rfl ?_;(conv=>whnf);refine ⟨?_⟩
   refine CW.block ?_
   refine CW.seq ?_
   refine CW.region ?_
   refine RW.k XK 20 4 rfl ?_
   (conv=>whnf);refine ⟨rfl,?_⟩
   refine RW.build1c (c := cU) (v := (IntKind.u8.wrap (IntKind.i64.wrap (48 + (Int.tmod n 10))))) (u := .v (.int .u8 (IntKind.u8.wrap (IntKind.i64.wrap (48 + (Int.tmod n 10)))))) rfl rfl rfl rfl rfl rfl (.inl rfl) rfl rfl fun X3 => ?_
   refine RW.v rfl (V.bytesStr (l := [(IntKind.u8.wrap (IntKind.i64.wrap (48 + (Int.tmod n 10))))]) rfl rfl rfl (by kernel_rfl) (by kernel_rfl) (.al (k := none) (i := 12) (sz := 1) (V := X3) rfl rfl nofun)) ?_
   refine RW.k XK 20 1 rfl ?_
   (conv=>whnf);refine ⟨rfl,?_⟩
   refine RW.v rfl (V.cat rfl rfl rfl (by simp only [bytesOf_one, maxLen]; first | omega | (show 1 + out.size ≤ _; omega))) ?_
   refine RW.k XK 20 1 rfl ?_
   (conv=>whnf);refine ⟨rfl,?_⟩
   refine RW.nil ?_
   refine CW.keep 20 [0,3] rfl ?_;(conv=>whnf);refine ⟨?_⟩
   refine CW.region ?_
   refine RW.k XK 20 3 rfl ?_
   (conv=>whnf);refine ⟨rfl,?_⟩
   refine RW.nil ?_
   exact ⟨(_, _), by have := mt_dec h0 hp h2; simp only []; omega, mt_step h0 hp hr h2, rfl, Le.c rfl <| Le.c rfl <| Le.e⟩
  ·skip
   refine CW.exit ?_
   refine CW.keep 20 [3] rfl ?_;(conv=>whnf);refine ⟨?_⟩
   refine CW.seq ?_
   refine CW.region ?_
   refine RW.k XK 20 1 rfl ?_
   (conv=>whnf);refine ⟨rfl,?_⟩
   refine RW.v rfl (V.cat rfl rfl rfl (by simp only [bytesOf_one, maxLen]; first | omega | (show 1 + out.size ≤ _; omega))) ?_
   refine RW.k XK 20 1 rfl ?_
   (conv=>whnf);refine ⟨rfl,?_⟩
   refine RW.nil ?_
   refine CW.keep 20 [2] rfl ?_;(conv=>whnf);refine ⟨?_⟩
   refine CW.ret ?_
   exact Post.one (RV.s rfl (by rw [mtext_dgs (by simpa using h1), ← hr, dgs, dif_pos (by simp at h2; omega)])) (AOs.r AOs.e)
set_option maxHeartbeats 4000000 in
theorem laws_markEntryS_fn (a : List Entry) (k : Int) (hk : k ≤ 9223372036854775807) : Eng.Fn E.P 165 [.one (.w (sl 3 Entry.c a)), .one (.r (.v (.int .i64 k)))] (.one (.one (.w (.v (.int .i64 ((mkL mkEEntry a k).2)))))) [.one (.w (sl 3 Entry.c ((mkL mkEEntry a k).1))), .one (.r (.v (.int .i64 k)))] := by
 refine Eng.Fn.intro (E := E) (rvs := [.tmp 4]) Tryz.func165 rfl rfl rfl (by simp [outSlots, moved, rvSlot, sl]) ?_
 intro B g bo
 refine CW.bound (x := .tmp 0) (n := a.length) (AsT.al rfl rfl nofun) (fun hl0 => ?_)
 refine CW.keep 35 [0,1] rfl ?_;(conv=>whnf);refine ⟨?_⟩
 have hl0b : a.length ≤ maxLen := hl0
 refine CW.k XK 35 1 [0,1] rfl ?_
 (conv=>whnf);refine ⟨rfl,?_⟩
 refine CW.seq ?_
 refine CW.k XK 35 1 [0,1,5] rfl ?_
 (conv=>whnf);refine ⟨rfl,?_⟩
 refine CW.block ?_
 refine CW.loopI 35 (fun (zz : Nat × Int × List Entry) => match zz with | (i, l, b) => [(0, .w (sl 3 Entry.c b) (g 0 0)), (1, I l), (5, I (i : Int))]) (fun (zz : Nat × Int × List Entry) => match zz with | (i, l, b) => i ≤ b.length ∧ l ≤ 9223372036854775807 ∧ b.length = a.length ∧ b.drop i = a.drop i ∧ (b.take i ++ (mkL mkEEntry (a.drop i) l).1, (mkL mkEEntry (a.drop i) l).2) = mkL mkEEntry a k) (fun (zz : Nat × Int × List Entry) => match zz with | (i, l, b) => a.length - i) (0, _, _) rfl (Le.c rfl <| Le.c rfl <| Le.c rfl <| Le.e) ⟨by omega, hk, rfl, rfl, by simp⟩ ?_
 rintro ⟨i, l, b⟩ ⟨hb, hlk, hlen, hdr, hr⟩
 refine CW.seq ?_
 refine CW.k XK 35 1 [0,1,5,9] rfl ?_
 (conv=>whnf);refine ⟨rfl,?_⟩
 refine CW.cond rfl (fun h1 => ?_) (fun h1 => ?_)
 ·skip
  have hii : i < b.length := by have := h1; simp at this; first | exact this | omega | (simp; done) | (simp; omega)
  obtain ⟨ei, hei⟩ : ∃ e, b[i]? = some e := ⟨_, List.getElem?_eq_getElem hii⟩
  have hdi := drop_get hei
  refine CW.skip ?_
  refine CW.keep 35 [0,1,5] rfl ?_;(conv=>whnf);refine ⟨?_⟩
  refine CW.seq ?_
  refine CW.block ?_
  refine CW.seq ?_
  refine CW.region ?_
  refine RW.k XK 35 3 rfl ?_
  (conv=>whnf);refine ⟨rfl,?_⟩
  refine RW.v rfl (V.indexW rfl rfl rfl rfl rfl rfl rfl (by first | omega | (simp; omega))) ?_
  refine RW.k XK 35 1 rfl ?_
  (conv=>whnf);refine ⟨rfl,?_⟩
  refine RW.storeF (m := i) (off := 0) (v := ei) (v' := (⟨l, ei.kind, ei.data⟩ : Entry)) (u := .v (.int .i64 l)) (c := Entry.c) rfl rfl rfl rfl rfl rfl rfl (.inl rfl) Entry.len hei (by decide) rfl rfl ?_
  refine RW.nil ?_
  refine CW.keep 35 [0,1,5] rfl ?_;(conv=>whnf);refine ⟨?_⟩
  refine CW.k XK 35 1 [0,1,5] rfl ?_
  (conv=>whnf);refine ⟨rfl,?_⟩
  refine CW.seq ?_
  refine CW.region ?_
  refine RW.k XK 35 3 rfl ?_
  (conv=>whnf);refine ⟨rfl,?_⟩
  refine RW.v rfl (V.indexW rfl rfl rfl rfl rfl rfl rfl (by first | omega | (simp; omega))) ?_
  refine RW.k XK 35 1 rfl ?_
  (conv=>whnf);refine ⟨rfl,?_⟩
  refine RW.storeF (m := i) (off := 1) (v := (⟨l, ei.kind, ei.data⟩ : Entry)) (v' := (⟨l, (IntKind.i64.wrap (l + 1)), ei.data⟩ : Entry)) (u := .v (.int .i64 (IntKind.i64.wrap (l + 1)))) (c := Entry.c) rfl rfl rfl rfl rfl rfl rfl (.inl rfl) Entry.len (List.getElem?_set_self (by first | omega | (simp; omega))) (by decide) rfl rfl ?_
  refine RW.nil ?_
  refine CW.keep 35 [0,1,5] rfl ?_;(conv=>whnf);refine ⟨?_⟩
  refine CW.k XK 35 1 [0,1,5] rfl ?_
  (conv=>whnf);refine ⟨rfl,?_⟩
  refine CW.seq ?_
  refine CW.region ?_
  refine RW.k XK 35 3 rfl ?_
  (conv=>whnf);refine ⟨rfl,?_⟩
  refine RW.call rfl (laws_markText_fn (IntKind.i64.wrap ((IntKind.i64.wrap (l + 1)) + 1)) (by repeat (first | exact hlk | exact wrap_le _ | apply mkL_le | apply mkI_le | apply mkS_le | apply mkB_le | apply mkEEntry_le | apply mkEPeer_le | apply mkEFile_le | apply mkESession_le | apply mkEItem_le))) rfl (.cons (.one (.r .r)) (.nil)) fun g2 => ?_
  refine RW.v rfl (V.indexW rfl rfl rfl rfl rfl rfl rfl (by first | omega | (simp; omega))) ?_
  refine RW.k XK 35 1 rfl ?_
  (conv=>whnf);refine ⟨rfl,?_⟩
  refine RW.storeF (m := i) (off := 2) (v := (⟨l, (IntKind.i64.wrap (l + 1)), ei.data⟩ : Entry)) (v' := (⟨l, (IntKind.i64.wrap (l + 1)), (mtext (IntKind.i64.wrap ((IntKind.i64.wrap (l + 1)) + 1)))⟩ : Entry)) (u := .v (.string (mtext (IntKind.i64.wrap ((IntKind.i64.wrap (l + 1)) + 1))))) (c := Entry.c) rfl rfl rfl rfl rfl rfl rfl (.inl rfl) Entry.len (List.getElem?_set_self (by first | omega | (simp; omega))) (by decide) rfl rfl ?_
  refine RW.nil ?_
  refine CW.keep 35 [0,1,5] rfl ?_;(conv=>whnf);refine ⟨?_⟩
  refine CW.region ?_
  refine RW.k XK 35 3 rfl ?_
  (conv=>whnf);refine ⟨rfl,?_⟩
  refine RW.nil ?_
  refine CW.keep 35 [0,1,5] rfl ?_;(conv=>whnf);refine ⟨?_⟩
  refine CW.region ?_
  refine RW.k XK 35 1 rfl ?_
  (conv=>whnf);refine ⟨rfl,?_⟩
  refine RW.v rfl (V.inc rfl rfl rfl hii (by omega)) ?_
  refine RW.k XK 35 1 rfl ?_
  (conv=>whnf);refine ⟨rfl,?_⟩
  refine RW.nil ?_
  exact ⟨(i + 1, (IntKind.i64.wrap ((IntKind.i64.wrap ((IntKind.i64.wrap (l + 1)) + 1)) + 1)), (((b.set i (⟨l, ei.kind, ei.data⟩ : Entry)).set i (⟨l, (IntKind.i64.wrap (l + 1)), ei.data⟩ : Entry)).set i (⟨l, (IntKind.i64.wrap (l + 1)), (mtext (IntKind.i64.wrap ((IntKind.i64.wrap (l + 1)) + 1)))⟩ : Entry))), by simp only []; omega, mk_step mkEEntry ((⟨l, (IntKind.i64.wrap (l + 1)), (mtext (IntKind.i64.wrap ((IntKind.i64.wrap (l + 1)) + 1)))⟩ : Entry)) ((IntKind.i64.wrap ((IntKind.i64.wrap ((IntKind.i64.wrap (l + 1)) + 1)) + 1))) hei hlen hdr hr (by first | rfl | simp only [List.set_set]) rfl (by first | exact wrap_le _ | (apply mkL_le; assumption)), rfl, Le.c rfl <| Le.c rfl <| Le.c rfl <| Le.e⟩
 ·skip
  have hii : b.length ≤ i := by have := h1; simp at this; first | exact this | omega | (simp; done) | (simp; omega)
  have hdi : b.drop i = [] := List.drop_eq_nil_of_le hii
  refine CW.exit ?_
  refine CW.keep 35 [0,1] rfl ?_;(conv=>whnf);refine ⟨?_⟩
  refine CW.k XK 35 1 [0,4] rfl ?_
  (conv=>whnf);refine ⟨rfl,?_⟩
  refine CW.ret ?_
  exact Post.one (RV.i rfl (by rw [← hr, ← hdr, hdi]; rfl)) (AOs.w (by show _ = D.w _ _; exact congrArg (fun l => D.w (sl _ Entry.c l) _) (by rw [← hr, ← hdr, hdi]; show b = b.take i ++ []; rw [List.append_nil, List.take_of_length_le hii])) (AOs.r AOs.e))
set_option maxHeartbeats 4000000 in
theorem laws_markLog_fn (a : Log) (k : Int) (hk : k ≤ 9223372036854775807) : Eng.Fn E.P 95 [.agg ((Log.c a).map .w), .one (.r (.v (.int .i64 k)))] (.one (.one (.w (.v (.int .i64 ((mkVLog a k).2)))))) [.agg ((Log.c ((mkVLog a k).1)).map .w), .one (.r (.v (.int .i64 k)))] := by
 refine Eng.Fn.intro (E := E) (rvs := [.tmp 4]) Tryz.func95 rfl rfl rfl (by simp [outSlots, moved, rvSlot, sl]) ?_
 intro B g bo
 refine CW.keep 10 [0,1] rfl ?_;(conv=>whnf);refine ⟨?_⟩
 refine CW.k XK 10 1 [0,1,2] rfl ?_
 (conv=>whnf);intro b1;(conv=>whnf);refine ⟨rfl,?_⟩
 refine CW.seq ?_
 refine CW.region ?_
 refine RW.k XK 10 3 rfl ?_
 (conv=>whnf);refine ⟨rfl,?_⟩
 refine RW.callW (k := 0) (laws_markEntryS_fn a.entries k (by repeat (first | exact hk | apply mkL_le | apply mkI_le | apply mkS_le | apply mkB_le | apply mkEEntry_le | apply mkEPeer_le | apply mkEFile_le | apply mkESession_le | apply mkEItem_le | apply mkVLog_le | apply mkVNode_le | apply mkVDisk_le | apply mkVJournal_le | apply mkVKeep_le | apply mkVServer_le | apply mkVSnap_le))) rfl rfl (Nat.le_of_ble_eq_true rfl) (by decide) (.here (AsW.cellA rfl) (.cons (.one (.r .r)) (.nil))) rfl fun g2 q3 => ?_
 refine RW.k XK 10 1 rfl ?_
 (conv=>whnf);refine ⟨rfl,?_⟩
 refine RW.nil ?_
 refine CW.keep 10 [0,1] rfl ?_;(conv=>whnf);refine ⟨?_⟩
 refine CW.k XK 10 1 [0,4] rfl ?_
 (conv=>whnf);refine ⟨rfl,?_⟩
 refine CW.ret ?_
 exact Post.one (RV.i rfl (by rfl)) (AOs.ag rfl (AOc.r rfl (AOc.r rfl (AOc.w rfl AOc.e))) (AOs.r AOs.e))
set_option maxHeartbeats 4000000 in
theorem laws_markPeerS_fn (a : List Peer) (k : Int) (hk : k ≤ 9223372036854775807) : Eng.Fn E.P 96 [.one (.w (sl 4 Peer.c a)), .one (.r (.v (.int .i64 k)))] (.one (.one (.w (.v (.int .i64 ((mkL mkEPeer a k).2)))))) [.one (.w (sl 4 Peer.c ((mkL mkEPeer a k).1))), .one (.r (.v (.int .i64 k)))] := by
 refine Eng.Fn.intro (E := E) (rvs := [.tmp 4]) Tryz.func96 rfl rfl rfl (by simp [outSlots, moved, rvSlot, sl]) ?_
 intro B g bo
 refine CW.bound (x := .tmp 0) (n := a.length) (AsT.al rfl rfl nofun) (fun hl0 => ?_)
 refine CW.keep 41 [0,1] rfl ?_;(conv=>whnf);refine ⟨?_⟩
 have hl0b : a.length ≤ maxLen := hl0
 refine CW.k XK 41 1 [0,1] rfl ?_
 (conv=>whnf);refine ⟨rfl,?_⟩
 refine CW.seq ?_
 refine CW.k XK 41 1 [0,1,5] rfl ?_
 (conv=>whnf);refine ⟨rfl,?_⟩
 refine CW.block ?_
 refine CW.loopI 41 (fun (zz : Nat × Int × List Peer) => match zz with | (i, l, b) => [(0, .w (sl 4 Peer.c b) (g 0 0)), (1, I l), (5, I (i : Int))]) (fun (zz : Nat × Int × List Peer) => match zz with | (i, l, b) => i ≤ b.length ∧ l ≤ 9223372036854775807 ∧ b.length = a.length ∧ b.drop i = a.drop i ∧ (b.take i ++ (mkL mkEPeer (a.drop i) l).1, (mkL mkEPeer (a.drop i) l).2) = mkL mkEPeer a k) (fun (zz : Nat × Int × List Peer) => match zz with | (i, l, b) => a.length - i) (0, _, _) rfl (Le.c rfl <| Le.c rfl <| Le.c rfl <| Le.e) ⟨by omega, hk, rfl, rfl, by simp⟩ ?_
 rintro ⟨i, l, b⟩ ⟨hb, hlk, hlen, hdr, hr⟩
 refine CW.seq ?_
 refine CW.k XK 41 1 [0,1,5,9] rfl ?_
 (conv=>whnf);refine ⟨rfl,?_⟩
 refine CW.cond rfl (fun h1 => ?_) (fun h1 => ?_)
 ·skip
  have hii : i < b.length := by have := h1; simp at this; first | exact this | omega | (simp; done) | (simp; omega)
  obtain ⟨ei, hei⟩ : ∃ e, b[i]? = some e := ⟨_, List.getElem?_eq_getElem hii⟩
  have hdi := drop_get hei
  refine CW.skip ?_
  refine CW.keep 41 [0,1,5] rfl ?_;(conv=>whnf);refine ⟨?_⟩
  refine CW.seq ?_
  refine CW.block ?_
  refine CW.seq ?_
  refine CW.region ?_
  refine RW.k XK 41 3 rfl ?_
  (conv=>whnf);refine ⟨rfl,?_⟩
  refine RW.v rfl (V.indexW rfl rfl rfl rfl rfl rfl rfl (by first | omega | (simp; omega))) ?_
  refine RW.k XK 41 1 rfl ?_
  (conv=>whnf);refine ⟨rfl,?_⟩
  refine RW.storeF (m := i) (off := 0) (v := ei) (v' := (⟨l, ei.next, ei.match_, ei.sent⟩ : Peer)) (u := .v (.int .i64 l)) (c := Peer.c) rfl rfl rfl rfl rfl rfl rfl (.inl rfl) Peer.len hei (by decide) rfl rfl ?_
  refine RW.nil ?_
  refine CW.keep 41 [0,1,5] rfl ?_;(conv=>whnf);refine ⟨?_⟩
  refine CW.k XK 41 1 [0,1,5] rfl ?_
  (conv=>whnf);refine ⟨rfl,?_⟩
  refine CW.seq ?_
  refine CW.region ?_
  refine RW.k XK 41 3 rfl ?_
  (conv=>whnf);refine ⟨rfl,?_⟩
  refine RW.v rfl (V.indexW rfl rfl rfl rfl rfl rfl rfl (by first | omega | (simp; omega))) ?_
  refine RW.k XK 41 1 rfl ?_
  (conv=>whnf);refine ⟨rfl,?_⟩
  refine RW.storeF (m := i) (off := 1) (v := (⟨l, ei.next, ei.match_, ei.sent⟩ : Peer)) (v' := (⟨l, (IntKind.i64.wrap (l + 1)), ei.match_, ei.sent⟩ : Peer)) (u := .v (.int .i64 (IntKind.i64.wrap (l + 1)))) (c := Peer.c) rfl rfl rfl rfl rfl rfl rfl (.inl rfl) Peer.len (List.getElem?_set_self (by first | omega | (simp; omega))) (by decide) rfl rfl ?_
  refine RW.nil ?_
  refine CW.keep 41 [0,1,5] rfl ?_;(conv=>whnf);refine ⟨?_⟩
  refine CW.k XK 41 1 [0,1,5] rfl ?_
  (conv=>whnf);refine ⟨rfl,?_⟩
  refine CW.seq ?_
  refine CW.region ?_
  refine RW.k XK 41 3 rfl ?_
  (conv=>whnf);refine ⟨rfl,?_⟩
  refine RW.v rfl (V.indexW rfl rfl rfl rfl rfl rfl rfl (by first | omega | (simp; omega))) ?_
  refine RW.k XK 41 1 rfl ?_
  (conv=>whnf);refine ⟨rfl,?_⟩
  refine RW.storeF (m := i) (off := 2) (v := (⟨l, (IntKind.i64.wrap (l + 1)), ei.match_, ei.sent⟩ : Peer)) (v' := (⟨l, (IntKind.i64.wrap (l + 1)), (IntKind.i64.wrap ((IntKind.i64.wrap (l + 1)) + 1)), ei.sent⟩ : Peer)) (u := .v (.int .i64 (IntKind.i64.wrap ((IntKind.i64.wrap (l + 1)) + 1)))) (c := Peer.c) rfl rfl rfl rfl rfl rfl rfl (.inl rfl) Peer.len (List.getElem?_set_self (by first | omega | (simp; omega))) (by decide) rfl rfl ?_
  refine RW.nil ?_
  refine CW.keep 41 [0,1,5] rfl ?_;(conv=>whnf);refine ⟨?_⟩
  refine CW.k XK 41 1 [0,1,5] rfl ?_
  (conv=>whnf);refine ⟨rfl,?_⟩
  refine CW.seq ?_
  refine CW.region ?_
  refine RW.k XK 41 3 rfl ?_
  (conv=>whnf);refine ⟨rfl,?_⟩
  refine RW.v rfl (V.indexW rfl rfl rfl rfl rfl rfl rfl (by first | omega | (simp; omega))) ?_
  refine RW.k XK 41 1 rfl ?_
  (conv=>whnf);refine ⟨rfl,?_⟩
  refine RW.storeF (m := i) (off := 3) (v := (⟨l, (IntKind.i64.wrap (l + 1)), (IntKind.i64.wrap ((IntKind.i64.wrap (l + 1)) + 1)), ei.sent⟩ : Peer)) (v' := (⟨l, (IntKind.i64.wrap (l + 1)), (IntKind.i64.wrap ((IntKind.i64.wrap (l + 1)) + 1)), (IntKind.i64.wrap ((IntKind.i64.wrap ((IntKind.i64.wrap (l + 1)) + 1)) + 1))⟩ : Peer)) (u := .v (.int .i64 (IntKind.i64.wrap ((IntKind.i64.wrap ((IntKind.i64.wrap (l + 1)) + 1)) + 1)))) (c := Peer.c) rfl rfl rfl rfl rfl rfl rfl (.inl rfl) Peer.len (List.getElem?_set_self (by first | omega | (simp; omega))) (by decide) rfl rfl ?_
  refine RW.nil ?_
  refine CW.keep 41 [0,1,5] rfl ?_;(conv=>whnf);refine ⟨?_⟩
  refine CW.region ?_
  refine RW.k XK 41 3 rfl ?_
  (conv=>whnf);refine ⟨rfl,?_⟩
  refine RW.nil ?_
  refine CW.keep 41 [0,1,5] rfl ?_;(conv=>whnf);refine ⟨?_⟩
  refine CW.region ?_
  refine RW.k XK 41 1 rfl ?_
  (conv=>whnf);refine ⟨rfl,?_⟩
  refine RW.v rfl (V.inc rfl rfl rfl hii (by omega)) ?_
  refine RW.k XK 41 1 rfl ?_
  (conv=>whnf);refine ⟨rfl,?_⟩
  refine RW.nil ?_
  exact ⟨(i + 1, (IntKind.i64.wrap ((IntKind.i64.wrap ((IntKind.i64.wrap ((IntKind.i64.wrap (l + 1)) + 1)) + 1)) + 1)), ((((b.set i (⟨l, ei.next, ei.match_, ei.sent⟩ : Peer)).set i (⟨l, (IntKind.i64.wrap (l + 1)), ei.match_, ei.sent⟩ : Peer)).set i (⟨l, (IntKind.i64.wrap (l + 1)), (IntKind.i64.wrap ((IntKind.i64.wrap (l + 1)) + 1)), ei.sent⟩ : Peer)).set i (⟨l, (IntKind.i64.wrap (l + 1)), (IntKind.i64.wrap ((IntKind.i64.wrap (l + 1)) + 1)), (IntKind.i64.wrap ((IntKind.i64.wrap ((IntKind.i64.wrap (l + 1)) + 1)) + 1))⟩ : Peer))), by simp only []; omega, mk_step mkEPeer ((⟨l, (IntKind.i64.wrap (l + 1)), (IntKind.i64.wrap ((IntKind.i64.wrap (l + 1)) + 1)), (IntKind.i64.wrap ((IntKind.i64.wrap ((IntKind.i64.wrap (l + 1)) + 1)) + 1))⟩ : Peer)) ((IntKind.i64.wrap ((IntKind.i64.wrap ((IntKind.i64.wrap ((IntKind.i64.wrap (l + 1)) + 1)) + 1)) + 1))) hei hlen hdr hr (by first | rfl | simp only [List.set_set]) rfl (by first | exact wrap_le _ | (apply mkL_le; assumption)), rfl, Le.c rfl <| Le.c rfl <| Le.c rfl <| Le.e⟩
 ·skip
  have hii : b.length ≤ i := by have := h1; simp at this; first | exact this | omega | (simp; done) | (simp; omega)
  have hdi : b.drop i = [] := List.drop_eq_nil_of_le hii
  refine CW.exit ?_
  refine CW.keep 41 [0,1] rfl ?_;(conv=>whnf);refine ⟨?_⟩
  refine CW.k XK 41 1 [0,4] rfl ?_
  (conv=>whnf);refine ⟨rfl,?_⟩
  refine CW.ret ?_
  exact Post.one (RV.i rfl (by rw [← hr, ← hdr, hdi]; rfl)) (AOs.w (by show _ = D.w _ _; exact congrArg (fun l => D.w (sl _ Peer.c l) _) (by rw [← hr, ← hdr, hdi]; show b = b.take i ++ []; rw [List.append_nil, List.take_of_length_le hii])) (AOs.r AOs.e))
set_option maxHeartbeats 4000000 in
theorem laws_markNode_fn (a : Node) (k : Int) (hk : k ≤ 9223372036854775807) : Eng.Fn E.P 37 [.agg ((Node.c a).map .w), .one (.r (.v (.int .i64 k)))] (.one (.one (.w (.v (.int .i64 ((mkVNode a k).2)))))) [.agg ((Node.c ((mkVNode a k).1)).map .w), .one (.r (.v (.int .i64 k)))] := by
 refine Eng.Fn.intro (E := E) (rvs := [.tmp 4]) Tryz.func37 rfl rfl rfl (by simp [outSlots, moved, rvSlot, sl]) ?_
 intro B g bo
 refine CW.keep 22 [0,1] rfl ?_;(conv=>whnf);refine ⟨?_⟩
 refine CW.k XK 22 1 [0,1,2] rfl ?_
 (conv=>whnf);intro b1;(conv=>whnf);refine ⟨rfl,?_⟩
 refine CW.seq ?_
 refine CW.region ?_
 refine RW.k XK 22 3 rfl ?_
 (conv=>whnf);refine ⟨rfl,?_⟩
 refine RW.callW (k := 0) (laws_markIntS_fn a.conf k (by repeat (first | exact hk | apply mkL_le | apply mkI_le | apply mkS_le | apply mkB_le | apply mkEEntry_le | apply mkEPeer_le | apply mkEFile_le | apply mkESession_le | apply mkEItem_le | apply mkVLog_le | apply mkVNode_le | apply mkVDisk_le | apply mkVJournal_le | apply mkVKeep_le | apply mkVServer_le | apply mkVSnap_le))) rfl rfl (Nat.le_of_ble_eq_true rfl) (by decide) (.here (AsW.cellA rfl) (.cons (.one (.r .r)) (.nil))) rfl fun g2 q3 => ?_
 refine RW.k XK 22 1 rfl ?_
 (conv=>whnf);refine ⟨rfl,?_⟩
 refine RW.nil ?_
 refine CW.keep 22 [0,1,2] rfl ?_;(conv=>whnf);refine ⟨?_⟩
 refine CW.seq ?_
 refine CW.region ?_
 refine RW.k XK 22 3 rfl ?_
 (conv=>whnf);refine ⟨rfl,?_⟩
 refine RW.callW (k := 0) (laws_markLog_fn a.log ((mkL mkI a.conf k).2) (by repeat (first | exact hk | apply mkL_le | apply mkI_le | apply mkS_le | apply mkB_le | apply mkEEntry_le | apply mkEPeer_le | apply mkEFile_le | apply mkESession_le | apply mkEItem_le | apply mkVLog_le | apply mkVNode_le | apply mkVDisk_le | apply mkVJournal_le | apply mkVKeep_le | apply mkVServer_le | apply mkVSnap_le))) rfl rfl (Nat.le_of_ble_eq_true rfl) (by decide) (.here (AsW.partA rfl (One.there (One.there (One.here (xs := []))))) (.cons (.one (.r .r)) (.nil))) rfl fun g4 q5 => ?_
 refine RW.k XK 22 1 rfl ?_
 (conv=>whnf);refine ⟨rfl,?_⟩
 refine RW.nil ?_
 refine CW.keep 22 [0,1,2] rfl ?_;(conv=>whnf);refine ⟨?_⟩
 refine CW.seq ?_
 refine CW.region ?_
 refine RW.k XK 22 3 rfl ?_
 (conv=>whnf);refine ⟨rfl,?_⟩
 refine RW.callW (k := 0) (laws_markIntS_fn a.votes ((mkVLog a.log ((mkL mkI a.conf k).2)).2) (by repeat (first | exact hk | apply mkL_le | apply mkI_le | apply mkS_le | apply mkB_le | apply mkEEntry_le | apply mkEPeer_le | apply mkEFile_le | apply mkESession_le | apply mkEItem_le | apply mkVLog_le | apply mkVNode_le | apply mkVDisk_le | apply mkVJournal_le | apply mkVKeep_le | apply mkVServer_le | apply mkVSnap_le))) rfl rfl (Nat.le_of_ble_eq_true rfl) (by decide) (.here (AsW.cellA rfl) (.cons (.one (.r .r)) (.nil))) rfl fun g6 q7 => ?_
 refine RW.k XK 22 1 rfl ?_
 (conv=>whnf);refine ⟨rfl,?_⟩
 refine RW.nil ?_
 refine CW.keep 22 [0,1,2] rfl ?_;(conv=>whnf);refine ⟨?_⟩
 refine CW.seq ?_
 refine CW.region ?_
 refine RW.k XK 22 3 rfl ?_
 (conv=>whnf);refine ⟨rfl,?_⟩
 refine RW.callW (k := 0) (laws_markPeerS_fn a.peers ((mkL mkI a.votes ((mkVLog a.log ((mkL mkI a.conf k).2)).2)).2) (by repeat (first | exact hk | apply mkL_le | apply mkI_le | apply mkS_le | apply mkB_le | apply mkEEntry_le | apply mkEPeer_le | apply mkEFile_le | apply mkESession_le | apply mkEItem_le | apply mkVLog_le | apply mkVNode_le | apply mkVDisk_le | apply mkVJournal_le | apply mkVKeep_le | apply mkVServer_le | apply mkVSnap_le))) rfl rfl (Nat.le_of_ble_eq_true rfl) (by decide) (.here (AsW.cellA rfl) (.cons (.one (.r .r)) (.nil))) rfl fun g8 q9 => ?_
 refine RW.k XK 22 1 rfl ?_
 (conv=>whnf);refine ⟨rfl,?_⟩
 refine RW.nil ?_
 refine CW.keep 22 [0,1] rfl ?_;(conv=>whnf);refine ⟨?_⟩
 refine CW.k XK 22 1 [0,4] rfl ?_
 (conv=>whnf);refine ⟨rfl,?_⟩
 refine CW.ret ?_
 exact Post.one (RV.i rfl (by rfl)) (AOs.ag rfl (AOc.r rfl (AOc.r rfl (AOc.r rfl (AOc.r rfl (AOc.r rfl (AOc.w rfl (AOc.r rfl (AOc.r rfl (AOc.w rfl (AOc.r rfl (AOc.r rfl (AOc.r rfl (AOc.w rfl (AOc.w rfl AOc.e)))))))))))))) (AOs.r AOs.e))
set_option maxHeartbeats 4000000 in
theorem laws_markFileS_fn (a : List File) (k : Int) (hk : k ≤ 9223372036854775807) : Eng.Fn E.P 97 [.one (.w (sl 3 File.c a)), .one (.r (.v (.int .i64 k)))] (.one (.one (.w (.v (.int .i64 ((mkL mkEFile a k).2)))))) [.one (.w (sl 3 File.c ((mkL mkEFile a k).1))), .one (.r (.v (.int .i64 k)))] := by
 refine Eng.Fn.intro (E := E) (rvs := [.tmp 4]) Tryz.func97 rfl rfl rfl (by simp [outSlots, moved, rvSlot, sl]) ?_
 intro B g bo
 refine CW.bound (x := .tmp 0) (n := a.length) (AsT.al rfl rfl nofun) (fun hl0 => ?_)
 refine CW.keep 36 [0,1] rfl ?_;(conv=>whnf);refine ⟨?_⟩
 have hl0b : a.length ≤ maxLen := hl0
 refine CW.k XK 36 1 [0,1] rfl ?_
 (conv=>whnf);refine ⟨rfl,?_⟩
 refine CW.seq ?_
 refine CW.k XK 36 1 [0,1,5] rfl ?_
 (conv=>whnf);refine ⟨rfl,?_⟩
 refine CW.block ?_
 refine CW.loopI 36 (fun (zz : Nat × Int × List File) => match zz with | (i, l, b) => [(0, .w (sl 3 File.c b) (g 0 0)), (1, I l), (5, I (i : Int))]) (fun (zz : Nat × Int × List File) => match zz with | (i, l, b) => i ≤ b.length ∧ l ≤ 9223372036854775807 ∧ b.length = a.length ∧ b.drop i = a.drop i ∧ (b.take i ++ (mkL mkEFile (a.drop i) l).1, (mkL mkEFile (a.drop i) l).2) = mkL mkEFile a k) (fun (zz : Nat × Int × List File) => match zz with | (i, l, b) => a.length - i) (0, _, _) rfl (Le.c rfl <| Le.c rfl <| Le.c rfl <| Le.e) ⟨by omega, hk, rfl, rfl, by simp⟩ ?_
 rintro ⟨i, l, b⟩ ⟨hb, hlk, hlen, hdr, hr⟩
 refine CW.seq ?_
 refine CW.k XK 36 1 [0,1,5,9] rfl ?_
 (conv=>whnf);refine ⟨rfl,?_⟩
 refine CW.cond rfl (fun h1 => ?_) (fun h1 => ?_)
 ·skip
  have hii : i < b.length := by have := h1; simp at this; first | exact this | omega | (simp; done) | (simp; omega)
  obtain ⟨ei, hei⟩ : ∃ e, b[i]? = some e := ⟨_, List.getElem?_eq_getElem hii⟩
  have hdi := drop_get hei
  refine CW.skip ?_
  refine CW.keep 36 [0,1,5] rfl ?_;(conv=>whnf);refine ⟨?_⟩
  refine CW.seq ?_
  refine CW.block ?_
  refine CW.seq ?_
  refine CW.region ?_
  refine RW.k XK 36 3 rfl ?_
  (conv=>whnf);refine ⟨rfl,?_⟩
  refine RW.call rfl (laws_markText_fn l (by repeat (first | exact hlk | exact wrap_le _ | apply mkL_le | apply mkI_le | apply mkS_le | apply mkB_le | apply mkEEntry_le | apply mkEPeer_le | apply mkEFile_le | apply mkESession_le | apply mkEItem_le))) rfl (.cons (.one (.r .r)) (.nil)) fun g2 => ?_
  refine RW.v rfl (V.indexW rfl rfl rfl rfl rfl rfl rfl (by first | omega | (simp; omega))) ?_
  refine RW.k XK 36 1 rfl ?_
  (conv=>whnf);refine ⟨rfl,?_⟩
  refine RW.storeF (m := i) (off := 0) (v := ei) (v' := (⟨(mtext l), ei.text, ei.kept⟩ : File)) (u := .v (.string (mtext l))) (c := File.c) rfl rfl rfl rfl rfl rfl rfl (.inl rfl) File.len hei (by decide) rfl rfl ?_
  refine RW.nil ?_
  refine CW.keep 36 [0,1,5] rfl ?_;(conv=>whnf);refine ⟨?_⟩
  refine CW.k XK 36 1 [0,1,5] rfl ?_
  (conv=>whnf);refine ⟨rfl,?_⟩
  refine CW.seq ?_
  refine CW.region ?_
  refine RW.k XK 36 3 rfl ?_
  (conv=>whnf);refine ⟨rfl,?_⟩
  refine RW.call rfl (laws_markText_fn (IntKind.i64.wrap (l + 1)) (by repeat (first | exact hlk | exact wrap_le _ | apply mkL_le | apply mkI_le | apply mkS_le | apply mkB_le | apply mkEEntry_le | apply mkEPeer_le | apply mkEFile_le | apply mkESession_le | apply mkEItem_le))) rfl (.cons (.one (.r .r)) (.nil)) fun g3 => ?_
  refine RW.v rfl (V.indexW rfl rfl rfl rfl rfl rfl rfl (by first | omega | (simp; omega))) ?_
  refine RW.k XK 36 1 rfl ?_
  (conv=>whnf);refine ⟨rfl,?_⟩
  refine RW.storeF (m := i) (off := 1) (v := (⟨(mtext l), ei.text, ei.kept⟩ : File)) (v' := (⟨(mtext l), (mtext (IntKind.i64.wrap (l + 1))), ei.kept⟩ : File)) (u := .v (.string (mtext (IntKind.i64.wrap (l + 1))))) (c := File.c) rfl rfl rfl rfl rfl rfl rfl (.inl rfl) File.len (List.getElem?_set_self (by first | omega | (simp; omega))) (by decide) rfl rfl ?_
  refine RW.nil ?_
  refine CW.keep 36 [0,1,5] rfl ?_;(conv=>whnf);refine ⟨?_⟩
  refine CW.k XK 36 1 [0,1,5] rfl ?_
  (conv=>whnf);refine ⟨rfl,?_⟩
  refine CW.seq ?_
  refine CW.region ?_
  refine RW.k XK 36 3 rfl ?_
  (conv=>whnf);refine ⟨rfl,?_⟩
  refine RW.v rfl (V.indexW rfl rfl rfl rfl rfl rfl rfl (by first | omega | (simp; omega))) ?_
  refine RW.k XK 36 1 rfl ?_
  (conv=>whnf);refine ⟨rfl,?_⟩
  refine RW.storeF (m := i) (off := 2) (v := (⟨(mtext l), (mtext (IntKind.i64.wrap (l + 1))), ei.kept⟩ : File)) (v' := (⟨(mtext l), (mtext (IntKind.i64.wrap (l + 1))), (IntKind.i64.wrap ((IntKind.i64.wrap (l + 1)) + 1))⟩ : File)) (u := .v (.int .i64 (IntKind.i64.wrap ((IntKind.i64.wrap (l + 1)) + 1)))) (c := File.c) rfl rfl rfl rfl rfl rfl rfl (.inl rfl) File.len (List.getElem?_set_self (by first | omega | (simp; omega))) (by decide) rfl rfl ?_
  refine RW.nil ?_
  refine CW.keep 36 [0,1,5] rfl ?_;(conv=>whnf);refine ⟨?_⟩
  refine CW.region ?_
  refine RW.k XK 36 3 rfl ?_
  (conv=>whnf);refine ⟨rfl,?_⟩
  refine RW.nil ?_
  refine CW.keep 36 [0,1,5] rfl ?_;(conv=>whnf);refine ⟨?_⟩
  refine CW.region ?_
  refine RW.k XK 36 1 rfl ?_
  (conv=>whnf);refine ⟨rfl,?_⟩
  refine RW.v rfl (V.inc rfl rfl rfl hii (by omega)) ?_
  refine RW.k XK 36 1 rfl ?_
  (conv=>whnf);refine ⟨rfl,?_⟩
  refine RW.nil ?_
  exact ⟨(i + 1, (IntKind.i64.wrap ((IntKind.i64.wrap ((IntKind.i64.wrap (l + 1)) + 1)) + 1)), (((b.set i (⟨(mtext l), ei.text, ei.kept⟩ : File)).set i (⟨(mtext l), (mtext (IntKind.i64.wrap (l + 1))), ei.kept⟩ : File)).set i (⟨(mtext l), (mtext (IntKind.i64.wrap (l + 1))), (IntKind.i64.wrap ((IntKind.i64.wrap (l + 1)) + 1))⟩ : File))), by simp only []; omega, mk_step mkEFile ((⟨(mtext l), (mtext (IntKind.i64.wrap (l + 1))), (IntKind.i64.wrap ((IntKind.i64.wrap (l + 1)) + 1))⟩ : File)) ((IntKind.i64.wrap ((IntKind.i64.wrap ((IntKind.i64.wrap (l + 1)) + 1)) + 1))) hei hlen hdr hr (by first | rfl | simp only [List.set_set]) rfl (by first | exact wrap_le _ | (apply mkL_le; assumption)), rfl, Le.c rfl <| Le.c rfl <| Le.c rfl <| Le.e⟩
 ·skip
  have hii : b.length ≤ i := by have := h1; simp at this; first | exact this | omega | (simp; done) | (simp; omega)
  have hdi : b.drop i = [] := List.drop_eq_nil_of_le hii
  refine CW.exit ?_
  refine CW.keep 36 [0,1] rfl ?_;(conv=>whnf);refine ⟨?_⟩
  refine CW.k XK 36 1 [0,4] rfl ?_
  (conv=>whnf);refine ⟨rfl,?_⟩
  refine CW.ret ?_
  exact Post.one (RV.i rfl (by rw [← hr, ← hdr, hdi]; rfl)) (AOs.w (by show _ = D.w _ _; exact congrArg (fun l => D.w (sl _ File.c l) _) (by rw [← hr, ← hdr, hdi]; show b = b.take i ++ []; rw [List.append_nil, List.take_of_length_le hii])) (AOs.r AOs.e))
set_option maxHeartbeats 4000000 in
theorem laws_markDisk_fn (a : Disk) (k : Int) (hk : k ≤ 9223372036854775807) : Eng.Fn E.P 38 [.agg ((Disk.c a).map .w), .one (.r (.v (.int .i64 k)))] (.one (.one (.w (.v (.int .i64 ((mkVDisk a k).2)))))) [.agg ((Disk.c ((mkVDisk a k).1)).map .w), .one (.r (.v (.int .i64 k)))] := by
 refine Eng.Fn.intro (E := E) (rvs := [.tmp 4]) Tryz.func38 rfl rfl rfl (by simp [outSlots, moved, rvSlot, sl]) ?_
 intro B g bo
 refine CW.keep 10 [0,1] rfl ?_;(conv=>whnf);refine ⟨?_⟩
 refine CW.k XK 10 1 [0,1,2] rfl ?_
 (conv=>whnf);intro b1;(conv=>whnf);refine ⟨rfl,?_⟩
 refine CW.seq ?_
 refine CW.region ?_
 refine RW.k XK 10 3 rfl ?_
 (conv=>whnf);refine ⟨rfl,?_⟩
 refine RW.callW (k := 0) (laws_markFileS_fn a.files k (by repeat (first | exact hk | apply mkL_le | apply mkI_le | apply mkS_le | apply mkB_le | apply mkEEntry_le | apply mkEPeer_le | apply mkEFile_le | apply mkESession_le | apply mkEItem_le | apply mkVLog_le | apply mkVNode_le | apply mkVDisk_le | apply mkVJournal_le | apply mkVKeep_le | apply mkVServer_le | apply mkVSnap_le))) rfl rfl (Nat.le_of_ble_eq_true rfl) (by decide) (.here (AsW.cellA rfl) (.cons (.one (.r .r)) (.nil))) rfl fun g2 q3 => ?_
 refine RW.k XK 10 1 rfl ?_
 (conv=>whnf);refine ⟨rfl,?_⟩
 refine RW.nil ?_
 refine CW.keep 10 [0,1] rfl ?_;(conv=>whnf);refine ⟨?_⟩
 refine CW.k XK 10 1 [0,4] rfl ?_
 (conv=>whnf);refine ⟨rfl,?_⟩
 refine CW.ret ?_
 exact Post.one (RV.i rfl (by rfl)) (AOs.ag rfl (AOc.w rfl AOc.e) (AOs.r AOs.e))
set_option maxHeartbeats 4000000 in
theorem laws_markJournal_fn (a : Journal) (k : Int) (hk : k ≤ 9223372036854775807) : Eng.Fn E.P 39 [.agg ((Journal.c a).map .w), .one (.r (.v (.int .i64 k)))] (.one (.one (.w (.v (.int .i64 ((mkVJournal a k).2)))))) [.agg ((Journal.c ((mkVJournal a k).1)).map .w), .one (.r (.v (.int .i64 k)))] := by
 refine Eng.Fn.intro (E := E) (rvs := [.tmp 4]) Tryz.func39 rfl rfl rfl (by simp [outSlots, moved, rvSlot, sl]) ?_
 intro B g bo
 refine CW.keep 10 [0,1] rfl ?_;(conv=>whnf);refine ⟨?_⟩
 refine CW.k XK 10 1 [0,1,2] rfl ?_
 (conv=>whnf);intro b1;(conv=>whnf);refine ⟨rfl,?_⟩
 refine CW.seq ?_
 refine CW.region ?_
 refine RW.k XK 10 3 rfl ?_
 (conv=>whnf);refine ⟨rfl,?_⟩
 refine RW.callW (k := 0) (laws_markLog_fn a.log k (by repeat (first | exact hk | apply mkL_le | apply mkI_le | apply mkS_le | apply mkB_le | apply mkEEntry_le | apply mkEPeer_le | apply mkEFile_le | apply mkESession_le | apply mkEItem_le | apply mkVLog_le | apply mkVNode_le | apply mkVDisk_le | apply mkVJournal_le | apply mkVKeep_le | apply mkVServer_le | apply mkVSnap_le))) rfl rfl (Nat.le_of_ble_eq_true rfl) (by decide) (.here (AsW.partA rfl (One.there (One.there (One.here (xs := []))))) (.cons (.one (.r .r)) (.nil))) rfl fun g2 q3 => ?_
 refine RW.k XK 10 1 rfl ?_
 (conv=>whnf);refine ⟨rfl,?_⟩
 refine RW.nil ?_
 refine CW.keep 10 [0,1] rfl ?_;(conv=>whnf);refine ⟨?_⟩
 refine CW.k XK 10 1 [0,4] rfl ?_
 (conv=>whnf);refine ⟨rfl,?_⟩
 refine CW.ret ?_
 exact Post.one (RV.i rfl (by rfl)) (AOs.ag rfl (AOc.r rfl (AOc.r rfl (AOc.r rfl (AOc.r rfl (AOc.r rfl (AOc.w rfl AOc.e)))))) (AOs.r AOs.e))
end Go.Proofs.YtmhnehgpmndiiaaGreatDoor.Y
