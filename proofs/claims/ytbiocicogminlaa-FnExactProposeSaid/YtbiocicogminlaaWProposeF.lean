import Derived.Test.YtbiocicogminlaaWProposeE
namespace Go.Proofs.Ytbiocicogminlaa.Y
open Go Go.RowKit Go.Eng Go.Proofs
set_option maxRecDepth 10000
set_option maxHeartbeats 4000000 in
theorem laws_toLog_fn (a : Log) (hs : okToLog a) : Eng.Fn E.P 63 [.agg ((Log.c a).map .r)] (.one (.agg ((Log.c a).map .w))) [.agg ((Log.c a).map .r)] := by
 refine Eng.Fn.intro (E := E) (rvs := [.cell 2 44]) Try.func63 rfl rfl rfl (by simp [outSlots, moved, rvSlot, sl]) ?_
 intro B g bo
 refine CW.keep 15 [0] rfl ?_;(conv=>whnf);refine ⟨?_⟩
 refine CW.seq ?_
 refine CW.region ?_
 refine RW.k XK 15 1 rfl ?_
 (conv=>whnf);intro b1;(conv=>whnf);refine ⟨rfl,?_⟩
 refine RW.freezeB (ts := (Log.c a)) 1 rfl (DRd.r (DRd.r (DRd.r DRd.e))) ?_
 refine RW.k XK 15 1 rfl ?_
 (conv=>whnf);intro b2;(conv=>whnf);refine ⟨rfl,?_⟩
 refine RW.nil ?_
 refine CW.keep 15 [1,2] rfl ?_;(conv=>whnf);refine ⟨?_⟩
 refine CW.k XK 15 3 [1,2,3] rfl ?_
 (conv=>whnf);intro b3;(conv=>whnf);refine ⟨rfl,?_⟩
 refine CW.seq ?_
 refine CW.region ?_
 refine RW.k XK 15 2 rfl ?_
 (conv=>whnf);refine ⟨rfl,?_⟩
 refine RW.call rfl (laws_toEntryS_fn a.entries hs.1 hs.2) rfl (.cons (.one (.r .r)) (.nil)) fun g4 => ?_
 refine RW.k XK 15 2 rfl ?_
 (conv=>whnf);refine ⟨rfl,?_⟩
 refine RW.keep 15 [2,3,12] rfl ?_;(conv=>whnf);refine ⟨?_⟩
 refine RW.pullT (k := 3) (l := 12) (j := 2) 3 12 2 rfl rfl rfl (by decide) rfl rfl rfl ?_
 refine RW.keep 15 [2,3] rfl ?_;(conv=>whnf);refine ⟨?_⟩
 refine RW.nil ?_
 refine CW.keep 15 [2,3] rfl ?_;(conv=>whnf);refine ⟨?_⟩
 refine CW.seq ?_
 refine CW.region ?_
 refine RW.k XK 15 2 rfl ?_
 (conv=>whnf);refine ⟨rfl,?_⟩
 refine RW.keep 15 [2,3] rfl ?_;(conv=>whnf);refine ⟨?_⟩
 refine RW.pullO (k := 2) (l := 3) (j := 2) 2 3 2 rfl rfl rfl (by decide) rfl rfl rfl rfl ?_
 refine RW.keep 15 [2] rfl ?_;(conv=>whnf);refine ⟨?_⟩
 refine RW.nil ?_
 refine CW.keep 15 [2] rfl ?_;(conv=>whnf);refine ⟨?_⟩
 refine CW.ret ?_
 exact Post.one (RV.c (f := fun e => (Log.c e).map .w) (e' := a) rfl rfl rfl rfl (DT.v (DT.v (DT.w DT.e))) (by simp_all)) (AOs.a rfl AOs.e)
set_option maxHeartbeats 4000000 in
theorem laws_toPeer_fn (a : Peer) : Eng.Fn E.P 118 [.agg ((Peer.c a).map .r)] (.one (.agg ((Peer.c a).map .w))) [.agg ((Peer.c a).map .r)] := by
 refine Eng.Fn.intro (E := E) (rvs := [.cell 2 98]) Try.func118 rfl rfl rfl (by simp [outSlots, moved, rvSlot, sl]) ?_
 intro B g bo
 refine CW.keep 17 [0] rfl ?_;(conv=>whnf);refine ⟨?_⟩
 refine CW.seq ?_
 refine CW.region ?_
 refine RW.k XK 17 1 rfl ?_
 (conv=>whnf);intro b1;(conv=>whnf);refine ⟨rfl,?_⟩
 refine RW.freezeB (ts := (Peer.c a)) 1 rfl (DRd.r (DRd.r (DRd.r (DRd.r DRd.e)))) ?_
 refine RW.k XK 17 1 rfl ?_
 (conv=>whnf);intro b2;(conv=>whnf);refine ⟨rfl,?_⟩
 refine RW.nil ?_
 refine CW.keep 17 [1,2] rfl ?_;(conv=>whnf);refine ⟨?_⟩
 refine CW.k XK 17 6 [2] rfl ?_
 (conv=>whnf);intro b3;(conv=>whnf);refine ⟨rfl,?_⟩
 refine CW.ret ?_
 exact Post.one (RV.c (f := fun e => (Peer.c e).map .w) (e' := a) rfl rfl rfl rfl (DT.v (DT.v (DT.v (DT.v DT.e)))) (by simp_all)) (AOs.a rfl AOs.e)
set_option maxHeartbeats 4000000 in
theorem laws_toPeerS_fn (a : List Peer) (hm : a.length ≤ 1048576) : Eng.Fn E.P 64 [.one (.r (sl 4 Peer.c a))] (.one (.one (.w (sl 4 Peer.c a)))) [.one (.r (sl 4 Peer.c a))] := by
 refine Eng.Fn.intro (E := E) (rvs := [.tmp 2]) Try.func64 rfl rfl rfl (by simp [outSlots, moved, rvSlot, sl]) ?_
 intro B g bo
 refine CW.bound (x := .tmp 0) (n := a.length) (AsT.r) (fun hl0 => ?_)
 refine CW.keep 23 [0] rfl ?_;(conv=>whnf);refine ⟨?_⟩
 refine CW.k XK 23 1 [0] rfl ?_
 (conv=>whnf);refine ⟨rfl,?_⟩
 refine CW.seq ?_
 refine CW.region ?_
 refine RW.k XK 23 2 rfl ?_
 (conv=>whnf);refine ⟨rfl,?_⟩
 refine RW.makeS (n := a.length) (c := Peer.c) Peer.z rfl rfl rfl rfl rfl rfl rfl rfl (ZT.v (ZT.v (ZT.v (ZT.v ZT.e)))) (by show 32 * a.length ≤ 281474976710656; omega) (by simp only [maxLen]; omega) fun X1 => ?_
 refine RW.assignMove rfl rfl rfl (by decide) (Nat.le_of_ble_eq_true rfl) (Nat.le_of_ble_eq_true rfl) ?_
 refine RW.nil ?_
 refine CW.keep 23 [0,3] rfl ?_;(conv=>whnf);refine ⟨?_⟩
 refine CW.seq ?_
 refine CW.k XK 23 1 [0,3,4] rfl ?_
 (conv=>whnf);refine ⟨rfl,?_⟩
 refine CW.block ?_
 refine CW.loopI 23 (fun (i : Nat) => [(0, .r (sl 4 Peer.c a)), (3, .w (sl 4 Peer.c (a.take i ++ List.replicate (a.length - i) Peer.z)) X1), (4, I (i : Int))]) (fun (i : Nat) => i ≤ a.length) (fun (i : Nat) => a.length - i) 0 rfl (Le.c rfl <| Le.c rfl <| Le.c rfl <| Le.e) (by omega) ?_
 rintro i hb
 refine CW.seq ?_
 refine CW.k XK 23 1 [0,3,4,11] rfl ?_
 (conv=>whnf);refine ⟨rfl,?_⟩
 refine CW.cond rfl (fun h2 => ?_) (fun h2 => ?_)
 ·skip
  have hii : i < a.length := by have := h2; simp at this; first | exact this | omega | (simp; done) | (simp; omega)
  obtain ⟨ei, hei⟩ : ∃ e, a[i]? = some e := ⟨_, List.getElem?_eq_getElem hii⟩
  have hdi := drop_get hei
  refine CW.skip ?_
  refine CW.keep 23 [0,3,4] rfl ?_;(conv=>whnf);refine ⟨?_⟩
  refine CW.seq ?_
  refine CW.block ?_
  refine CW.region ?_
  refine RW.k XK 23 4 rfl ?_
  (conv=>whnf);refine ⟨rfl,?_⟩
  refine RW.v rfl (V.indexS rfl rfl rfl rfl rfl rfl Peer.len hei) ?_
  refine RW.k XK 23 1 rfl ?_
  (conv=>whnf);refine ⟨rfl,?_⟩
  refine RW.call rfl (laws_toPeer_fn ei) rfl (.cons (.agg (.cons (.r .r) (.cons (.r .r) (.cons (.r .r) (.cons (.r .r) (.nil)))))) (.nil)) fun g3 => ?_
  refine RW.v rfl (V.indexW rfl rfl rfl rfl rfl rfl rfl (by simp; omega)) ?_
  refine RW.storeS (v := ei) rfl rfl rfl rfl rfl rfl rfl (DW.v (DW.v (DW.v (DW.v DW.e)))) Peer.len (by decide) (by simp; omega) rfl ?_
  refine RW.nil ?_
  refine CW.keep 23 [0,3,4] rfl ?_;(conv=>whnf);refine ⟨?_⟩
  refine CW.region ?_
  refine RW.k XK 23 1 rfl ?_
  (conv=>whnf);refine ⟨rfl,?_⟩
  refine RW.v rfl (V.inc rfl rfl rfl hii hl0) ?_
  refine RW.k XK 23 1 rfl ?_
  (conv=>whnf);refine ⟨rfl,?_⟩
  refine RW.nil ?_
  exact ⟨i + 1, by omega, by omega, rfl, Le.c rfl <| Le.c (congrArg (fun l => D.w (sl _ Peer.c l) X1) (take_set hei)) <| Le.c rfl <| Le.e⟩
 ·skip
  have hii : a.length ≤ i := by have := h2; simp at this; first | exact this | omega | (simp; done) | (simp; omega)
  have hdi : a.drop i = [] := List.drop_eq_nil_of_le hii
  refine CW.exit ?_
  refine CW.keep 23 [3] rfl ?_;(conv=>whnf);refine ⟨?_⟩
  refine CW.seq ?_
  refine CW.region ?_
  refine RW.k XK 23 2 rfl ?_
  (conv=>whnf);refine ⟨rfl,?_⟩
  refine RW.pullS 2 3 (by decide) rfl rfl ?_
  refine RW.nil ?_
  refine CW.keep 23 [2] rfl ?_;(conv=>whnf);refine ⟨?_⟩
  refine CW.ret ?_
  exact Post.one (RV.w rfl (by rw [List.take_of_length_le hii, show a.length - i = 0 from by omega]; simp)) (AOs.r AOs.e)
set_option maxHeartbeats 4000000 in
theorem laws_toNode_fn (a : Node) (hs : okToNode a) : Eng.Fn E.P 21 [.agg ((Node.c a).map .r)] (.one (.agg ((Node.c a).map .w))) [.agg ((Node.c a).map .r)] := by
 refine Eng.Fn.intro (E := E) (rvs := [.cell 2 47]) Try.func21 rfl rfl rfl (by simp [outSlots, moved, rvSlot, sl]) ?_
 intro B g bo
 refine CW.keep 45 [0] rfl ?_;(conv=>whnf);refine ⟨?_⟩
 refine CW.seq ?_
 refine CW.region ?_
 refine RW.k XK 45 1 rfl ?_
 (conv=>whnf);intro b1;(conv=>whnf);refine ⟨rfl,?_⟩
 refine RW.freezeB (ts := (Node.c a)) 1 rfl (DRd.r (DRd.r (DRd.r (DRd.r (DRd.r (DRd.r (DRd.r (DRd.r (DRd.r (DRd.r (DRd.r (DRd.r (DRd.r (DRd.r DRd.e)))))))))))))) ?_
 refine RW.k XK 45 1 rfl ?_
 (conv=>whnf);intro b2;(conv=>whnf);refine ⟨rfl,?_⟩
 refine RW.nil ?_
 refine CW.keep 45 [1,2] rfl ?_;(conv=>whnf);refine ⟨?_⟩
 refine CW.k XK 45 6 [1,2,3] rfl ?_
 (conv=>whnf);intro b3;(conv=>whnf);refine ⟨rfl,?_⟩
 refine CW.seq ?_
 refine CW.region ?_
 refine RW.k XK 45 2 rfl ?_
 (conv=>whnf);refine ⟨rfl,?_⟩
 refine RW.call rfl (laws_toIntS_fn a.conf hs.1.1) rfl (.cons (.one (.r .r)) (.nil)) fun g4 => ?_
 refine RW.k XK 45 2 rfl ?_
 (conv=>whnf);refine ⟨rfl,?_⟩
 refine RW.keep 45 [1,2,3,21] rfl ?_;(conv=>whnf);refine ⟨?_⟩
 refine RW.pullT (k := 3) (l := 21) (j := 5) 3 21 5 rfl rfl rfl (by decide) rfl rfl rfl ?_
 refine RW.keep 45 [1,2,3] rfl ?_;(conv=>whnf);refine ⟨?_⟩
 refine RW.nil ?_
 refine CW.keep 45 [1,2,3] rfl ?_;(conv=>whnf);refine ⟨?_⟩
 refine CW.seq ?_
 refine CW.region ?_
 refine RW.k XK 45 2 rfl ?_
 (conv=>whnf);refine ⟨rfl,?_⟩
 refine RW.call rfl (laws_toLog_fn a.log hs.2.1) rfl (.cons (.agg (.cons (.r .r) (.cons (.r .r) (.cons (.r .r) (.nil))))) (.nil)) fun g5 => ?_
 refine RW.k XK 45 2 rfl ?_
 (conv=>whnf);refine ⟨rfl,?_⟩
 refine RW.keep 45 [1,2,3,25] rfl ?_;(conv=>whnf);refine ⟨?_⟩
 refine RW.pullA (k := 3) (l := 25) (j := 8) 3 25 8 rfl rfl rfl (by decide) rfl rfl rfl rfl ?_
 refine RW.keep 45 [1,2,3] rfl ?_;(conv=>whnf);refine ⟨?_⟩
 refine RW.nil ?_
 refine CW.keep 45 [1,2,3] rfl ?_;(conv=>whnf);refine ⟨?_⟩
 refine CW.k XK 45 3 [1,2,3] rfl ?_
 (conv=>whnf);refine ⟨rfl,?_⟩
 refine CW.seq ?_
 refine CW.region ?_
 refine RW.k XK 45 2 rfl ?_
 (conv=>whnf);refine ⟨rfl,?_⟩
 refine RW.call rfl (laws_toIntS_fn a.votes hs.2.2.1.1) rfl (.cons (.one (.r .r)) (.nil)) fun g6 => ?_
 refine RW.k XK 45 2 rfl ?_
 (conv=>whnf);refine ⟨rfl,?_⟩
 refine RW.keep 45 [1,2,3,38] rfl ?_;(conv=>whnf);refine ⟨?_⟩
 refine RW.pullT (k := 3) (l := 38) (j := 12) 3 38 12 rfl rfl rfl (by decide) rfl rfl rfl ?_
 refine RW.keep 45 [1,2,3] rfl ?_;(conv=>whnf);refine ⟨?_⟩
 refine RW.nil ?_
 refine CW.keep 45 [1,2,3] rfl ?_;(conv=>whnf);refine ⟨?_⟩
 refine CW.seq ?_
 refine CW.region ?_
 refine RW.k XK 45 2 rfl ?_
 (conv=>whnf);refine ⟨rfl,?_⟩
 refine RW.call rfl (laws_toPeerS_fn a.peers hs.2.2.2.1) rfl (.cons (.one (.r .r)) (.nil)) fun g7 => ?_
 refine RW.k XK 45 2 rfl ?_
 (conv=>whnf);refine ⟨rfl,?_⟩
 refine RW.keep 45 [2,3,42] rfl ?_;(conv=>whnf);refine ⟨?_⟩
 refine RW.pullT (k := 3) (l := 42) (j := 13) 3 42 13 rfl rfl rfl (by decide) rfl rfl rfl ?_
 refine RW.keep 45 [2,3] rfl ?_;(conv=>whnf);refine ⟨?_⟩
 refine RW.nil ?_
 refine CW.keep 45 [2,3] rfl ?_;(conv=>whnf);refine ⟨?_⟩
 refine CW.seq ?_
 refine CW.region ?_
 refine RW.k XK 45 2 rfl ?_
 (conv=>whnf);refine ⟨rfl,?_⟩
 refine RW.keep 45 [2,3] rfl ?_;(conv=>whnf);refine ⟨?_⟩
 refine RW.pullO (k := 2) (l := 3) (j := 5) 2 3 5 rfl rfl rfl (by decide) rfl rfl rfl rfl ?_
 refine RW.keep 45 [2,3] rfl ?_;(conv=>whnf);refine ⟨?_⟩
 refine RW.pullO (k := 2) (l := 3) (j := 8) 2 3 8 rfl rfl rfl (by decide) rfl rfl rfl rfl ?_
 refine RW.keep 45 [2,3] rfl ?_;(conv=>whnf);refine ⟨?_⟩
 refine RW.pullO (k := 2) (l := 3) (j := 12) 2 3 12 rfl rfl rfl (by decide) rfl rfl rfl rfl ?_
 refine RW.keep 45 [2,3] rfl ?_;(conv=>whnf);refine ⟨?_⟩
 refine RW.pullO (k := 2) (l := 3) (j := 13) 2 3 13 rfl rfl rfl (by decide) rfl rfl rfl rfl ?_
 refine RW.keep 45 [2] rfl ?_;(conv=>whnf);refine ⟨?_⟩
 refine RW.nil ?_
 refine CW.keep 45 [2] rfl ?_;(conv=>whnf);refine ⟨?_⟩
 refine CW.ret ?_
 exact Post.one (RV.c (f := fun e => (Node.c e).map .w) (e' := a) rfl rfl rfl rfl (DT.v (DT.v (DT.v (DT.v (DT.v (DT.w (DT.v (DT.v (DT.w (DT.v (DT.v (DT.v (DT.w (DT.w DT.e)))))))))))))) (by simp_all)) (AOs.a rfl AOs.e)
set_option maxHeartbeats 4000000 in
theorem laws_eqEntry_fn (a : Entry) (b : Entry) : Eng.Fn E.P 50 [.agg ((Entry.c a).map .r), .agg ((Entry.c b).map .r)] (.one (.one (.w (.v (.bool (eqEntry a b)))))) [.agg ((Entry.c a).map .r), .agg ((Entry.c b).map .r)] := by
 refine Eng.Fn.intro (E := E) (rvs := [.tmp 4]) Try.func50 rfl rfl rfl (by simp [outSlots, moved, rvSlot, sl]) ?_
 intro B g bo
 refine CW.keep 20 [0,1] rfl ?_;(conv=>whnf);refine ⟨?_⟩
 refine CW.seq ?_
 refine CW.region ?_
 refine RW.k XK 20 1 rfl ?_
 (conv=>whnf);intro b1;(conv=>whnf);refine ⟨rfl,?_⟩
 refine RW.freezeB (ts := (Entry.c a)) 2 rfl (DRd.r (DRd.r (DRd.r DRd.e))) ?_
 refine RW.k XK 20 1 rfl ?_
 (conv=>whnf);intro b2;(conv=>whnf);refine ⟨rfl,?_⟩
 refine RW.freezeB (ts := (Entry.c b)) 3 rfl (DRd.r (DRd.r (DRd.r DRd.e))) ?_
 refine RW.k XK 20 1 rfl ?_
 (conv=>whnf);refine ⟨rfl,?_⟩
 refine RW.nil ?_
 refine CW.keep 20 [2,3] rfl ?_;(conv=>whnf);refine ⟨?_⟩
 refine CW.seq ?_
 refine CW.k XK 20 1 [2,3,9] rfl ?_
 (conv=>whnf);refine ⟨rfl,?_⟩
 refine CW.cond rfl (fun h3 => ?_) (fun h3 => ?_)
 ·skip
  refine CW.k XK 20 1 [4] rfl ?_
  (conv=>whnf);refine ⟨rfl,?_⟩
  refine CW.ret ?_
  exact Post.one (RV.b rfl (by simp_all [eqEntry])) (AOs.a rfl (AOs.a rfl AOs.e))
 ·skip
  refine CW.skip ?_
  refine CW.keep 20 [2,3] rfl ?_;(conv=>whnf);refine ⟨?_⟩
  refine CW.seq ?_
  refine CW.k XK 20 1 [2,3,14] rfl ?_
  (conv=>whnf);refine ⟨rfl,?_⟩
  refine CW.cond rfl (fun h4 => ?_) (fun h4 => ?_)
  ·skip
   refine CW.k XK 20 1 [4] rfl ?_
   (conv=>whnf);refine ⟨rfl,?_⟩
   refine CW.ret ?_
   exact Post.one (RV.b rfl (by simp_all [eqEntry])) (AOs.a rfl (AOs.a rfl AOs.e))
  ·skip
   refine CW.skip ?_
   refine CW.keep 20 [2,3] rfl ?_;(conv=>whnf);refine ⟨?_⟩
   refine CW.seq ?_
   refine CW.k XK 20 1 [19] rfl ?_
   (conv=>whnf);refine ⟨rfl,?_⟩
   refine CW.cond rfl (fun h5 => ?_) (fun h5 => ?_)
   ·skip
    refine CW.k XK 20 1 [4] rfl ?_
    (conv=>whnf);refine ⟨rfl,?_⟩
    refine CW.ret ?_
    exact Post.one (RV.b rfl (by simp_all [eqEntry])) (AOs.a rfl (AOs.a rfl AOs.e))
   ·skip
    refine CW.skip ?_
    refine CW.keep 20 [] rfl ?_;(conv=>whnf);refine ⟨?_⟩
    refine CW.k XK 20 1 [4] rfl ?_
    (conv=>whnf);refine ⟨rfl,?_⟩
    refine CW.ret ?_
    exact Post.one (RV.b rfl (by simp_all [eqEntry])) (AOs.a rfl (AOs.a rfl AOs.e))
set_option maxHeartbeats 4000000 in
theorem laws_eqEntryS_fn (a : List Entry) (b : List Entry) : Eng.Fn E.P 14 [.one (.r (sl 3 Entry.c a)), .one (.r (sl 3 Entry.c b))] (.one (.one (.w (.v (.bool (eqS eqEntry a b)))))) [.one (.r (sl 3 Entry.c a)), .one (.r (sl 3 Entry.c b))] := by
 refine Eng.Fn.intro (E := E) (rvs := [.tmp 4]) Try.func14 rfl rfl rfl (by simp [outSlots, moved, rvSlot, sl]) ?_
 intro B g bo
 refine CW.bound (x := .tmp 0) (n := a.length) (AsT.r) (fun hl0 => ?_)
 refine CW.bound (x := .tmp 1) (n := b.length) (AsT.r) (fun hl1 => ?_)
 refine CW.keep 27 [0,1] rfl ?_;(conv=>whnf);refine ⟨?_⟩
 refine CW.k XK 27 1 [0,1] rfl ?_
 (conv=>whnf);refine ⟨rfl,?_⟩
 refine CW.seq ?_
 refine CW.k XK 27 1 [0,1,10] rfl ?_
 (conv=>whnf);refine ⟨rfl,?_⟩
 refine CW.cond rfl (fun h1 => ?_) (fun h1 => ?_)
 ·skip
  refine CW.k XK 27 1 [4] rfl ?_
  (conv=>whnf);refine ⟨rfl,?_⟩
  refine CW.ret ?_
  exact Post.one (RV.b rfl (by first | (simp_all [eqS, eqI, eqStr, eqB]; done) | exact (eqS_ne (by simp_all; omega)).symm)) (AOs.r (AOs.r AOs.e))
 ·skip
  refine CW.skip ?_
  refine CW.keep 27 [0,1] rfl ?_;(conv=>whnf);refine ⟨?_⟩
  refine CW.seq ?_
  refine CW.k XK 27 1 [0,1,5] rfl ?_
  (conv=>whnf);refine ⟨rfl,?_⟩
  refine CW.block ?_
  refine CW.loopI 27 (fun (i : Nat) => [(0, .r (sl 3 Entry.c a)), (1, .r (sl 3 Entry.c b)), (5, I (i : Int))]) (fun (i : Nat) => i ≤ a.length ∧ eqS eqEntry (a.drop i) (b.drop i) = eqS eqEntry a b) (fun (i : Nat) => a.length - i) 0 rfl (Le.c rfl <| Le.c rfl <| Le.c rfl <| Le.e) ⟨by omega, by simp⟩ ?_
  rintro i ⟨hb, hr⟩
  have hlen : a.length = b.length := by simp at h1; omega
  refine CW.seq ?_
  refine CW.k XK 27 1 [0,1,5,14] rfl ?_
  (conv=>whnf);refine ⟨rfl,?_⟩
  refine CW.cond rfl (fun h2 => ?_) (fun h2 => ?_)
  ·skip
   have hii : i < a.length := by have := h2; simp at this; first | exact this | omega | (simp; done) | (simp; omega)
   obtain ⟨ei, hei⟩ : ∃ e, a[i]? = some e := ⟨_, List.getElem?_eq_getElem hii⟩
   have hdi := drop_get hei
   have hib : i < b.length := by omega
   obtain ⟨eb, heb⟩ : ∃ e, b[i]? = some e := ⟨_, List.getElem?_eq_getElem hib⟩
   have hdb := drop_get heb
   refine CW.skip ?_
   refine CW.keep 27 [0,1,5] rfl ?_;(conv=>whnf);refine ⟨?_⟩
   refine CW.seq ?_
   refine CW.block ?_
   refine CW.seq ?_
   refine CW.drawn (by kernel_rfl) ?_
   refine RQ.k XK 27 2 rfl ?_
   (conv=>whnf);refine ⟨rfl,?_⟩
   refine RQ.v rfl (V.indexS rfl rfl rfl rfl rfl rfl Entry.len hei) ?_
   refine RQ.k XK 27 3 rfl ?_
   (conv=>whnf);refine ⟨rfl,?_⟩
   refine RQ.v rfl (V.indexS rfl rfl rfl rfl rfl rfl Entry.len heb) ?_
   refine RQ.k XK 27 1 rfl ?_
   (conv=>whnf);refine ⟨rfl,?_⟩
   refine RQ.cons rfl (QOK.call (laws_eqEntry_fn ei eb) rfl (.cons (.agg (.cons (.r .r) (.cons (.r .r) (.cons (.r .r) (.nil))))) (.cons (.agg (.cons (.r .r) (.cons (.r .r) (.cons (.r .r) (.nil))))) (.nil))) ?_)
   refine RQ.k XK 27 1 rfl ?_
   (conv=>whnf);refine ⟨rfl,?_⟩
   refine RQ.nil ?_
   refine CW.keep 27 [0,1,5,26] rfl ?_;(conv=>whnf);refine ⟨?_⟩
   refine CW.cond rfl (fun h3 => ?_) (fun h3 => ?_)
   ·skip
    refine CW.k XK 27 1 [4] rfl ?_
    (conv=>whnf);refine ⟨rfl,?_⟩
    refine CW.ret ?_
    exact Post.one (RV.b rfl (by first | (simp_all [eqS, eqI, eqStr, eqB]; done) | exact (eqS_ne (by simp_all; omega)).symm)) (AOs.r (AOs.r AOs.e))
   ·skip
    refine CW.skip ?_
    refine CW.keep 27 [0,1,5] rfl ?_;(conv=>whnf);refine ⟨?_⟩
    refine CW.region ?_
    refine RW.k XK 27 1 rfl ?_
    (conv=>whnf);refine ⟨rfl,?_⟩
    refine RW.v rfl (V.inc rfl rfl rfl hii hl0) ?_
    refine RW.k XK 27 1 rfl ?_
    (conv=>whnf);refine ⟨rfl,?_⟩
    refine RW.nil ?_
    exact ⟨i + 1, by omega, ⟨by omega, by simp_all [eqS, eqI, eqStr, eqB]⟩, rfl, Le.c rfl <| Le.c rfl <| Le.c rfl <| Le.e⟩
  ·skip
   have hii : a.length ≤ i := by have := h2; simp at this; first | exact this | omega | (simp; done) | (simp; omega)
   have hdi : a.drop i = [] := List.drop_eq_nil_of_le hii
   refine CW.exit ?_
   refine CW.keep 27 [] rfl ?_;(conv=>whnf);refine ⟨?_⟩
   refine CW.k XK 27 1 [4] rfl ?_
   (conv=>whnf);refine ⟨rfl,?_⟩
   refine CW.ret ?_
   exact Post.one (RV.b rfl (by rw [← hr, hdi, List.drop_eq_nil_of_le (show b.length ≤ i by omega)]; rfl)) (AOs.r (AOs.r AOs.e))
set_option maxHeartbeats 4000000 in
theorem laws_eqIntS_fn (a : List Int) (b : List Int) : Eng.Fn E.P 27 [.one (.r (sl 1 cI a)), .one (.r (sl 1 cI b))] (.one (.one (.w (.v (.bool (eqS eqI a b)))))) [.one (.r (sl 1 cI a)), .one (.r (sl 1 cI b))] := by
 refine Eng.Fn.intro (E := E) (rvs := [.tmp 4]) Try.func27 rfl rfl rfl (by simp [outSlots, moved, rvSlot, sl]) ?_
 intro B g bo
 refine CW.bound (x := .tmp 0) (n := a.length) (AsT.r) (fun hl0 => ?_)
 refine CW.bound (x := .tmp 1) (n := b.length) (AsT.r) (fun hl1 => ?_)
 refine CW.keep 26 [0,1] rfl ?_;(conv=>whnf);refine ⟨?_⟩
 refine CW.k XK 26 1 [0,1] rfl ?_
 (conv=>whnf);refine ⟨rfl,?_⟩
 refine CW.seq ?_
 refine CW.k XK 26 1 [0,1,10] rfl ?_
 (conv=>whnf);refine ⟨rfl,?_⟩
 refine CW.cond rfl (fun h1 => ?_) (fun h1 => ?_)
 ·skip
  refine CW.k XK 26 1 [4] rfl ?_
  (conv=>whnf);refine ⟨rfl,?_⟩
  refine CW.ret ?_
  exact Post.one (RV.b rfl (by first | (simp_all [eqS, eqI, eqStr, eqB]; done) | exact (eqS_ne (by simp_all; omega)).symm)) (AOs.r (AOs.r AOs.e))
 ·skip
  refine CW.skip ?_
  refine CW.keep 26 [0,1] rfl ?_;(conv=>whnf);refine ⟨?_⟩
  refine CW.seq ?_
  refine CW.k XK 26 1 [0,1,5] rfl ?_
  (conv=>whnf);refine ⟨rfl,?_⟩
  refine CW.block ?_
  refine CW.loopI 26 (fun (i : Nat) => [(0, .r (sl 1 cI a)), (1, .r (sl 1 cI b)), (5, I (i : Int))]) (fun (i : Nat) => i ≤ a.length ∧ eqS eqI (a.drop i) (b.drop i) = eqS eqI a b) (fun (i : Nat) => a.length - i) 0 rfl (Le.c rfl <| Le.c rfl <| Le.c rfl <| Le.e) ⟨by omega, by simp⟩ ?_
  rintro i ⟨hb, hr⟩
  have hlen : a.length = b.length := by simp at h1; omega
  refine CW.seq ?_
  refine CW.k XK 26 1 [0,1,5,14] rfl ?_
  (conv=>whnf);refine ⟨rfl,?_⟩
  refine CW.cond rfl (fun h2 => ?_) (fun h2 => ?_)
  ·skip
   have hii : i < a.length := by have := h2; simp at this; first | exact this | omega | (simp; done) | (simp; omega)
   obtain ⟨ei, hei⟩ : ∃ e, a[i]? = some e := ⟨_, List.getElem?_eq_getElem hii⟩
   have hdi := drop_get hei
   have hib : i < b.length := by omega
   obtain ⟨eb, heb⟩ : ∃ e, b[i]? = some e := ⟨_, List.getElem?_eq_getElem hib⟩
   have hdb := drop_get heb
   refine CW.skip ?_
   refine CW.keep 26 [0,1,5] rfl ?_;(conv=>whnf);refine ⟨?_⟩
   refine CW.seq ?_
   refine CW.block ?_
   refine CW.seq ?_
   refine CW.drawn (by kernel_rfl) ?_
   refine RQ.k XK 26 2 rfl ?_
   (conv=>whnf);refine ⟨rfl,?_⟩
   refine RQ.v rfl (V.indexS rfl rfl rfl rfl rfl rfl cI.len hei) ?_
   refine RQ.k XK 26 3 rfl ?_
   (conv=>whnf);refine ⟨rfl,?_⟩
   refine RQ.v rfl (V.indexS rfl rfl rfl rfl rfl rfl cI.len heb) ?_
   refine RQ.k XK 26 2 rfl ?_
   (conv=>whnf);refine ⟨rfl,?_⟩
   refine RQ.nil ?_
   refine CW.keep 26 [0,1,5,25] rfl ?_;(conv=>whnf);refine ⟨?_⟩
   refine CW.cond rfl (fun h3 => ?_) (fun h3 => ?_)
   ·skip
    refine CW.k XK 26 1 [4] rfl ?_
    (conv=>whnf);refine ⟨rfl,?_⟩
    refine CW.ret ?_
    exact Post.one (RV.b rfl (by first | (simp_all [eqS, eqI, eqStr, eqB]; done) | exact (eqS_ne (by simp_all; omega)).symm)) (AOs.r (AOs.r AOs.e))
   ·skip
    refine CW.skip ?_
    refine CW.keep 26 [0,1,5] rfl ?_;(conv=>whnf);refine ⟨?_⟩
    refine CW.region ?_
    refine RW.k XK 26 1 rfl ?_
    (conv=>whnf);refine ⟨rfl,?_⟩
    refine RW.v rfl (V.inc rfl rfl rfl hii hl0) ?_
    refine RW.k XK 26 1 rfl ?_
    (conv=>whnf);refine ⟨rfl,?_⟩
    refine RW.nil ?_
    exact ⟨i + 1, by omega, ⟨by omega, by simp_all [eqS, eqI, eqStr, eqB]⟩, rfl, Le.c rfl <| Le.c rfl <| Le.c rfl <| Le.e⟩
  ·skip
   have hii : a.length ≤ i := by have := h2; simp at this; first | exact this | omega | (simp; done) | (simp; omega)
   have hdi : a.drop i = [] := List.drop_eq_nil_of_le hii
   refine CW.exit ?_
   refine CW.keep 26 [] rfl ?_;(conv=>whnf);refine ⟨?_⟩
   refine CW.k XK 26 1 [4] rfl ?_
   (conv=>whnf);refine ⟨rfl,?_⟩
   refine CW.ret ?_
   exact Post.one (RV.b rfl (by rw [← hr, hdi, List.drop_eq_nil_of_le (show b.length ≤ i by omega)]; rfl)) (AOs.r (AOs.r AOs.e))
set_option maxHeartbeats 4000000 in
theorem laws_eqLog_fn (a : Log) (b : Log) : Eng.Fn E.P 73 [.agg ((Log.c a).map .r), .agg ((Log.c b).map .r)] (.one (.one (.w (.v (.bool (eqLog a b)))))) [.agg ((Log.c a).map .r), .agg ((Log.c b).map .r)] := by
 refine Eng.Fn.intro (E := E) (rvs := [.tmp 4]) Try.func73 rfl rfl rfl (by simp [outSlots, moved, rvSlot, sl]) ?_
 intro B g bo
 refine CW.keep 21 [0,1] rfl ?_;(conv=>whnf);refine ⟨?_⟩
 refine CW.seq ?_
 refine CW.region ?_
 refine RW.k XK 21 1 rfl ?_
 (conv=>whnf);intro b1;(conv=>whnf);refine ⟨rfl,?_⟩
 refine RW.freezeB (ts := (Log.c a)) 2 rfl (DRd.r (DRd.r (DRd.r DRd.e))) ?_
 refine RW.k XK 21 1 rfl ?_
 (conv=>whnf);intro b2;(conv=>whnf);refine ⟨rfl,?_⟩
 refine RW.freezeB (ts := (Log.c b)) 3 rfl (DRd.r (DRd.r (DRd.r DRd.e))) ?_
 refine RW.k XK 21 1 rfl ?_
 (conv=>whnf);refine ⟨rfl,?_⟩
 refine RW.nil ?_
 refine CW.keep 21 [2,3] rfl ?_;(conv=>whnf);refine ⟨?_⟩
 refine CW.seq ?_
 refine CW.k XK 21 1 [2,3,9] rfl ?_
 (conv=>whnf);refine ⟨rfl,?_⟩
 refine CW.cond rfl (fun h3 => ?_) (fun h3 => ?_)
 ·skip
  refine CW.k XK 21 1 [4] rfl ?_
  (conv=>whnf);refine ⟨rfl,?_⟩
  refine CW.ret ?_
  exact Post.one (RV.b rfl (by simp_all [eqLog])) (AOs.a rfl (AOs.a rfl AOs.e))
 ·skip
  refine CW.skip ?_
  refine CW.keep 21 [2,3] rfl ?_;(conv=>whnf);refine ⟨?_⟩
  refine CW.seq ?_
  refine CW.k XK 21 1 [2,3,14] rfl ?_
  (conv=>whnf);refine ⟨rfl,?_⟩
  refine CW.cond rfl (fun h4 => ?_) (fun h4 => ?_)
  ·skip
   refine CW.k XK 21 1 [4] rfl ?_
   (conv=>whnf);refine ⟨rfl,?_⟩
   refine CW.ret ?_
   exact Post.one (RV.b rfl (by simp_all [eqLog])) (AOs.a rfl (AOs.a rfl AOs.e))
  ·skip
   refine CW.skip ?_
   refine CW.keep 21 [2,3] rfl ?_;(conv=>whnf);refine ⟨?_⟩
   refine CW.seq ?_
   refine CW.seq ?_
   refine CW.region ?_
   refine RW.k XK 21 4 rfl ?_
   (conv=>whnf);refine ⟨rfl,?_⟩
   refine RW.call rfl (laws_eqEntryS_fn a.entries b.entries) rfl (.cons (.one (.r .r)) (.cons (.one (.r .r)) (.nil))) fun g5 => ?_
   refine RW.k XK 21 1 rfl ?_
   (conv=>whnf);refine ⟨rfl,?_⟩
   refine RW.nil ?_
   refine CW.keep 21 [20] rfl ?_;(conv=>whnf);refine ⟨?_⟩
   refine CW.cond rfl (fun h6 => ?_) (fun h6 => ?_)
   ·skip
    refine CW.k XK 21 1 [4] rfl ?_
    (conv=>whnf);refine ⟨rfl,?_⟩
    refine CW.ret ?_
    exact Post.one (RV.b rfl (by simp_all [eqLog])) (AOs.a rfl (AOs.a rfl AOs.e))
   ·skip
    refine CW.skip ?_
    refine CW.keep 21 [] rfl ?_;(conv=>whnf);refine ⟨?_⟩
    refine CW.k XK 21 1 [4] rfl ?_
    (conv=>whnf);refine ⟨rfl,?_⟩
    refine CW.ret ?_
    exact Post.one (RV.b rfl (by simp_all [eqLog])) (AOs.a rfl (AOs.a rfl AOs.e))
set_option maxHeartbeats 4000000 in
theorem laws_eqPeer_fn (a : Peer) (b : Peer) : Eng.Fn E.P 122 [.agg ((Peer.c a).map .r), .agg ((Peer.c b).map .r)] (.one (.one (.w (.v (.bool (eqPeer a b)))))) [.agg ((Peer.c a).map .r), .agg ((Peer.c b).map .r)] := by
 refine Eng.Fn.intro (E := E) (rvs := [.tmp 4]) Try.func122 rfl rfl rfl (by simp [outSlots, moved, rvSlot, sl]) ?_
 intro B g bo
 refine CW.keep 25 [0,1] rfl ?_;(conv=>whnf);refine ⟨?_⟩
 refine CW.seq ?_
 refine CW.region ?_
 refine RW.k XK 25 1 rfl ?_
 (conv=>whnf);intro b1;(conv=>whnf);refine ⟨rfl,?_⟩
 refine RW.freezeB (ts := (Peer.c a)) 2 rfl (DRd.r (DRd.r (DRd.r (DRd.r DRd.e)))) ?_
 refine RW.k XK 25 1 rfl ?_
 (conv=>whnf);intro b2;(conv=>whnf);refine ⟨rfl,?_⟩
 refine RW.freezeB (ts := (Peer.c b)) 3 rfl (DRd.r (DRd.r (DRd.r (DRd.r DRd.e)))) ?_
 refine RW.k XK 25 1 rfl ?_
 (conv=>whnf);refine ⟨rfl,?_⟩
 refine RW.nil ?_
 refine CW.keep 25 [2,3] rfl ?_;(conv=>whnf);refine ⟨?_⟩
 refine CW.seq ?_
 refine CW.k XK 25 1 [2,3,9] rfl ?_
 (conv=>whnf);refine ⟨rfl,?_⟩
 refine CW.cond rfl (fun h3 => ?_) (fun h3 => ?_)
 ·skip
  refine CW.k XK 25 1 [4] rfl ?_
  (conv=>whnf);refine ⟨rfl,?_⟩
  refine CW.ret ?_
  exact Post.one (RV.b rfl (by simp_all [eqPeer])) (AOs.a rfl (AOs.a rfl AOs.e))
 ·skip
  refine CW.skip ?_
  refine CW.keep 25 [2,3] rfl ?_;(conv=>whnf);refine ⟨?_⟩
  refine CW.seq ?_
  refine CW.k XK 25 1 [2,3,14] rfl ?_
  (conv=>whnf);refine ⟨rfl,?_⟩
  refine CW.cond rfl (fun h4 => ?_) (fun h4 => ?_)
  ·skip
   refine CW.k XK 25 1 [4] rfl ?_
   (conv=>whnf);refine ⟨rfl,?_⟩
   refine CW.ret ?_
   exact Post.one (RV.b rfl (by simp_all [eqPeer])) (AOs.a rfl (AOs.a rfl AOs.e))
  ·skip
   refine CW.skip ?_
   refine CW.keep 25 [2,3] rfl ?_;(conv=>whnf);refine ⟨?_⟩
   refine CW.seq ?_
   refine CW.k XK 25 1 [2,3,19] rfl ?_
   (conv=>whnf);refine ⟨rfl,?_⟩
   refine CW.cond rfl (fun h5 => ?_) (fun h5 => ?_)
   ·skip
    refine CW.k XK 25 1 [4] rfl ?_
    (conv=>whnf);refine ⟨rfl,?_⟩
    refine CW.ret ?_
    exact Post.one (RV.b rfl (by simp_all [eqPeer])) (AOs.a rfl (AOs.a rfl AOs.e))
   ·skip
    refine CW.skip ?_
    refine CW.keep 25 [2,3] rfl ?_;(conv=>whnf);refine ⟨?_⟩
    refine CW.seq ?_
    refine CW.k XK 25 1 [24] rfl ?_
    (conv=>whnf);refine ⟨rfl,?_⟩
    refine CW.cond rfl (fun h6 => ?_) (fun h6 => ?_)
    ·skip
     refine CW.k XK 25 1 [4] rfl ?_
     (conv=>whnf);refine ⟨rfl,?_⟩
     refine CW.ret ?_
     exact Post.one (RV.b rfl (by simp_all [eqPeer])) (AOs.a rfl (AOs.a rfl AOs.e))
    ·skip
     refine CW.skip ?_
     refine CW.keep 25 [] rfl ?_;(conv=>whnf);refine ⟨?_⟩
     refine CW.k XK 25 1 [4] rfl ?_
     (conv=>whnf);refine ⟨rfl,?_⟩
     refine CW.ret ?_
     exact Post.one (RV.b rfl (by simp_all [eqPeer])) (AOs.a rfl (AOs.a rfl AOs.e))
set_option maxHeartbeats 4000000 in
theorem laws_eqPeerS_fn (a : List Peer) (b : List Peer) : Eng.Fn E.P 74 [.one (.r (sl 4 Peer.c a)), .one (.r (sl 4 Peer.c b))] (.one (.one (.w (.v (.bool (eqS eqPeer a b)))))) [.one (.r (sl 4 Peer.c a)), .one (.r (sl 4 Peer.c b))] := by
 refine Eng.Fn.intro (E := E) (rvs := [.tmp 4]) Try.func74 rfl rfl rfl (by simp [outSlots, moved, rvSlot, sl]) ?_
 intro B g bo
 refine CW.bound (x := .tmp 0) (n := a.length) (AsT.r) (fun hl0 => ?_)
 refine CW.bound (x := .tmp 1) (n := b.length) (AsT.r) (fun hl1 => ?_)
 refine CW.keep 27 [0,1] rfl ?_;(conv=>whnf);refine ⟨?_⟩
 refine CW.k XK 27 1 [0,1] rfl ?_
 (conv=>whnf);refine ⟨rfl,?_⟩
 refine CW.seq ?_
 refine CW.k XK 27 1 [0,1,10] rfl ?_
 (conv=>whnf);refine ⟨rfl,?_⟩
 refine CW.cond rfl (fun h1 => ?_) (fun h1 => ?_)
 ·skip
  refine CW.k XK 27 1 [4] rfl ?_
  (conv=>whnf);refine ⟨rfl,?_⟩
  refine CW.ret ?_
  exact Post.one (RV.b rfl (by first | (simp_all [eqS, eqI, eqStr, eqB]; done) | exact (eqS_ne (by simp_all; omega)).symm)) (AOs.r (AOs.r AOs.e))
 ·skip
  refine CW.skip ?_
  refine CW.keep 27 [0,1] rfl ?_;(conv=>whnf);refine ⟨?_⟩
  refine CW.seq ?_
  refine CW.k XK 27 1 [0,1,5] rfl ?_
  (conv=>whnf);refine ⟨rfl,?_⟩
  refine CW.block ?_
  refine CW.loopI 27 (fun (i : Nat) => [(0, .r (sl 4 Peer.c a)), (1, .r (sl 4 Peer.c b)), (5, I (i : Int))]) (fun (i : Nat) => i ≤ a.length ∧ eqS eqPeer (a.drop i) (b.drop i) = eqS eqPeer a b) (fun (i : Nat) => a.length - i) 0 rfl (Le.c rfl <| Le.c rfl <| Le.c rfl <| Le.e) ⟨by omega, by simp⟩ ?_
  rintro i ⟨hb, hr⟩
  have hlen : a.length = b.length := by simp at h1; omega
  refine CW.seq ?_
  refine CW.k XK 27 1 [0,1,5,14] rfl ?_
  (conv=>whnf);refine ⟨rfl,?_⟩
  refine CW.cond rfl (fun h2 => ?_) (fun h2 => ?_)
  ·skip
   have hii : i < a.length := by have := h2; simp at this; first | exact this | omega | (simp; done) | (simp; omega)
   obtain ⟨ei, hei⟩ : ∃ e, a[i]? = some e := ⟨_, List.getElem?_eq_getElem hii⟩
   have hdi := drop_get hei
   have hib : i < b.length := by omega
   obtain ⟨eb, heb⟩ : ∃ e, b[i]? = some e := ⟨_, List.getElem?_eq_getElem hib⟩
   have hdb := drop_get heb
   refine CW.skip ?_
   refine CW.keep 27 [0,1,5] rfl ?_;(conv=>whnf);refine ⟨?_⟩
   refine CW.seq ?_
   refine CW.block ?_
   refine CW.seq ?_
   refine CW.drawn (by kernel_rfl) ?_
   refine RQ.k XK 27 2 rfl ?_
   (conv=>whnf);refine ⟨rfl,?_⟩
   refine RQ.v rfl (V.indexS rfl rfl rfl rfl rfl rfl Peer.len hei) ?_
   refine RQ.k XK 27 3 rfl ?_
   (conv=>whnf);refine ⟨rfl,?_⟩
   refine RQ.v rfl (V.indexS rfl rfl rfl rfl rfl rfl Peer.len heb) ?_
   refine RQ.k XK 27 1 rfl ?_
   (conv=>whnf);refine ⟨rfl,?_⟩
   refine RQ.cons rfl (QOK.call (laws_eqPeer_fn ei eb) rfl (.cons (.agg (.cons (.r .r) (.cons (.r .r) (.cons (.r .r) (.cons (.r .r) (.nil)))))) (.cons (.agg (.cons (.r .r) (.cons (.r .r) (.cons (.r .r) (.cons (.r .r) (.nil)))))) (.nil))) ?_)
   refine RQ.k XK 27 1 rfl ?_
   (conv=>whnf);refine ⟨rfl,?_⟩
   refine RQ.nil ?_
   refine CW.keep 27 [0,1,5,26] rfl ?_;(conv=>whnf);refine ⟨?_⟩
   refine CW.cond rfl (fun h3 => ?_) (fun h3 => ?_)
   ·skip
    refine CW.k XK 27 1 [4] rfl ?_
    (conv=>whnf);refine ⟨rfl,?_⟩
    refine CW.ret ?_
    exact Post.one (RV.b rfl (by first | (simp_all [eqS, eqI, eqStr, eqB]; done) | exact (eqS_ne (by simp_all; omega)).symm)) (AOs.r (AOs.r AOs.e))
   ·skip
    refine CW.skip ?_
    refine CW.keep 27 [0,1,5] rfl ?_;(conv=>whnf);refine ⟨?_⟩
    refine CW.region ?_
    refine RW.k XK 27 1 rfl ?_
    (conv=>whnf);refine ⟨rfl,?_⟩
    refine RW.v rfl (V.inc rfl rfl rfl hii hl0) ?_
    refine RW.k XK 27 1 rfl ?_
    (conv=>whnf);refine ⟨rfl,?_⟩
    refine RW.nil ?_
    exact ⟨i + 1, by omega, ⟨by omega, by simp_all [eqS, eqI, eqStr, eqB]⟩, rfl, Le.c rfl <| Le.c rfl <| Le.c rfl <| Le.e⟩
  ·skip
   have hii : a.length ≤ i := by have := h2; simp at this; first | exact this | omega | (simp; done) | (simp; omega)
   have hdi : a.drop i = [] := List.drop_eq_nil_of_le hii
   refine CW.exit ?_
   refine CW.keep 27 [] rfl ?_;(conv=>whnf);refine ⟨?_⟩
   refine CW.k XK 27 1 [4] rfl ?_
   (conv=>whnf);refine ⟨rfl,?_⟩
   refine CW.ret ?_
   exact Post.one (RV.b rfl (by rw [← hr, hdi, List.drop_eq_nil_of_le (show b.length ≤ i by omega)]; rfl)) (AOs.r (AOs.r AOs.e))
set_option maxHeartbeats 4000000 in
theorem laws_eqNode_fn (a : Node) (b : Node) : Eng.Fn E.P 23 [.agg ((Node.c a).map .r), .agg ((Node.c b).map .r)] (.one (.one (.w (.v (.bool (eqNode a b)))))) [.agg ((Node.c a).map .r), .agg ((Node.c b).map .r)] := by
 refine Eng.Fn.intro (E := E) (rvs := [.tmp 4]) Try.func23 rfl rfl rfl (by simp [outSlots, moved, rvSlot, sl]) ?_
 intro B g bo
 refine CW.keep 69 [0,1] rfl ?_;(conv=>whnf);refine ⟨?_⟩
 refine CW.seq ?_
 refine CW.region ?_
 refine RW.k XK 69 1 rfl ?_
 (conv=>whnf);intro b1;(conv=>whnf);refine ⟨rfl,?_⟩
 refine RW.freezeB (ts := (Node.c a)) 2 rfl (DRd.r (DRd.r (DRd.r (DRd.r (DRd.r (DRd.r (DRd.r (DRd.r (DRd.r (DRd.r (DRd.r (DRd.r (DRd.r (DRd.r DRd.e)))))))))))))) ?_
 refine RW.k XK 69 1 rfl ?_
 (conv=>whnf);intro b2;(conv=>whnf);refine ⟨rfl,?_⟩
 refine RW.freezeB (ts := (Node.c b)) 3 rfl (DRd.r (DRd.r (DRd.r (DRd.r (DRd.r (DRd.r (DRd.r (DRd.r (DRd.r (DRd.r (DRd.r (DRd.r (DRd.r (DRd.r DRd.e)))))))))))))) ?_
 refine RW.k XK 69 1 rfl ?_
 (conv=>whnf);refine ⟨rfl,?_⟩
 refine RW.nil ?_
 refine CW.keep 69 [2,3] rfl ?_;(conv=>whnf);refine ⟨?_⟩
 refine CW.seq ?_
 refine CW.k XK 69 1 [2,3,9] rfl ?_
 (conv=>whnf);refine ⟨rfl,?_⟩
 refine CW.cond rfl (fun h3 => ?_) (fun h3 => ?_)
 ·skip
  refine CW.k XK 69 1 [4] rfl ?_
  (conv=>whnf);refine ⟨rfl,?_⟩
  refine CW.ret ?_
  exact Post.one (RV.b rfl (by simp_all [eqNode])) (AOs.a rfl (AOs.a rfl AOs.e))
 ·skip
  refine CW.skip ?_
  refine CW.keep 69 [2,3] rfl ?_;(conv=>whnf);refine ⟨?_⟩
  refine CW.seq ?_
  refine CW.k XK 69 1 [2,3,14] rfl ?_
  (conv=>whnf);refine ⟨rfl,?_⟩
  refine CW.cond rfl (fun h4 => ?_) (fun h4 => ?_)
  ·skip
   refine CW.k XK 69 1 [4] rfl ?_
   (conv=>whnf);refine ⟨rfl,?_⟩
   refine CW.ret ?_
   exact Post.one (RV.b rfl (by simp_all [eqNode])) (AOs.a rfl (AOs.a rfl AOs.e))
  ·skip
   refine CW.skip ?_
   refine CW.keep 69 [2,3] rfl ?_;(conv=>whnf);refine ⟨?_⟩
   refine CW.seq ?_
   refine CW.k XK 69 1 [2,3,19] rfl ?_
   (conv=>whnf);refine ⟨rfl,?_⟩
   refine CW.cond rfl (fun h5 => ?_) (fun h5 => ?_)
   ·skip
    refine CW.k XK 69 1 [4] rfl ?_
    (conv=>whnf);refine ⟨rfl,?_⟩
    refine CW.ret ?_
    exact Post.one (RV.b rfl (by simp_all [eqNode])) (AOs.a rfl (AOs.a rfl AOs.e))
   ·skip
    refine CW.skip ?_
    refine CW.keep 69 [2,3] rfl ?_;(conv=>whnf);refine ⟨?_⟩
    refine CW.seq ?_
    refine CW.k XK 69 1 [2,3,24] rfl ?_
    (conv=>whnf);refine ⟨rfl,?_⟩
    refine CW.cond rfl (fun h6 => ?_) (fun h6 => ?_)
    ·skip
     refine CW.k XK 69 1 [4] rfl ?_
     (conv=>whnf);refine ⟨rfl,?_⟩
     refine CW.ret ?_
     exact Post.one (RV.b rfl (by simp_all [eqNode])) (AOs.a rfl (AOs.a rfl AOs.e))
    ·skip
     refine CW.skip ?_
     refine CW.keep 69 [2,3] rfl ?_;(conv=>whnf);refine ⟨?_⟩
     refine CW.seq ?_
     refine CW.k XK 69 1 [2,3,29] rfl ?_
     (conv=>whnf);refine ⟨rfl,?_⟩
     refine CW.cond rfl (fun h7 => ?_) (fun h7 => ?_)
     ·skip
      refine CW.k XK 69 1 [4] rfl ?_
      (conv=>whnf);refine ⟨rfl,?_⟩
      refine CW.ret ?_
      exact Post.one (RV.b rfl (by simp_all [eqNode])) (AOs.a rfl (AOs.a rfl AOs.e))
     ·skip
      refine CW.skip ?_
      refine CW.keep 69 [2,3] rfl ?_;(conv=>whnf);refine ⟨?_⟩
      refine CW.seq ?_
      refine CW.seq ?_
      refine CW.region ?_
      refine RW.k XK 69 4 rfl ?_
      (conv=>whnf);refine ⟨rfl,?_⟩
      refine RW.call rfl (laws_eqIntS_fn a.conf b.conf) rfl (.cons (.one (.r .r)) (.cons (.one (.r .r)) (.nil))) fun g8 => ?_
      refine RW.k XK 69 1 rfl ?_
      (conv=>whnf);refine ⟨rfl,?_⟩
      refine RW.nil ?_
      refine CW.keep 69 [2,3,35] rfl ?_;(conv=>whnf);refine ⟨?_⟩
      refine CW.cond rfl (fun h9 => ?_) (fun h9 => ?_)
      ·skip
       refine CW.k XK 69 1 [4] rfl ?_
       (conv=>whnf);refine ⟨rfl,?_⟩
       refine CW.ret ?_
       exact Post.one (RV.b rfl (by simp_all [eqNode])) (AOs.a rfl (AOs.a rfl AOs.e))
      ·skip
       refine CW.skip ?_
       refine CW.keep 69 [2,3] rfl ?_;(conv=>whnf);refine ⟨?_⟩
       refine CW.seq ?_
       refine CW.seq ?_
       refine CW.region ?_
       refine RW.k XK 69 4 rfl ?_
       (conv=>whnf);refine ⟨rfl,?_⟩
       refine RW.call rfl (laws_eqLog_fn a.log b.log) rfl (.cons (.agg (.cons (.r .r) (.cons (.r .r) (.cons (.r .r) (.nil))))) (.cons (.agg (.cons (.r .r) (.cons (.r .r) (.cons (.r .r) (.nil))))) (.nil))) fun g10 => ?_
       refine RW.k XK 69 1 rfl ?_
       (conv=>whnf);refine ⟨rfl,?_⟩
       refine RW.nil ?_
       refine CW.keep 69 [2,3,41] rfl ?_;(conv=>whnf);refine ⟨?_⟩
       refine CW.cond rfl (fun h11 => ?_) (fun h11 => ?_)
       ·skip
        refine CW.k XK 69 1 [4] rfl ?_
        (conv=>whnf);refine ⟨rfl,?_⟩
        refine CW.ret ?_
        exact Post.one (RV.b rfl (by simp_all [eqNode])) (AOs.a rfl (AOs.a rfl AOs.e))
       ·skip
        refine CW.skip ?_
        refine CW.keep 69 [2,3] rfl ?_;(conv=>whnf);refine ⟨?_⟩
        refine CW.seq ?_
        refine CW.k XK 69 1 [2,3,46] rfl ?_
        (conv=>whnf);refine ⟨rfl,?_⟩
        refine CW.cond rfl (fun h12 => ?_) (fun h12 => ?_)
        ·skip
         refine CW.k XK 69 1 [4] rfl ?_
         (conv=>whnf);refine ⟨rfl,?_⟩
         refine CW.ret ?_
         exact Post.one (RV.b rfl (by simp_all [eqNode])) (AOs.a rfl (AOs.a rfl AOs.e))
        ·skip
         refine CW.skip ?_
         refine CW.keep 69 [2,3] rfl ?_;(conv=>whnf);refine ⟨?_⟩
         refine CW.seq ?_
         refine CW.k XK 69 1 [2,3,51] rfl ?_
         (conv=>whnf);refine ⟨rfl,?_⟩
         refine CW.cond rfl (fun h13 => ?_) (fun h13 => ?_)
         ·skip
          refine CW.k XK 69 1 [4] rfl ?_
          (conv=>whnf);refine ⟨rfl,?_⟩
          refine CW.ret ?_
          exact Post.one (RV.b rfl (by simp_all [eqNode])) (AOs.a rfl (AOs.a rfl AOs.e))
         ·skip
          refine CW.skip ?_
          refine CW.keep 69 [2,3] rfl ?_;(conv=>whnf);refine ⟨?_⟩
          refine CW.seq ?_
          refine CW.k XK 69 1 [2,3,56] rfl ?_
          (conv=>whnf);refine ⟨rfl,?_⟩
          refine CW.cond rfl (fun h14 => ?_) (fun h14 => ?_)
          ·skip
           refine CW.k XK 69 1 [4] rfl ?_
           (conv=>whnf);refine ⟨rfl,?_⟩
           refine CW.ret ?_
           exact Post.one (RV.b rfl (by simp_all [eqNode])) (AOs.a rfl (AOs.a rfl AOs.e))
          ·skip
           refine CW.skip ?_
           refine CW.keep 69 [2,3] rfl ?_;(conv=>whnf);refine ⟨?_⟩
           refine CW.seq ?_
           refine CW.seq ?_
           refine CW.region ?_
           refine RW.k XK 69 4 rfl ?_
           (conv=>whnf);refine ⟨rfl,?_⟩
           refine RW.call rfl (laws_eqIntS_fn a.votes b.votes) rfl (.cons (.one (.r .r)) (.cons (.one (.r .r)) (.nil))) fun g15 => ?_
           refine RW.k XK 69 1 rfl ?_
           (conv=>whnf);refine ⟨rfl,?_⟩
           refine RW.nil ?_
           refine CW.keep 69 [2,3,62] rfl ?_;(conv=>whnf);refine ⟨?_⟩
           refine CW.cond rfl (fun h16 => ?_) (fun h16 => ?_)
           ·skip
            refine CW.k XK 69 1 [4] rfl ?_
            (conv=>whnf);refine ⟨rfl,?_⟩
            refine CW.ret ?_
            exact Post.one (RV.b rfl (by simp_all [eqNode])) (AOs.a rfl (AOs.a rfl AOs.e))
           ·skip
            refine CW.skip ?_
            refine CW.keep 69 [2,3] rfl ?_;(conv=>whnf);refine ⟨?_⟩
            refine CW.seq ?_
            refine CW.seq ?_
            refine CW.region ?_
            refine RW.k XK 69 4 rfl ?_
            (conv=>whnf);refine ⟨rfl,?_⟩
            refine RW.call rfl (laws_eqPeerS_fn a.peers b.peers) rfl (.cons (.one (.r .r)) (.cons (.one (.r .r)) (.nil))) fun g17 => ?_
            refine RW.k XK 69 1 rfl ?_
            (conv=>whnf);refine ⟨rfl,?_⟩
            refine RW.nil ?_
            refine CW.keep 69 [68] rfl ?_;(conv=>whnf);refine ⟨?_⟩
            refine CW.cond rfl (fun h18 => ?_) (fun h18 => ?_)
            ·skip
             refine CW.k XK 69 1 [4] rfl ?_
             (conv=>whnf);refine ⟨rfl,?_⟩
             refine CW.ret ?_
             exact Post.one (RV.b rfl (by simp_all [eqNode])) (AOs.a rfl (AOs.a rfl AOs.e))
            ·skip
             refine CW.skip ?_
             refine CW.keep 69 [] rfl ?_;(conv=>whnf);refine ⟨?_⟩
             refine CW.k XK 69 1 [4] rfl ?_
             (conv=>whnf);refine ⟨rfl,?_⟩
             refine CW.ret ?_
             exact Post.one (RV.b rfl (by simp_all [eqNode])) (AOs.a rfl (AOs.a rfl AOs.e))
set_option maxHeartbeats 4000000 in
theorem laws_markText_fn (k : Int) (hk : k ≤ 9223372036854775807) : Eng.Fn E.P 52 [.one (.r (.v (.int .i64 k)))] (.one (.one (.w (.v (.string (mtext k)))))) [.one (.r (.v (.int .i64 k)))] := by
 refine Eng.Fn.intro (E := E) (rvs := [.tmp 2]) Try.func52 rfl rfl rfl (by simp [outSlots, moved, rvSlot, sl]) ?_
 intro B g bo
 refine CW.keep 20 [0] rfl ?_;(conv=>whnf);refine ⟨?_⟩
 refine CW.k XK 20 1 [0] rfl ?_
 (conv=>whnf);refine ⟨rfl,?_⟩
 refine CW.seq ?_
 refine CW.k XK 20 1 [0,5] rfl ?_
 (conv=>whnf);refine ⟨rfl,?_⟩
 refine CW.cond rfl (fun h1 => ?_) (fun h1 => ?_)
 ·skip
  refine CW.k XK 20 1 [2] rfl ?_
  (conv=>whnf);refine ⟨rfl,?_⟩
  refine CW.ret ?_
  exact Post.one (RV.s rfl (by simp_all [mtext])) (AOs.r AOs.e)
 ·skip
  refine CW.skip ?_
  refine CW.keep 20 [0] rfl ?_;(conv=>whnf);refine ⟨?_⟩
  refine CW.k XK 20 1 [0,3] rfl ?_
  (conv=>whnf);refine ⟨rfl,?_⟩
  refine CW.seq ?_
  refine CW.block ?_
  refine CW.loopI 20 (fun (zz : Int × ByteArray) => match zz with | (n, out) => [(0, I n), (3, S out)]) (fun (zz : Int × ByteArray) => match zz with | (n, out) => 0 ≤ n ∧ out.size ≤ 60 ∧ n * 10 ^ out.size ≤ 9223372036854775807 ∧ dgs n.toNat out = dgs k.toNat ⟨#[]⟩) (fun (zz : Int × ByteArray) => match zz with | (n, out) => n.toNat) (_, _) rfl (Le.c rfl <| Le.c rfl <| Le.e) ⟨by simp at h1; omega, by decide, by show k * 10 ^ 0 ≤ _; omega, rfl⟩ ?_
  rintro ⟨n, out⟩ ⟨h0, hs, hp, hr⟩
  refine CW.seq ?_
  refine CW.k XK 20 1 [0,3,7] rfl ?_
  (conv=>whnf);refine ⟨rfl,?_⟩
  refine CW.cond rfl (fun h2 => ?_) (fun h2 => ?_)
  ·skip
   refine CW.skip ?_
   refine CW.keep 20 [0,3] rfl ?_;(conv=>whnf);refine ⟨?_⟩
   refine CW.block ?_
   refine CW.seq ?_
   refine CW.region ?_
   refine RW.k XK 20 4 rfl ?_
   (conv=>whnf);refine ⟨rfl,?_⟩
   refine RW.build1c (c := cU) (v := (IntKind.u8.wrap (IntKind.i64.wrap (48 + (Int.tmod n 10))))) (u := .v (.int .u8 (IntKind.u8.wrap (IntKind.i64.wrap (48 + (Int.tmod n 10)))))) rfl rfl rfl rfl rfl rfl (.inl rfl) rfl rfl fun X3 => ?_
   refine RW.v rfl (V.bytesStr (l := [(IntKind.u8.wrap (IntKind.i64.wrap (48 + (Int.tmod n 10))))]) rfl rfl rfl (by kernel_rfl) (by kernel_rfl) (.al (k := none) (i := 12) (sz := 1) (V := X3) rfl rfl nofun)) ?_
   refine RW.k XK 20 1 rfl ?_
   (conv=>whnf);refine ⟨rfl,?_⟩
   refine RW.v rfl (V.cat rfl rfl rfl (by simp only [bytesOf_one, maxLen]; first | omega | (show 1 + out.size ≤ _; omega))) ?_
   refine RW.k XK 20 1 rfl ?_
   (conv=>whnf);refine ⟨rfl,?_⟩
   refine RW.nil ?_
   refine CW.keep 20 [0,3] rfl ?_;(conv=>whnf);refine ⟨?_⟩
   refine CW.region ?_
   refine RW.k XK 20 3 rfl ?_
   (conv=>whnf);refine ⟨rfl,?_⟩
   refine RW.nil ?_
   exact ⟨(_, _), by have := mt_dec h0 hp h2; simp only []; omega, mt_step h0 hp hr h2, rfl, Le.c rfl <| Le.c rfl <| Le.e⟩
  ·skip
   refine CW.exit ?_
   refine CW.keep 20 [3] rfl ?_;(conv=>whnf);refine ⟨?_⟩
   refine CW.seq ?_
   refine CW.region ?_
   refine RW.k XK 20 1 rfl ?_
   (conv=>whnf);refine ⟨rfl,?_⟩
   refine RW.v rfl (V.cat rfl rfl rfl (by simp only [bytesOf_one, maxLen]; first | omega | (show 1 + out.size ≤ _; omega))) ?_
   refine RW.k XK 20 1 rfl ?_
   (conv=>whnf);refine ⟨rfl,?_⟩
   refine RW.nil ?_
   refine CW.keep 20 [2] rfl ?_;(conv=>whnf);refine ⟨?_⟩
   refine CW.ret ?_
   exact Post.one (RV.s rfl (by rw [mtext_dgs (by simpa using h1), ← hr, dgs, dif_pos (by simp at h2; omega)])) (AOs.r AOs.e)
set_option maxHeartbeats 4000000 in
theorem laws_markIntS_fn (a : List Int) (k : Int) (hk : k ≤ 9223372036854775807) : Eng.Fn E.P 28 [.one (.w (sl 1 cI a)), .one (.r (.v (.int .i64 k)))] (.one (.one (.w (.v (.int .i64 ((mkL mkI a k).2)))))) [.one (.w (sl 1 cI ((mkL mkI a k).1))), .one (.r (.v (.int .i64 k)))] := by
 refine Eng.Fn.intro (E := E) (rvs := [.tmp 4]) Try.func28 rfl rfl rfl (by simp [outSlots, moved, rvSlot, sl]) ?_
 intro B g bo
 refine CW.bound (x := .tmp 0) (n := a.length) (AsT.al rfl rfl nofun) (fun hl0 => ?_)
 refine CW.keep 19 [0,1] rfl ?_;(conv=>whnf);refine ⟨?_⟩
 have hl0b : a.length ≤ maxLen := hl0
 refine CW.k XK 19 1 [0,1] rfl ?_
 (conv=>whnf);refine ⟨rfl,?_⟩
 refine CW.seq ?_
 refine CW.k XK 19 1 [0,1,5] rfl ?_
 (conv=>whnf);refine ⟨rfl,?_⟩
 refine CW.block ?_
 refine CW.loopI 19 (fun (zz : Nat × Int × List Int) => match zz with | (i, l, b) => [(0, .w (sl 1 cI b) (g 0 0)), (1, I l), (5, I (i : Int))]) (fun (zz : Nat × Int × List Int) => match zz with | (i, l, b) => i ≤ b.length ∧ l ≤ 9223372036854775807 ∧ b.length = a.length ∧ b.drop i = a.drop i ∧ (b.take i ++ (mkL mkI (a.drop i) l).1, (mkL mkI (a.drop i) l).2) = mkL mkI a k) (fun (zz : Nat × Int × List Int) => match zz with | (i, l, b) => a.length - i) (0, _, _) rfl (Le.c rfl <| Le.c rfl <| Le.c rfl <| Le.e) ⟨by omega, hk, rfl, rfl, by simp⟩ ?_
 rintro ⟨i, l, b⟩ ⟨hb, hlk, hlen, hdr, hr⟩
 refine CW.seq ?_
 refine CW.k XK 19 1 [0,1,5,9] rfl ?_
 (conv=>whnf);refine ⟨rfl,?_⟩
 refine CW.cond rfl (fun h1 => ?_) (fun h1 => ?_)
 ·skip
  have hii : i < b.length := by have := h1; simp at this; first | exact this | omega | (simp; done) | (simp; omega)
  obtain ⟨ei, hei⟩ : ∃ e, b[i]? = some e := ⟨_, List.getElem?_eq_getElem hii⟩
  have hdi := drop_get hei
  refine CW.skip ?_
  refine CW.keep 19 [0,1,5] rfl ?_;(conv=>whnf);refine ⟨?_⟩
  refine CW.seq ?_
  refine CW.block ?_
  refine CW.seq ?_
  refine CW.region ?_
  refine RW.k XK 19 3 rfl ?_
  (conv=>whnf);refine ⟨rfl,?_⟩
  refine RW.v rfl (V.indexW rfl rfl rfl rfl rfl rfl rfl (by first | omega | (simp; omega))) ?_
  refine RW.storeS1 (v := l) (c := cI) (u := .v (.int .i64 l)) rfl rfl rfl rfl rfl rfl rfl (.inl rfl) rfl cI.len (by first | omega | (simp; omega)) rfl ?_
  refine RW.nil ?_
  refine CW.keep 19 [0,1,5] rfl ?_;(conv=>whnf);refine ⟨?_⟩
  refine CW.region ?_
  refine RW.k XK 19 3 rfl ?_
  (conv=>whnf);refine ⟨rfl,?_⟩
  refine RW.nil ?_
  refine CW.keep 19 [0,1,5] rfl ?_;(conv=>whnf);refine ⟨?_⟩
  refine CW.region ?_
  refine RW.k XK 19 1 rfl ?_
  (conv=>whnf);refine ⟨rfl,?_⟩
  refine RW.v rfl (V.inc rfl rfl rfl hii (by omega)) ?_
  refine RW.k XK 19 1 rfl ?_
  (conv=>whnf);refine ⟨rfl,?_⟩
  refine RW.nil ?_
  exact ⟨(i + 1, (IntKind.i64.wrap (l + 1)), (b.set i l)), by simp only []; omega, mk_step mkI (l) ((IntKind.i64.wrap (l + 1))) hei hlen hdr hr (by first | rfl | simp only [List.set_set]) rfl (by first | exact wrap_le _ | (apply mkL_le; assumption)), rfl, Le.c rfl <| Le.c rfl <| Le.c rfl <| Le.e⟩
 ·skip
  have hii : b.length ≤ i := by have := h1; simp at this; first | exact this | omega | (simp; done) | (simp; omega)
  have hdi : b.drop i = [] := List.drop_eq_nil_of_le hii
  refine CW.exit ?_
  refine CW.keep 19 [0,1] rfl ?_;(conv=>whnf);refine ⟨?_⟩
  refine CW.k XK 19 1 [0,4] rfl ?_
  (conv=>whnf);refine ⟨rfl,?_⟩
  refine CW.ret ?_
  exact Post.one (RV.i rfl (by rw [← hr, ← hdr, hdi]; rfl)) (AOs.w (by show _ = D.w _ _; exact congrArg (fun l => D.w (sl _ cI l) _) (by rw [← hr, ← hdr, hdi]; show b = b.take i ++ []; rw [List.append_nil, List.take_of_length_le hii])) (AOs.r AOs.e))
set_option maxHeartbeats 4000000 in
theorem laws_markEntryS_fn (a : List Entry) (k : Int) (hk : k ≤ 9223372036854775807) : Eng.Fn E.P 17 [.one (.w (sl 3 Entry.c a)), .one (.r (.v (.int .i64 k)))] (.one (.one (.w (.v (.int .i64 ((mkL mkEEntry a k).2)))))) [.one (.w (sl 3 Entry.c ((mkL mkEEntry a k).1))), .one (.r (.v (.int .i64 k)))] := by
 refine Eng.Fn.intro (E := E) (rvs := [.tmp 4]) Try.func17 rfl rfl rfl (by simp [outSlots, moved, rvSlot, sl]) ?_
 intro B g bo
 refine CW.bound (x := .tmp 0) (n := a.length) (AsT.al rfl rfl nofun) (fun hl0 => ?_)
 refine CW.keep 35 [0,1] rfl ?_;(conv=>whnf);refine ⟨?_⟩
 have hl0b : a.length ≤ maxLen := hl0
 refine CW.k XK 35 1 [0,1] rfl ?_
 (conv=>whnf);refine ⟨rfl,?_⟩
 refine CW.seq ?_
 refine CW.k XK 35 1 [0,1,5] rfl ?_
 (conv=>whnf);refine ⟨rfl,?_⟩
 refine CW.block ?_
 refine CW.loopI 35 (fun (zz : Nat × Int × List Entry) => match zz with | (i, l, b) => [(0, .w (sl 3 Entry.c b) (g 0 0)), (1, I l), (5, I (i : Int))]) (fun (zz : Nat × Int × List Entry) => match zz with | (i, l, b) => i ≤ b.length ∧ l ≤ 9223372036854775807 ∧ b.length = a.length ∧ b.drop i = a.drop i ∧ (b.take i ++ (mkL mkEEntry (a.drop i) l).1, (mkL mkEEntry (a.drop i) l).2) = mkL mkEEntry a k) (fun (zz : Nat × Int × List Entry) => match zz with | (i, l, b) => a.length - i) (0, _, _) rfl (Le.c rfl <| Le.c rfl <| Le.c rfl <| Le.e) ⟨by omega, hk, rfl, rfl, by simp⟩ ?_
 rintro ⟨i, l, b⟩ ⟨hb, hlk, hlen, hdr, hr⟩
 refine CW.seq ?_
 refine CW.k XK 35 1 [0,1,5,9] rfl ?_
 (conv=>whnf);refine ⟨rfl,?_⟩
 refine CW.cond rfl (fun h1 => ?_) (fun h1 => ?_)
 ·skip
  have hii : i < b.length := by have := h1; simp at this; first | exact this | omega | (simp; done) | (simp; omega)
  obtain ⟨ei, hei⟩ : ∃ e, b[i]? = some e := ⟨_, List.getElem?_eq_getElem hii⟩
  have hdi := drop_get hei
  refine CW.skip ?_
  refine CW.keep 35 [0,1,5] rfl ?_;(conv=>whnf);refine ⟨?_⟩
  refine CW.seq ?_
  refine CW.block ?_
  refine CW.seq ?_
  refine CW.region ?_
  refine RW.k XK 35 3 rfl ?_
  (conv=>whnf);refine ⟨rfl,?_⟩
  refine RW.v rfl (V.indexW rfl rfl rfl rfl rfl rfl rfl (by first | omega | (simp; omega))) ?_
  refine RW.k XK 35 1 rfl ?_
  (conv=>whnf);refine ⟨rfl,?_⟩
  refine RW.storeF (m := i) (off := 0) (v := ei) (v' := (⟨l, ei.kind, ei.data⟩ : Entry)) (u := .v (.int .i64 l)) (c := Entry.c) rfl rfl rfl rfl rfl rfl rfl (.inl rfl) Entry.len hei (by decide) rfl rfl ?_
  refine RW.nil ?_
  refine CW.keep 35 [0,1,5] rfl ?_;(conv=>whnf);refine ⟨?_⟩
  refine CW.k XK 35 1 [0,1,5] rfl ?_
  (conv=>whnf);refine ⟨rfl,?_⟩
  refine CW.seq ?_
  refine CW.region ?_
  refine RW.k XK 35 3 rfl ?_
  (conv=>whnf);refine ⟨rfl,?_⟩
  refine RW.v rfl (V.indexW rfl rfl rfl rfl rfl rfl rfl (by first | omega | (simp; omega))) ?_
  refine RW.k XK 35 1 rfl ?_
  (conv=>whnf);refine ⟨rfl,?_⟩
  refine RW.storeF (m := i) (off := 1) (v := (⟨l, ei.kind, ei.data⟩ : Entry)) (v' := (⟨l, (IntKind.i64.wrap (l + 1)), ei.data⟩ : Entry)) (u := .v (.int .i64 (IntKind.i64.wrap (l + 1)))) (c := Entry.c) rfl rfl rfl rfl rfl rfl rfl (.inl rfl) Entry.len (List.getElem?_set_self (by first | omega | (simp; omega))) (by decide) rfl rfl ?_
  refine RW.nil ?_
  refine CW.keep 35 [0,1,5] rfl ?_;(conv=>whnf);refine ⟨?_⟩
  refine CW.k XK 35 1 [0,1,5] rfl ?_
  (conv=>whnf);refine ⟨rfl,?_⟩
  refine CW.seq ?_
  refine CW.region ?_
  refine RW.k XK 35 3 rfl ?_
  (conv=>whnf);refine ⟨rfl,?_⟩
  refine RW.call rfl (laws_markText_fn (IntKind.i64.wrap ((IntKind.i64.wrap (l + 1)) + 1)) (by repeat (first | exact hlk | exact wrap_le _ | apply mkL_le | apply mkI_le | apply mkS_le | apply mkB_le | apply mkEEntry_le | apply mkEPeer_le | apply mkEMessage_le))) rfl (.cons (.one (.r .r)) (.nil)) fun g2 => ?_
  refine RW.v rfl (V.indexW rfl rfl rfl rfl rfl rfl rfl (by first | omega | (simp; omega))) ?_
  refine RW.k XK 35 1 rfl ?_
  (conv=>whnf);refine ⟨rfl,?_⟩
  refine RW.storeF (m := i) (off := 2) (v := (⟨l, (IntKind.i64.wrap (l + 1)), ei.data⟩ : Entry)) (v' := (⟨l, (IntKind.i64.wrap (l + 1)), (mtext (IntKind.i64.wrap ((IntKind.i64.wrap (l + 1)) + 1)))⟩ : Entry)) (u := .v (.string (mtext (IntKind.i64.wrap ((IntKind.i64.wrap (l + 1)) + 1))))) (c := Entry.c) rfl rfl rfl rfl rfl rfl rfl (.inl rfl) Entry.len (List.getElem?_set_self (by first | omega | (simp; omega))) (by decide) rfl rfl ?_
  refine RW.nil ?_
  refine CW.keep 35 [0,1,5] rfl ?_;(conv=>whnf);refine ⟨?_⟩
  refine CW.region ?_
  refine RW.k XK 35 3 rfl ?_
  (conv=>whnf);refine ⟨rfl,?_⟩
  refine RW.nil ?_
  refine CW.keep 35 [0,1,5] rfl ?_;(conv=>whnf);refine ⟨?_⟩
  refine CW.region ?_
  refine RW.k XK 35 1 rfl ?_
  (conv=>whnf);refine ⟨rfl,?_⟩
  refine RW.v rfl (V.inc rfl rfl rfl hii (by omega)) ?_
  refine RW.k XK 35 1 rfl ?_
  (conv=>whnf);refine ⟨rfl,?_⟩
  refine RW.nil ?_
  exact ⟨(i + 1, (IntKind.i64.wrap ((IntKind.i64.wrap ((IntKind.i64.wrap (l + 1)) + 1)) + 1)), (((b.set i (⟨l, ei.kind, ei.data⟩ : Entry)).set i (⟨l, (IntKind.i64.wrap (l + 1)), ei.data⟩ : Entry)).set i (⟨l, (IntKind.i64.wrap (l + 1)), (mtext (IntKind.i64.wrap ((IntKind.i64.wrap (l + 1)) + 1)))⟩ : Entry))), by simp only []; omega, mk_step mkEEntry ((⟨l, (IntKind.i64.wrap (l + 1)), (mtext (IntKind.i64.wrap ((IntKind.i64.wrap (l + 1)) + 1)))⟩ : Entry)) ((IntKind.i64.wrap ((IntKind.i64.wrap ((IntKind.i64.wrap (l + 1)) + 1)) + 1))) hei hlen hdr hr (by first | rfl | simp only [List.set_set]) rfl (by first | exact wrap_le _ | (apply mkL_le; assumption)), rfl, Le.c rfl <| Le.c rfl <| Le.c rfl <| Le.e⟩
 ·skip
  have hii : b.length ≤ i := by have := h1; simp at this; first | exact this | omega | (simp; done) | (simp; omega)
  have hdi : b.drop i = [] := List.drop_eq_nil_of_le hii
  refine CW.exit ?_
  refine CW.keep 35 [0,1] rfl ?_;(conv=>whnf);refine ⟨?_⟩
  refine CW.k XK 35 1 [0,4] rfl ?_
  (conv=>whnf);refine ⟨rfl,?_⟩
  refine CW.ret ?_
  exact Post.one (RV.i rfl (by rw [← hr, ← hdr, hdi]; rfl)) (AOs.w (by show _ = D.w _ _; exact congrArg (fun l => D.w (sl _ Entry.c l) _) (by rw [← hr, ← hdr, hdi]; show b = b.take i ++ []; rw [List.append_nil, List.take_of_length_le hii])) (AOs.r AOs.e))
set_option maxHeartbeats 4000000 in
theorem laws_markLog_fn (a : Log) (k : Int) (hk : k ≤ 9223372036854775807) : Eng.Fn E.P 76 [.agg ((Log.c a).map .w), .one (.r (.v (.int .i64 k)))] (.one (.one (.w (.v (.int .i64 ((mkVLog a k).2)))))) [.agg ((Log.c ((mkVLog a k).1)).map .w), .one (.r (.v (.int .i64 k)))] := by
 refine Eng.Fn.intro (E := E) (rvs := [.tmp 4]) Try.func76 rfl rfl rfl (by simp [outSlots, moved, rvSlot, sl]) ?_
 intro B g bo
 refine CW.keep 10 [0,1] rfl ?_;(conv=>whnf);refine ⟨?_⟩
 refine CW.k XK 10 1 [0,1,2] rfl ?_
 (conv=>whnf);intro b1;(conv=>whnf);refine ⟨rfl,?_⟩
 refine CW.seq ?_
 refine CW.region ?_
 refine RW.k XK 10 3 rfl ?_
 (conv=>whnf);refine ⟨rfl,?_⟩
 refine RW.callW (k := 0) (laws_markEntryS_fn a.entries k (by repeat (first | exact hk | apply mkL_le | apply mkI_le | apply mkS_le | apply mkB_le | apply mkEEntry_le | apply mkEPeer_le | apply mkEMessage_le | apply mkVLog_le | apply mkVNode_le))) rfl rfl (Nat.le_of_ble_eq_true rfl) (by decide) (.here (AsW.cellA rfl) (.cons (.one (.r .r)) (.nil))) rfl fun g2 q3 => ?_
 refine RW.k XK 10 1 rfl ?_
 (conv=>whnf);refine ⟨rfl,?_⟩
 refine RW.nil ?_
 refine CW.keep 10 [0,1] rfl ?_;(conv=>whnf);refine ⟨?_⟩
 refine CW.k XK 10 1 [0,4] rfl ?_
 (conv=>whnf);refine ⟨rfl,?_⟩
 refine CW.ret ?_
 exact Post.one (RV.i rfl (by rfl)) (AOs.ag rfl (AOc.r rfl (AOc.r rfl (AOc.w rfl AOc.e))) (AOs.r AOs.e))
set_option maxHeartbeats 4000000 in
theorem laws_markPeerS_fn (a : List Peer) (k : Int) (hk : k ≤ 9223372036854775807) : Eng.Fn E.P 77 [.one (.w (sl 4 Peer.c a)), .one (.r (.v (.int .i64 k)))] (.one (.one (.w (.v (.int .i64 ((mkL mkEPeer a k).2)))))) [.one (.w (sl 4 Peer.c ((mkL mkEPeer a k).1))), .one (.r (.v (.int .i64 k)))] := by
 refine Eng.Fn.intro (E := E) (rvs := [.tmp 4]) Try.func77 rfl rfl rfl (by simp [outSlots, moved, rvSlot, sl]) ?_
 intro B g bo
 refine CW.bound (x := .tmp 0) (n := a.length) (AsT.al rfl rfl nofun) (fun hl0 => ?_)
 refine CW.keep 41 [0,1] rfl ?_;(conv=>whnf);refine ⟨?_⟩
 have hl0b : a.length ≤ maxLen := hl0
 refine CW.k XK 41 1 [0,1] rfl ?_
 (conv=>whnf);refine ⟨rfl,?_⟩
 refine CW.seq ?_
 refine CW.k XK 41 1 [0,1,5] rfl ?_
 (conv=>whnf);refine ⟨rfl,?_⟩
 refine CW.block ?_
 refine CW.loopI 41 (fun (zz : Nat × Int × List Peer) => match zz with | (i, l, b) => [(0, .w (sl 4 Peer.c b) (g 0 0)), (1, I l), (5, I (i : Int))]) (fun (zz : Nat × Int × List Peer) => match zz with | (i, l, b) => i ≤ b.length ∧ l ≤ 9223372036854775807 ∧ b.length = a.length ∧ b.drop i = a.drop i ∧ (b.take i ++ (mkL mkEPeer (a.drop i) l).1, (mkL mkEPeer (a.drop i) l).2) = mkL mkEPeer a k) (fun (zz : Nat × Int × List Peer) => match zz with | (i, l, b) => a.length - i) (0, _, _) rfl (Le.c rfl <| Le.c rfl <| Le.c rfl <| Le.e) ⟨by omega, hk, rfl, rfl, by simp⟩ ?_
 rintro ⟨i, l, b⟩ ⟨hb, hlk, hlen, hdr, hr⟩
 refine CW.seq ?_
 refine CW.k XK 41 1 [0,1,5,9] rfl ?_
 (conv=>whnf);refine ⟨rfl,?_⟩
 refine CW.cond rfl (fun h1 => ?_) (fun h1 => ?_)
 ·skip
  have hii : i < b.length := by have := h1; simp at this; first | exact this | omega | (simp; done) | (simp; omega)
  obtain ⟨ei, hei⟩ : ∃ e, b[i]? = some e := ⟨_, List.getElem?_eq_getElem hii⟩
  have hdi := drop_get hei
  refine CW.skip ?_
  refine CW.keep 41 [0,1,5] rfl ?_;(conv=>whnf);refine ⟨?_⟩
  refine CW.seq ?_
  refine CW.block ?_
  refine CW.seq ?_
  refine CW.region ?_
  refine RW.k XK 41 3 rfl ?_
  (conv=>whnf);refine ⟨rfl,?_⟩
  refine RW.v rfl (V.indexW rfl rfl rfl rfl rfl rfl rfl (by first | omega | (simp; omega))) ?_
  refine RW.k XK 41 1 rfl ?_
  (conv=>whnf);refine ⟨rfl,?_⟩
  refine RW.storeF (m := i) (off := 0) (v := ei) (v' := (⟨l, ei.next, ei.match_, ei.sent⟩ : Peer)) (u := .v (.int .i64 l)) (c := Peer.c) rfl rfl rfl rfl rfl rfl rfl (.inl rfl) Peer.len hei (by decide) rfl rfl ?_
  refine RW.nil ?_
  refine CW.keep 41 [0,1,5] rfl ?_;(conv=>whnf);refine ⟨?_⟩
  refine CW.k XK 41 1 [0,1,5] rfl ?_
  (conv=>whnf);refine ⟨rfl,?_⟩
  refine CW.seq ?_
  refine CW.region ?_
  refine RW.k XK 41 3 rfl ?_
  (conv=>whnf);refine ⟨rfl,?_⟩
  refine RW.v rfl (V.indexW rfl rfl rfl rfl rfl rfl rfl (by first | omega | (simp; omega))) ?_
  refine RW.k XK 41 1 rfl ?_
  (conv=>whnf);refine ⟨rfl,?_⟩
  refine RW.storeF (m := i) (off := 1) (v := (⟨l, ei.next, ei.match_, ei.sent⟩ : Peer)) (v' := (⟨l, (IntKind.i64.wrap (l + 1)), ei.match_, ei.sent⟩ : Peer)) (u := .v (.int .i64 (IntKind.i64.wrap (l + 1)))) (c := Peer.c) rfl rfl rfl rfl rfl rfl rfl (.inl rfl) Peer.len (List.getElem?_set_self (by first | omega | (simp; omega))) (by decide) rfl rfl ?_
  refine RW.nil ?_
  refine CW.keep 41 [0,1,5] rfl ?_;(conv=>whnf);refine ⟨?_⟩
  refine CW.k XK 41 1 [0,1,5] rfl ?_
  (conv=>whnf);refine ⟨rfl,?_⟩
  refine CW.seq ?_
  refine CW.region ?_
  refine RW.k XK 41 3 rfl ?_
  (conv=>whnf);refine ⟨rfl,?_⟩
  refine RW.v rfl (V.indexW rfl rfl rfl rfl rfl rfl rfl (by first | omega | (simp; omega))) ?_
  refine RW.k XK 41 1 rfl ?_
  (conv=>whnf);refine ⟨rfl,?_⟩
  refine RW.storeF (m := i) (off := 2) (v := (⟨l, (IntKind.i64.wrap (l + 1)), ei.match_, ei.sent⟩ : Peer)) (v' := (⟨l, (IntKind.i64.wrap (l + 1)), (IntKind.i64.wrap ((IntKind.i64.wrap (l + 1)) + 1)), ei.sent⟩ : Peer)) (u := .v (.int .i64 (IntKind.i64.wrap ((IntKind.i64.wrap (l + 1)) + 1)))) (c := Peer.c) rfl rfl rfl rfl rfl rfl rfl (.inl rfl) Peer.len (List.getElem?_set_self (by first | omega | (simp; omega))) (by decide) rfl rfl ?_
  refine RW.nil ?_
  refine CW.keep 41 [0,1,5] rfl ?_;(conv=>whnf);refine ⟨?_⟩
  refine CW.k XK 41 1 [0,1,5] rfl ?_
  (conv=>whnf);refine ⟨rfl,?_⟩
  refine CW.seq ?_
  refine CW.region ?_
  refine RW.k XK 41 3 rfl ?_
  (conv=>whnf);refine ⟨rfl,?_⟩
  refine RW.v rfl (V.indexW rfl rfl rfl rfl rfl rfl rfl (by first | omega | (simp; omega))) ?_
  refine RW.k XK 41 1 rfl ?_
  (conv=>whnf);refine ⟨rfl,?_⟩
  refine RW.storeF (m := i) (off := 3) (v := (⟨l, (IntKind.i64.wrap (l + 1)), (IntKind.i64.wrap ((IntKind.i64.wrap (l + 1)) + 1)), ei.sent⟩ : Peer)) (v' := (⟨l, (IntKind.i64.wrap (l + 1)), (IntKind.i64.wrap ((IntKind.i64.wrap (l + 1)) + 1)), (IntKind.i64.wrap ((IntKind.i64.wrap ((IntKind.i64.wrap (l + 1)) + 1)) + 1))⟩ : Peer)) (u := .v (.int .i64 (IntKind.i64.wrap ((IntKind.i64.wrap ((IntKind.i64.wrap (l + 1)) + 1)) + 1)))) (c := Peer.c) rfl rfl rfl rfl rfl rfl rfl (.inl rfl) Peer.len (List.getElem?_set_self (by first | omega | (simp; omega))) (by decide) rfl rfl ?_
  refine RW.nil ?_
  refine CW.keep 41 [0,1,5] rfl ?_;(conv=>whnf);refine ⟨?_⟩
  refine CW.region ?_
  refine RW.k XK 41 3 rfl ?_
  (conv=>whnf);refine ⟨rfl,?_⟩
  refine RW.nil ?_
  refine CW.keep 41 [0,1,5] rfl ?_;(conv=>whnf);refine ⟨?_⟩
  refine CW.region ?_
  refine RW.k XK 41 1 rfl ?_
  (conv=>whnf);refine ⟨rfl,?_⟩
  refine RW.v rfl (V.inc rfl rfl rfl hii (by omega)) ?_
  refine RW.k XK 41 1 rfl ?_
  (conv=>whnf);refine ⟨rfl,?_⟩
  refine RW.nil ?_
  exact ⟨(i + 1, (IntKind.i64.wrap ((IntKind.i64.wrap ((IntKind.i64.wrap ((IntKind.i64.wrap (l + 1)) + 1)) + 1)) + 1)), ((((b.set i (⟨l, ei.next, ei.match_, ei.sent⟩ : Peer)).set i (⟨l, (IntKind.i64.wrap (l + 1)), ei.match_, ei.sent⟩ : Peer)).set i (⟨l, (IntKind.i64.wrap (l + 1)), (IntKind.i64.wrap ((IntKind.i64.wrap (l + 1)) + 1)), ei.sent⟩ : Peer)).set i (⟨l, (IntKind.i64.wrap (l + 1)), (IntKind.i64.wrap ((IntKind.i64.wrap (l + 1)) + 1)), (IntKind.i64.wrap ((IntKind.i64.wrap ((IntKind.i64.wrap (l + 1)) + 1)) + 1))⟩ : Peer))), by simp only []; omega, mk_step mkEPeer ((⟨l, (IntKind.i64.wrap (l + 1)), (IntKind.i64.wrap ((IntKind.i64.wrap (l + 1)) + 1)), (IntKind.i64.wrap ((IntKind.i64.wrap ((IntKind.i64.wrap (l + 1)) + 1)) + 1))⟩ : Peer)) ((IntKind.i64.wrap ((IntKind.i64.wrap ((IntKind.i64.wrap ((IntKind.i64.wrap (l + 1)) + 1)) + 1)) + 1))) hei hlen hdr hr (by first | rfl | simp only [List.set_set]) rfl (by first | exact wrap_le _ | (apply mkL_le; assumption)), rfl, Le.c rfl <| Le.c rfl <| Le.c rfl <| Le.e⟩
 ·skip
  have hii : b.length ≤ i := by have := h1; simp at this; first | exact this | omega | (simp; done) | (simp; omega)
  have hdi : b.drop i = [] := List.drop_eq_nil_of_le hii
  refine CW.exit ?_
  refine CW.keep 41 [0,1] rfl ?_;(conv=>whnf);refine ⟨?_⟩
  refine CW.k XK 41 1 [0,4] rfl ?_
  (conv=>whnf);refine ⟨rfl,?_⟩
  refine CW.ret ?_
  exact Post.one (RV.i rfl (by rw [← hr, ← hdr, hdi]; rfl)) (AOs.w (by show _ = D.w _ _; exact congrArg (fun l => D.w (sl _ Peer.c l) _) (by rw [← hr, ← hdr, hdi]; show b = b.take i ++ []; rw [List.append_nil, List.take_of_length_le hii])) (AOs.r AOs.e))
set_option maxHeartbeats 4000000 in
theorem laws_markNode_fn (a : Node) (k : Int) (hk : k ≤ 9223372036854775807) : Eng.Fn E.P 29 [.agg ((Node.c a).map .w), .one (.r (.v (.int .i64 k)))] (.one (.one (.w (.v (.int .i64 ((mkVNode a k).2)))))) [.agg ((Node.c ((mkVNode a k).1)).map .w), .one (.r (.v (.int .i64 k)))] := by
 refine Eng.Fn.intro (E := E) (rvs := [.tmp 4]) Try.func29 rfl rfl rfl (by simp [outSlots, moved, rvSlot, sl]) ?_
 intro B g bo
 refine CW.keep 22 [0,1] rfl ?_;(conv=>whnf);refine ⟨?_⟩
 refine CW.k XK 22 1 [0,1,2] rfl ?_
 (conv=>whnf);intro b1;(conv=>whnf);refine ⟨rfl,?_⟩
 refine CW.seq ?_
 refine CW.region ?_
 refine RW.k XK 22 3 rfl ?_
 (conv=>whnf);refine ⟨rfl,?_⟩
 refine RW.callW (k := 0) (laws_markIntS_fn a.conf k (by repeat (first | exact hk | apply mkL_le | apply mkI_le | apply mkS_le | apply mkB_le | apply mkEEntry_le | apply mkEPeer_le | apply mkEMessage_le | apply mkVLog_le | apply mkVNode_le))) rfl rfl (Nat.le_of_ble_eq_true rfl) (by decide) (.here (AsW.cellA rfl) (.cons (.one (.r .r)) (.nil))) rfl fun g2 q3 => ?_
 refine RW.k XK 22 1 rfl ?_
 (conv=>whnf);refine ⟨rfl,?_⟩
 refine RW.nil ?_
 refine CW.keep 22 [0,1,2] rfl ?_;(conv=>whnf);refine ⟨?_⟩
 refine CW.seq ?_
 refine CW.region ?_
 refine RW.k XK 22 3 rfl ?_
 (conv=>whnf);refine ⟨rfl,?_⟩
 refine RW.callW (k := 0) (laws_markLog_fn a.log ((mkL mkI a.conf k).2) (by repeat (first | exact hk | apply mkL_le | apply mkI_le | apply mkS_le | apply mkB_le | apply mkEEntry_le | apply mkEPeer_le | apply mkEMessage_le | apply mkVLog_le | apply mkVNode_le))) rfl rfl (Nat.le_of_ble_eq_true rfl) (by decide) (.here (AsW.partA rfl (One.there (One.there (One.here (xs := []))))) (.cons (.one (.r .r)) (.nil))) rfl fun g4 q5 => ?_
 refine RW.k XK 22 1 rfl ?_
 (conv=>whnf);refine ⟨rfl,?_⟩
 refine RW.nil ?_
 refine CW.keep 22 [0,1,2] rfl ?_;(conv=>whnf);refine ⟨?_⟩
 refine CW.seq ?_
 refine CW.region ?_
 refine RW.k XK 22 3 rfl ?_
 (conv=>whnf);refine ⟨rfl,?_⟩
 refine RW.callW (k := 0) (laws_markIntS_fn a.votes ((mkVLog a.log ((mkL mkI a.conf k).2)).2) (by repeat (first | exact hk | apply mkL_le | apply mkI_le | apply mkS_le | apply mkB_le | apply mkEEntry_le | apply mkEPeer_le | apply mkEMessage_le | apply mkVLog_le | apply mkVNode_le))) rfl rfl (Nat.le_of_ble_eq_true rfl) (by decide) (.here (AsW.cellA rfl) (.cons (.one (.r .r)) (.nil))) rfl fun g6 q7 => ?_
 refine RW.k XK 22 1 rfl ?_
 (conv=>whnf);refine ⟨rfl,?_⟩
 refine RW.nil ?_
 refine CW.keep 22 [0,1,2] rfl ?_;(conv=>whnf);refine ⟨?_⟩
 refine CW.seq ?_
 refine CW.region ?_
 refine RW.k XK 22 3 rfl ?_
 (conv=>whnf);refine ⟨rfl,?_⟩
 refine RW.callW (k := 0) (laws_markPeerS_fn a.peers ((mkL mkI a.votes ((mkVLog a.log ((mkL mkI a.conf k).2)).2)).2) (by repeat (first | exact hk | apply mkL_le | apply mkI_le | apply mkS_le | apply mkB_le | apply mkEEntry_le | apply mkEPeer_le | apply mkEMessage_le | apply mkVLog_le | apply mkVNode_le))) rfl rfl (Nat.le_of_ble_eq_true rfl) (by decide) (.here (AsW.cellA rfl) (.cons (.one (.r .r)) (.nil))) rfl fun g8 q9 => ?_
 refine RW.k XK 22 1 rfl ?_
 (conv=>whnf);refine ⟨rfl,?_⟩
 refine RW.nil ?_
 refine CW.keep 22 [0,1] rfl ?_;(conv=>whnf);refine ⟨?_⟩
 refine CW.k XK 22 1 [0,4] rfl ?_
 (conv=>whnf);refine ⟨rfl,?_⟩
 refine CW.ret ?_
 exact Post.one (RV.i rfl (by rfl)) (AOs.ag rfl (AOc.r rfl (AOc.r rfl (AOc.r rfl (AOc.r rfl (AOc.r rfl (AOc.w rfl (AOc.r rfl (AOc.r rfl (AOc.w rfl (AOc.r rfl (AOc.r rfl (AOc.r rfl (AOc.w rfl (AOc.w rfl AOc.e)))))))))))))) (AOs.r AOs.e))
set_option maxHeartbeats 4000000 in
theorem laws_heldIntS_fn (a : List Int) (k : Int) (hk : k ≤ 9223372036854775807) : Eng.Fn E.P 78 [.one (.r (sl 1 cI a)), .one (.r (.v (.int .i64 k)))] (.one (.one (.w (.v (.int .i64 ((hdL hdI a k).getD (-1))))))) [.one (.r (sl 1 cI a)), .one (.r (.v (.int .i64 k)))] := by
 refine Eng.Fn.intro (E := E) (rvs := [.tmp 4]) Try.func78 rfl rfl rfl (by simp [outSlots, moved, rvSlot, sl]) ?_
 intro B g bo
 refine CW.bound (x := .tmp 0) (n := a.length) (AsT.r) (fun hl0 => ?_)
 refine CW.keep 21 [0,1] rfl ?_;(conv=>whnf);refine ⟨?_⟩
 refine CW.k XK 21 1 [0,1] rfl ?_
 (conv=>whnf);refine ⟨rfl,?_⟩
 refine CW.seq ?_
 refine CW.k XK 21 1 [0,1,5] rfl ?_
 (conv=>whnf);refine ⟨rfl,?_⟩
 refine CW.block ?_
 refine CW.loopI 21 (fun (zz : Nat × Int) => match zz with | (i, l) => [(0, .r (sl 1 cI a)), (1, I l), (5, I (i : Int))]) (fun (zz : Nat × Int) => match zz with | (i, l) => i ≤ a.length ∧ l ≤ 9223372036854775807 ∧ hdL hdI (a.drop i) l = hdL hdI a k) (fun (zz : Nat × Int) => match zz with | (i, l) => a.length - i) (0, _) rfl (Le.c rfl <| Le.c rfl <| Le.c rfl <| Le.e) ⟨by omega, hk, by simp⟩ ?_
 rintro ⟨i, l⟩ ⟨hb, hlk, hr⟩
 refine CW.seq ?_
 refine CW.k XK 21 1 [0,1,5,9] rfl ?_
 (conv=>whnf);refine ⟨rfl,?_⟩
 refine CW.cond rfl (fun h1 => ?_) (fun h1 => ?_)
 ·skip
  have hii : i < a.length := by have := h1; simp at this; first | exact this | omega | (simp; done) | (simp; omega)
  obtain ⟨ei, hei⟩ : ∃ e, a[i]? = some e := ⟨_, List.getElem?_eq_getElem hii⟩
  have hdi := drop_get hei
  refine CW.skip ?_
  refine CW.keep 21 [0,1,5] rfl ?_;(conv=>whnf);refine ⟨?_⟩
  refine CW.seq ?_
  refine CW.block ?_
  refine CW.seq ?_
  refine CW.seq ?_
  refine CW.region ?_
  refine RW.k XK 21 2 rfl ?_
  (conv=>whnf);refine ⟨rfl,?_⟩
  refine RW.v rfl (V.indexS rfl rfl rfl rfl rfl rfl cI.len hei) ?_
  refine RW.k XK 21 3 rfl ?_
  (conv=>whnf);refine ⟨rfl,?_⟩
  refine RW.nil ?_
  refine CW.keep 21 [0,1,5,17] rfl ?_;(conv=>whnf);refine ⟨?_⟩
  refine CW.cond rfl (fun h2 => ?_) (fun h2 => ?_)
  ·skip
   refine CW.k XK 21 1 [4] rfl ?_
   (conv=>whnf);refine ⟨rfl,?_⟩
   refine CW.ret ?_
   exact Post.one (RV.i rfl (by rw [← hr, hdi]; clear hr; first | rfl | (simp_all [hdL, hdI, inc]; done) | grind [hdL, hdI, inc])) (AOs.r (AOs.r AOs.e))
  ·skip
   refine CW.skip ?_
   refine CW.keep 21 [0,1,5] rfl ?_;(conv=>whnf);refine ⟨?_⟩
   refine CW.region ?_
   refine RW.k XK 21 3 rfl ?_
   (conv=>whnf);refine ⟨rfl,?_⟩
   refine RW.nil ?_
   refine CW.keep 21 [0,1,5] rfl ?_;(conv=>whnf);refine ⟨?_⟩
   refine CW.region ?_
   refine RW.k XK 21 1 rfl ?_
   (conv=>whnf);refine ⟨rfl,?_⟩
   refine RW.v rfl (V.inc rfl rfl rfl hii hl0) ?_
   refine RW.k XK 21 1 rfl ?_
   (conv=>whnf);refine ⟨rfl,?_⟩
   refine RW.nil ?_
   exact ⟨(i + 1, _), by simp only []; omega, ⟨by omega, by first | exact wrap_le _ | omega, by rw [← hr, hdi]; clear hr; first | rfl | (simp_all [hdL, hdI, inc]; done) | grind [hdL, hdI, inc]⟩, rfl, Le.c rfl <| Le.c rfl <| Le.c rfl <| Le.e⟩
 ·skip
  have hii : a.length ≤ i := by have := h1; simp at this; first | exact this | omega | (simp; done) | (simp; omega)
  have hdi : a.drop i = [] := List.drop_eq_nil_of_le hii
  refine CW.exit ?_
  refine CW.keep 21 [1] rfl ?_;(conv=>whnf);refine ⟨?_⟩
  refine CW.k XK 21 1 [4] rfl ?_
  (conv=>whnf);refine ⟨rfl,?_⟩
  refine CW.ret ?_
  exact Post.one (RV.i rfl (by rw [← hr, hdi]; clear hr; first | rfl | (simp_all [hdL, hdI, inc]; done) | grind [hdL, hdI, inc])) (AOs.r (AOs.r AOs.e))
set_option maxHeartbeats 4000000 in
theorem laws_heldEntryS_fn (a : List Entry) (k : Int) (hk : k ≤ 9223372036854775807) : Eng.Fn E.P 18 [.one (.r (sl 3 Entry.c a)), .one (.r (.v (.int .i64 k)))] (.one (.one (.w (.v (.int .i64 ((hdL hdEEntry a k).getD (-1))))))) [.one (.r (sl 3 Entry.c a)), .one (.r (.v (.int .i64 k)))] := by
 refine Eng.Fn.intro (E := E) (rvs := [.tmp 4]) Try.func18 rfl rfl rfl (by simp [outSlots, moved, rvSlot, sl]) ?_
 intro B g bo
 refine CW.bound (x := .tmp 0) (n := a.length) (AsT.r) (fun hl0 => ?_)
 refine CW.keep 41 [0,1] rfl ?_;(conv=>whnf);refine ⟨?_⟩
 refine CW.k XK 41 1 [0,1] rfl ?_
 (conv=>whnf);refine ⟨rfl,?_⟩
 refine CW.seq ?_
 refine CW.k XK 41 1 [0,1,5] rfl ?_
 (conv=>whnf);refine ⟨rfl,?_⟩
 refine CW.block ?_
 refine CW.loopI 41 (fun (zz : Nat × Int) => match zz with | (i, l) => [(0, .r (sl 3 Entry.c a)), (1, I l), (5, I (i : Int))]) (fun (zz : Nat × Int) => match zz with | (i, l) => i ≤ a.length ∧ l ≤ 9223372036854775807 ∧ hdL hdEEntry (a.drop i) l = hdL hdEEntry a k) (fun (zz : Nat × Int) => match zz with | (i, l) => a.length - i) (0, _) rfl (Le.c rfl <| Le.c rfl <| Le.c rfl <| Le.e) ⟨by omega, hk, by simp⟩ ?_
 rintro ⟨i, l⟩ ⟨hb, hlk, hr⟩
 refine CW.seq ?_
 refine CW.k XK 41 1 [0,1,5,9] rfl ?_
 (conv=>whnf);refine ⟨rfl,?_⟩
 refine CW.cond rfl (fun h1 => ?_) (fun h1 => ?_)
 ·skip
  have hii : i < a.length := by have := h1; simp at this; first | exact this | omega | (simp; done) | (simp; omega)
  obtain ⟨ei, hei⟩ : ∃ e, a[i]? = some e := ⟨_, List.getElem?_eq_getElem hii⟩
  have hdi := drop_get hei
  refine CW.skip ?_
  refine CW.keep 41 [0,1,5] rfl ?_;(conv=>whnf);refine ⟨?_⟩
  refine CW.seq ?_
  refine CW.block ?_
  refine CW.seq ?_
  refine CW.seq ?_
  refine CW.region ?_
  refine RW.k XK 41 2 rfl ?_
  (conv=>whnf);refine ⟨rfl,?_⟩
  refine RW.v rfl (V.indexS rfl rfl rfl rfl rfl rfl Entry.len hei) ?_
  refine RW.k XK 41 4 rfl ?_
  (conv=>whnf);refine ⟨rfl,?_⟩
  refine RW.nil ?_
  refine CW.keep 41 [0,1,5,18] rfl ?_;(conv=>whnf);refine ⟨?_⟩
  refine CW.cond rfl (fun h2 => ?_) (fun h2 => ?_)
  ·skip
   refine CW.k XK 41 1 [4] rfl ?_
   (conv=>whnf);refine ⟨rfl,?_⟩
   refine CW.ret ?_
   exact Post.one (RV.i rfl (by rw [← hr, hdi]; clear hr; first | rfl | (simp_all [hdL, hdEEntry, hdI, hdS, inc]; done) | grind [hdL, hdEEntry, hdI, hdS, inc])) (AOs.r (AOs.r AOs.e))
  ·skip
   refine CW.skip ?_
   refine CW.keep 41 [0,1,5] rfl ?_;(conv=>whnf);refine ⟨?_⟩
   refine CW.k XK 41 1 [0,1,5] rfl ?_
   (conv=>whnf);refine ⟨rfl,?_⟩
   refine CW.seq ?_
   refine CW.seq ?_
   refine CW.region ?_
   refine RW.k XK 41 2 rfl ?_
   (conv=>whnf);refine ⟨rfl,?_⟩
   refine RW.v rfl (V.indexS rfl rfl rfl rfl rfl rfl Entry.len hei) ?_
   refine RW.k XK 41 4 rfl ?_
   (conv=>whnf);refine ⟨rfl,?_⟩
   refine RW.nil ?_
   refine CW.keep 41 [0,1,5,27] rfl ?_;(conv=>whnf);refine ⟨?_⟩
   refine CW.cond rfl (fun h3 => ?_) (fun h3 => ?_)
   ·skip
    refine CW.k XK 41 1 [4] rfl ?_
    (conv=>whnf);refine ⟨rfl,?_⟩
    refine CW.ret ?_
    exact Post.one (RV.i rfl (by rw [← hr, hdi]; clear hr; first | rfl | (simp_all [hdL, hdEEntry, hdI, hdS, inc]; done) | grind [hdL, hdEEntry, hdI, hdS, inc])) (AOs.r (AOs.r AOs.e))
   ·skip
    refine CW.skip ?_
    refine CW.keep 41 [0,1,5] rfl ?_;(conv=>whnf);refine ⟨?_⟩
    refine CW.k XK 41 1 [0,1,5] rfl ?_
    (conv=>whnf);refine ⟨rfl,?_⟩
    refine CW.seq ?_
    refine CW.anyJ2 (fc := []) (L0 := [(0, .r (sl 3 Entry.c a)), (1, I (IntKind.i64.wrap ((IntKind.i64.wrap (l + 1)) + 1))), (5, I (i : Int))]) 41 (fun (go4_6_1 : (Nat → Nat → Value)) => [(37, Bo (!(ei.data.toList == (mtext (IntKind.i64.wrap ((IntKind.i64.wrap (l + 1)) + 1))).toList)))]) (fun all hall f hf b0 hb K hK => ?_) ?_
    ·skip
     have ro4_1 : ∀ B, ∀ (go4_6_1 : Nat → Nat → Value), RA f E B all 0 (bt 8 255) ⟨41, [(37, Bo (!(ei.data.toList == (mtext (IntKind.i64.wrap ((IntKind.i64.wrap (l + 1)) + 1))).toList)))] ++ b0⟩ K := by
      intro B go4_6_1
      exact RA.of2 hall hf hb (RA.finH (Tell.of rfl) (by kernel_rfl) (hK go4_6_1 _ rfl (Le.of rfl)))
     have ro4_0 : ∀ B, RA f E B all 2 (bt 8 63) ⟨41, [(34, S ei.data), (35, I (IntKind.i64.wrap ((IntKind.i64.wrap (l + 1)) + 1)))] ++ b0⟩ K := by
      intro B
      refine RA.of2 hall hf hb (RA.stepH (L := [6]) (Tell.of rfl) (by kernel_rfl) (by simp) (RA.each ?_ (RA.each0)))
      ·skip
       refine RO.call rfl rfl (laws_markText_fn (IntKind.i64.wrap ((IntKind.i64.wrap (l + 1)) + 1)) (by first | exact hlk | exact wrap_le _)) rfl (.cons (.one (.r .r)) (.nil)) rfl fun go4_6_1 => ?_
       refine RA.fr XK 41 0 [7] (bt 8 255) rfl rfl (by kernel_rfl) (Tell.of rfl) ?_
       (conv=>whnf);refine ⟨rfl,fun B=>?_⟩
       exact RA.to2 hall hf hb (ro4_1 B go4_6_1) rfl rfl (by kernel_rfl)
     refine RA.start (by kernel_rfl) (by kernel_rfl) (m := 8) (ls' := (bt 8 0)) ?_
     refine RA.fr XK 41 6 [0,1] (bt 8 3) rfl rfl (by kernel_rfl) (Tell.of rfl) ?_
     (conv=>whnf);refine ⟨rfl,fun B=>?_⟩
     refine RA.first (i := 2) (ls' := (bt 8 7)) (Tell.of rfl) (by kernel_rfl) rfl rfl rfl (VF.p (V.indexS rfl rfl rfl rfl rfl rfl Entry.len hei)) ?_
     refine RA.fr XK 41 2 [3,4,5] (bt 8 63) rfl rfl (by kernel_rfl) (Tell.of rfl) ?_
     (conv=>whnf);refine ⟨rfl,fun B=>?_⟩
     exact RA.to2 hall hf hb (ro4_0 B) rfl rfl (by kernel_rfl)
    ·rintro go4_6_1
     refine CW.cond rfl (fun h5 => ?_) (fun h5 => ?_)
     ·skip
      refine CW.k XK 41 1 [4] rfl ?_
      (conv=>whnf);refine ⟨rfl,?_⟩
      refine CW.ret ?_
      exact Post.one (RV.i rfl (by rw [← hr, hdi]; clear hr; first | rfl | (simp_all [hdL, hdEEntry, hdI, hdS, inc]; done) | grind [hdL, hdEEntry, hdI, hdS, inc])) (AOs.r (AOs.r AOs.e))
     ·skip
      refine CW.skip ?_
      refine CW.keep 41 [0,1,5] rfl ?_;(conv=>whnf);refine ⟨?_⟩
      refine CW.region ?_
      refine RW.k XK 41 3 rfl ?_
      (conv=>whnf);refine ⟨rfl,?_⟩
      refine RW.nil ?_
      refine CW.keep 41 [0,1,5] rfl ?_;(conv=>whnf);refine ⟨?_⟩
      refine CW.region ?_
      refine RW.k XK 41 1 rfl ?_
      (conv=>whnf);refine ⟨rfl,?_⟩
      refine RW.v rfl (V.inc rfl rfl rfl hii hl0) ?_
      refine RW.k XK 41 1 rfl ?_
      (conv=>whnf);refine ⟨rfl,?_⟩
      refine RW.nil ?_
      exact ⟨(i + 1, _), by simp only []; omega, ⟨by omega, by first | exact wrap_le _ | omega, by rw [← hr, hdi]; clear hr; first | rfl | (simp_all [hdL, hdEEntry, hdI, hdS, inc]; done) | grind [hdL, hdEEntry, hdI, hdS, inc]⟩, rfl, Le.c rfl <| Le.c rfl <| Le.c rfl <| Le.e⟩
 ·skip
  have hii : a.length ≤ i := by have := h1; simp at this; first | exact this | omega | (simp; done) | (simp; omega)
  have hdi : a.drop i = [] := List.drop_eq_nil_of_le hii
  refine CW.exit ?_
  refine CW.keep 41 [1] rfl ?_;(conv=>whnf);refine ⟨?_⟩
  refine CW.k XK 41 1 [4] rfl ?_
  (conv=>whnf);refine ⟨rfl,?_⟩
  refine CW.ret ?_
  exact Post.one (RV.i rfl (by rw [← hr, hdi]; clear hr; first | rfl | (simp_all [hdL, hdEEntry, hdI, hdS, inc]; done) | grind [hdL, hdEEntry, hdI, hdS, inc])) (AOs.r (AOs.r AOs.e))
set_option maxHeartbeats 4000000 in
theorem laws_heldLog_fn (a : Log) (k : Int) (hk : k ≤ 9223372036854775807) : Eng.Fn E.P 79 [.agg ((Log.c a).map .r), .one (.r (.v (.int .i64 k)))] (.one (.one (.w (.v (.int .i64 ((hdVLog a k).getD (-1))))))) [.agg ((Log.c a).map .r), .one (.r (.v (.int .i64 k)))] := by
 refine Eng.Fn.intro (E := E) (rvs := [.tmp 4]) Try.func79 rfl rfl rfl (by simp [outSlots, moved, rvSlot, sl]) ?_
 intro B g bo
 refine CW.keep 12 [0,1] rfl ?_;(conv=>whnf);refine ⟨?_⟩
 refine CW.seq ?_
 refine CW.region ?_
 refine RW.k XK 12 1 rfl ?_
 (conv=>whnf);intro b1;(conv=>whnf);refine ⟨rfl,?_⟩
 refine RW.freezeB (ts := (Log.c a)) 2 rfl (DRd.r (DRd.r (DRd.r DRd.e))) ?_
 refine RW.k XK 12 1 rfl ?_
 (conv=>whnf);refine ⟨rfl,?_⟩
 refine RW.nil ?_
 refine CW.keep 12 [1,2] rfl ?_;(conv=>whnf);refine ⟨?_⟩
 refine CW.seq ?_
 refine CW.region ?_
 refine RW.k XK 12 3 rfl ?_
 (conv=>whnf);refine ⟨rfl,?_⟩
 refine RW.call rfl (laws_heldEntryS_fn a.entries k (by repeat (first | exact hk | apply leD | apply hdL_le | apply hdN_le | exact hdI_le | exact hdS_le | exact hdB_le | exact hdEEntry_le | exact hdEPeer_le | exact hdEMessage_le | exact hdVLog_le | exact hdVNode_le))) rfl (.cons (.one (.r .r)) (.cons (.one (.r .r)) (.nil))) fun g2 => ?_
 refine RW.k XK 12 1 rfl ?_
 (conv=>whnf);refine ⟨rfl,?_⟩
 refine RW.nil ?_
 refine CW.keep 12 [1] rfl ?_;(conv=>whnf);refine ⟨?_⟩
 refine CW.seq ?_
 refine CW.k XK 12 1 [1,10] rfl ?_
 (conv=>whnf);refine ⟨rfl,?_⟩
 refine CW.cond rfl (fun h3 => ?_) (fun h3 => ?_)
 ·skip
  refine CW.k XK 12 1 [4] rfl ?_
  (conv=>whnf);refine ⟨rfl,?_⟩
  refine CW.ret ?_
  exact Post.one (RV.i rfl (by simp_all [hdVLog, hdN_ok, hdN_bad])) (AOs.a rfl (AOs.r AOs.e))
 ·skip
  refine CW.skip ?_
  refine CW.keep 12 [1] rfl ?_;(conv=>whnf);refine ⟨?_⟩
  refine CW.k XK 12 1 [4] rfl ?_
  (conv=>whnf);refine ⟨rfl,?_⟩
  refine CW.ret ?_
  exact Post.one (RV.i rfl (by simp_all [hdVLog, hdN_ok, hdN_bad])) (AOs.a rfl (AOs.r AOs.e))
set_option maxHeartbeats 4000000 in
theorem laws_heldPeerS_fn (a : List Peer) (k : Int) (hk : k ≤ 9223372036854775807) : Eng.Fn E.P 80 [.one (.r (sl 4 Peer.c a)), .one (.r (.v (.int .i64 k)))] (.one (.one (.w (.v (.int .i64 ((hdL hdEPeer a k).getD (-1))))))) [.one (.r (sl 4 Peer.c a)), .one (.r (.v (.int .i64 k)))] := by
 refine Eng.Fn.intro (E := E) (rvs := [.tmp 4]) Try.func80 rfl rfl rfl (by simp [outSlots, moved, rvSlot, sl]) ?_
 intro B g bo
 refine CW.bound (x := .tmp 0) (n := a.length) (AsT.r) (fun hl0 => ?_)
 refine CW.keep 49 [0,1] rfl ?_;(conv=>whnf);refine ⟨?_⟩
 refine CW.k XK 49 1 [0,1] rfl ?_
 (conv=>whnf);refine ⟨rfl,?_⟩
 refine CW.seq ?_
 refine CW.k XK 49 1 [0,1,5] rfl ?_
 (conv=>whnf);refine ⟨rfl,?_⟩
 refine CW.block ?_
 refine CW.loopI 49 (fun (zz : Nat × Int) => match zz with | (i, l) => [(0, .r (sl 4 Peer.c a)), (1, I l), (5, I (i : Int))]) (fun (zz : Nat × Int) => match zz with | (i, l) => i ≤ a.length ∧ l ≤ 9223372036854775807 ∧ hdL hdEPeer (a.drop i) l = hdL hdEPeer a k) (fun (zz : Nat × Int) => match zz with | (i, l) => a.length - i) (0, _) rfl (Le.c rfl <| Le.c rfl <| Le.c rfl <| Le.e) ⟨by omega, hk, by simp⟩ ?_
 rintro ⟨i, l⟩ ⟨hb, hlk, hr⟩
 refine CW.seq ?_
 refine CW.k XK 49 1 [0,1,5,9] rfl ?_
 (conv=>whnf);refine ⟨rfl,?_⟩
 refine CW.cond rfl (fun h1 => ?_) (fun h1 => ?_)
 ·skip
  have hii : i < a.length := by have := h1; simp at this; first | exact this | omega | (simp; done) | (simp; omega)
  obtain ⟨ei, hei⟩ : ∃ e, a[i]? = some e := ⟨_, List.getElem?_eq_getElem hii⟩
  have hdi := drop_get hei
  refine CW.skip ?_
  refine CW.keep 49 [0,1,5] rfl ?_;(conv=>whnf);refine ⟨?_⟩
  refine CW.seq ?_
  refine CW.block ?_
  refine CW.seq ?_
  refine CW.seq ?_
  refine CW.region ?_
  refine RW.k XK 49 2 rfl ?_
  (conv=>whnf);refine ⟨rfl,?_⟩
  refine RW.v rfl (V.indexS rfl rfl rfl rfl rfl rfl Peer.len hei) ?_
  refine RW.k XK 49 4 rfl ?_
  (conv=>whnf);refine ⟨rfl,?_⟩
  refine RW.nil ?_
  refine CW.keep 49 [0,1,5,18] rfl ?_;(conv=>whnf);refine ⟨?_⟩
  refine CW.cond rfl (fun h2 => ?_) (fun h2 => ?_)
  ·skip
   refine CW.k XK 49 1 [4] rfl ?_
   (conv=>whnf);refine ⟨rfl,?_⟩
   refine CW.ret ?_
   exact Post.one (RV.i rfl (by rw [← hr, hdi]; clear hr; first | rfl | (simp_all [hdL, hdEPeer, hdI, inc]; done) | grind [hdL, hdEPeer, hdI, inc])) (AOs.r (AOs.r AOs.e))
  ·skip
   refine CW.skip ?_
   refine CW.keep 49 [0,1,5] rfl ?_;(conv=>whnf);refine ⟨?_⟩
   refine CW.k XK 49 1 [0,1,5] rfl ?_
   (conv=>whnf);refine ⟨rfl,?_⟩
   refine CW.seq ?_
   refine CW.seq ?_
   refine CW.region ?_
   refine RW.k XK 49 2 rfl ?_
   (conv=>whnf);refine ⟨rfl,?_⟩
   refine RW.v rfl (V.indexS rfl rfl rfl rfl rfl rfl Peer.len hei) ?_
   refine RW.k XK 49 4 rfl ?_
   (conv=>whnf);refine ⟨rfl,?_⟩
   refine RW.nil ?_
   refine CW.keep 49 [0,1,5,27] rfl ?_;(conv=>whnf);refine ⟨?_⟩
   refine CW.cond rfl (fun h3 => ?_) (fun h3 => ?_)
   ·skip
    refine CW.k XK 49 1 [4] rfl ?_
    (conv=>whnf);refine ⟨rfl,?_⟩
    refine CW.ret ?_
    exact Post.one (RV.i rfl (by rw [← hr, hdi]; clear hr; first | rfl | (simp_all [hdL, hdEPeer, hdI, inc]; done) | grind [hdL, hdEPeer, hdI, inc])) (AOs.r (AOs.r AOs.e))
   ·skip
    refine CW.skip ?_
    refine CW.keep 49 [0,1,5] rfl ?_;(conv=>whnf);refine ⟨?_⟩
    refine CW.k XK 49 1 [0,1,5] rfl ?_
    (conv=>whnf);refine ⟨rfl,?_⟩
    refine CW.seq ?_
    refine CW.seq ?_
    refine CW.region ?_
    refine RW.k XK 49 2 rfl ?_
    (conv=>whnf);refine ⟨rfl,?_⟩
    refine RW.v rfl (V.indexS rfl rfl rfl rfl rfl rfl Peer.len hei) ?_
    refine RW.k XK 49 4 rfl ?_
    (conv=>whnf);refine ⟨rfl,?_⟩
    refine RW.nil ?_
    refine CW.keep 49 [0,1,5,36] rfl ?_;(conv=>whnf);refine ⟨?_⟩
    refine CW.cond rfl (fun h4 => ?_) (fun h4 => ?_)
    ·skip
     refine CW.k XK 49 1 [4] rfl ?_
     (conv=>whnf);refine ⟨rfl,?_⟩
     refine CW.ret ?_
     exact Post.one (RV.i rfl (by rw [← hr, hdi]; clear hr; first | rfl | (simp_all [hdL, hdEPeer, hdI, inc]; done) | grind [hdL, hdEPeer, hdI, inc])) (AOs.r (AOs.r AOs.e))
    ·skip
     refine CW.skip ?_
     refine CW.keep 49 [0,1,5] rfl ?_;(conv=>whnf);refine ⟨?_⟩
     refine CW.k XK 49 1 [0,1,5] rfl ?_
     (conv=>whnf);refine ⟨rfl,?_⟩
     refine CW.seq ?_
     refine CW.seq ?_
     refine CW.region ?_
     refine RW.k XK 49 2 rfl ?_
     (conv=>whnf);refine ⟨rfl,?_⟩
     refine RW.v rfl (V.indexS rfl rfl rfl rfl rfl rfl Peer.len hei) ?_
     refine RW.k XK 49 4 rfl ?_
     (conv=>whnf);refine ⟨rfl,?_⟩
     refine RW.nil ?_
     refine CW.keep 49 [0,1,5,45] rfl ?_;(conv=>whnf);refine ⟨?_⟩
     refine CW.cond rfl (fun h5 => ?_) (fun h5 => ?_)
     ·skip
      refine CW.k XK 49 1 [4] rfl ?_
      (conv=>whnf);refine ⟨rfl,?_⟩
      refine CW.ret ?_
      exact Post.one (RV.i rfl (by rw [← hr, hdi]; clear hr; first | rfl | (simp_all [hdL, hdEPeer, hdI, inc]; done) | grind [hdL, hdEPeer, hdI, inc])) (AOs.r (AOs.r AOs.e))
     ·skip
      refine CW.skip ?_
      refine CW.keep 49 [0,1,5] rfl ?_;(conv=>whnf);refine ⟨?_⟩
      refine CW.region ?_
      refine RW.k XK 49 3 rfl ?_
      (conv=>whnf);refine ⟨rfl,?_⟩
      refine RW.nil ?_
      refine CW.keep 49 [0,1,5] rfl ?_;(conv=>whnf);refine ⟨?_⟩
      refine CW.region ?_
      refine RW.k XK 49 1 rfl ?_
      (conv=>whnf);refine ⟨rfl,?_⟩
      refine RW.v rfl (V.inc rfl rfl rfl hii hl0) ?_
      refine RW.k XK 49 1 rfl ?_
      (conv=>whnf);refine ⟨rfl,?_⟩
      refine RW.nil ?_
      exact ⟨(i + 1, _), by simp only []; omega, ⟨by omega, by first | exact wrap_le _ | omega, by rw [← hr, hdi]; clear hr; first | rfl | (simp_all [hdL, hdEPeer, hdI, inc]; done) | grind [hdL, hdEPeer, hdI, inc]⟩, rfl, Le.c rfl <| Le.c rfl <| Le.c rfl <| Le.e⟩
 ·skip
  have hii : a.length ≤ i := by have := h1; simp at this; first | exact this | omega | (simp; done) | (simp; omega)
  have hdi : a.drop i = [] := List.drop_eq_nil_of_le hii
  refine CW.exit ?_
  refine CW.keep 49 [1] rfl ?_;(conv=>whnf);refine ⟨?_⟩
  refine CW.k XK 49 1 [4] rfl ?_
  (conv=>whnf);refine ⟨rfl,?_⟩
  refine CW.ret ?_
  exact Post.one (RV.i rfl (by rw [← hr, hdi]; clear hr; first | rfl | (simp_all [hdL, hdEPeer, hdI, inc]; done) | grind [hdL, hdEPeer, hdI, inc])) (AOs.r (AOs.r AOs.e))
set_option maxHeartbeats 4000000 in
theorem laws_heldNode_fn (a : Node) (k : Int) (hk : k ≤ 9223372036854775807) : Eng.Fn E.P 30 [.agg ((Node.c a).map .r), .one (.r (.v (.int .i64 k)))] (.one (.one (.w (.v (.int .i64 ((hdVNode a k).getD (-1))))))) [.agg ((Node.c a).map .r), .one (.r (.v (.int .i64 k)))] := by
 refine Eng.Fn.intro (E := E) (rvs := [.tmp 4]) Try.func30 rfl rfl rfl (by simp [outSlots, moved, rvSlot, sl]) ?_
 intro B g bo
 refine CW.keep 30 [0,1] rfl ?_;(conv=>whnf);refine ⟨?_⟩
 refine CW.seq ?_
 refine CW.region ?_
 refine RW.k XK 30 1 rfl ?_
 (conv=>whnf);intro b1;(conv=>whnf);refine ⟨rfl,?_⟩
 refine RW.freezeB (ts := (Node.c a)) 2 rfl (DRd.r (DRd.r (DRd.r (DRd.r (DRd.r (DRd.r (DRd.r (DRd.r (DRd.r (DRd.r (DRd.r (DRd.r (DRd.r (DRd.r DRd.e)))))))))))))) ?_
 refine RW.k XK 30 1 rfl ?_
 (conv=>whnf);refine ⟨rfl,?_⟩
 refine RW.nil ?_
 refine CW.keep 30 [1,2] rfl ?_;(conv=>whnf);refine ⟨?_⟩
 refine CW.seq ?_
 refine CW.region ?_
 refine RW.k XK 30 3 rfl ?_
 (conv=>whnf);refine ⟨rfl,?_⟩
 refine RW.call rfl (laws_heldIntS_fn a.conf k (by repeat (first | exact hk | apply leD | apply hdL_le | apply hdN_le | exact hdI_le | exact hdS_le | exact hdB_le | exact hdEEntry_le | exact hdEPeer_le | exact hdEMessage_le | exact hdVLog_le | exact hdVNode_le))) rfl (.cons (.one (.r .r)) (.cons (.one (.r .r)) (.nil))) fun g2 => ?_
 refine RW.k XK 30 1 rfl ?_
 (conv=>whnf);refine ⟨rfl,?_⟩
 refine RW.nil ?_
 refine CW.keep 30 [1,2] rfl ?_;(conv=>whnf);refine ⟨?_⟩
 refine CW.seq ?_
 refine CW.k XK 30 1 [1,2,10] rfl ?_
 (conv=>whnf);refine ⟨rfl,?_⟩
 refine CW.cond rfl (fun h3 => ?_) (fun h3 => ?_)
 ·skip
  refine CW.k XK 30 1 [4] rfl ?_
  (conv=>whnf);refine ⟨rfl,?_⟩
  refine CW.ret ?_
  exact Post.one (RV.i rfl (by simp_all [hdVNode, hdN_ok, hdN_bad])) (AOs.a rfl (AOs.r AOs.e))
 ·skip
  refine CW.skip ?_
  refine CW.keep 30 [1,2] rfl ?_;(conv=>whnf);refine ⟨?_⟩
  refine CW.seq ?_
  refine CW.region ?_
  refine RW.k XK 30 3 rfl ?_
  (conv=>whnf);refine ⟨rfl,?_⟩
  refine RW.call rfl (laws_heldLog_fn a.log ((hdL hdI a.conf k).getD (-1)) (by repeat (first | exact hk | apply leD | apply hdL_le | apply hdN_le | exact hdI_le | exact hdS_le | exact hdB_le | exact hdEEntry_le | exact hdEPeer_le | exact hdEMessage_le | exact hdVLog_le | exact hdVNode_le))) rfl (.cons (.agg (.cons (.r .r) (.cons (.r .r) (.cons (.r .r) (.nil))))) (.cons (.one (.r .r)) (.nil))) fun g4 => ?_
  refine RW.k XK 30 1 rfl ?_
  (conv=>whnf);refine ⟨rfl,?_⟩
  refine RW.nil ?_
  refine CW.keep 30 [1,2] rfl ?_;(conv=>whnf);refine ⟨?_⟩
  refine CW.seq ?_
  refine CW.k XK 30 1 [1,2,16] rfl ?_
  (conv=>whnf);refine ⟨rfl,?_⟩
  refine CW.cond rfl (fun h5 => ?_) (fun h5 => ?_)
  ·skip
   refine CW.k XK 30 1 [4] rfl ?_
   (conv=>whnf);refine ⟨rfl,?_⟩
   refine CW.ret ?_
   exact Post.one (RV.i rfl (by simp_all [hdVNode, hdN_ok, hdN_bad])) (AOs.a rfl (AOs.r AOs.e))
  ·skip
   refine CW.skip ?_
   refine CW.keep 30 [1,2] rfl ?_;(conv=>whnf);refine ⟨?_⟩
   refine CW.seq ?_
   refine CW.region ?_
   refine RW.k XK 30 3 rfl ?_
   (conv=>whnf);refine ⟨rfl,?_⟩
   refine RW.call rfl (laws_heldIntS_fn a.votes ((hdVLog a.log ((hdL hdI a.conf k).getD (-1))).getD (-1)) (by repeat (first | exact hk | apply leD | apply hdL_le | apply hdN_le | exact hdI_le | exact hdS_le | exact hdB_le | exact hdEEntry_le | exact hdEPeer_le | exact hdEMessage_le | exact hdVLog_le | exact hdVNode_le))) rfl (.cons (.one (.r .r)) (.cons (.one (.r .r)) (.nil))) fun g6 => ?_
   refine RW.k XK 30 1 rfl ?_
   (conv=>whnf);refine ⟨rfl,?_⟩
   refine RW.nil ?_
   refine CW.keep 30 [1,2] rfl ?_;(conv=>whnf);refine ⟨?_⟩
   refine CW.seq ?_
   refine CW.k XK 30 1 [1,2,22] rfl ?_
   (conv=>whnf);refine ⟨rfl,?_⟩
   refine CW.cond rfl (fun h7 => ?_) (fun h7 => ?_)
   ·skip
    refine CW.k XK 30 1 [4] rfl ?_
    (conv=>whnf);refine ⟨rfl,?_⟩
    refine CW.ret ?_
    exact Post.one (RV.i rfl (by simp_all [hdVNode, hdN_ok, hdN_bad])) (AOs.a rfl (AOs.r AOs.e))
   ·skip
    refine CW.skip ?_
    refine CW.keep 30 [1,2] rfl ?_;(conv=>whnf);refine ⟨?_⟩
    refine CW.seq ?_
    refine CW.region ?_
    refine RW.k XK 30 3 rfl ?_
    (conv=>whnf);refine ⟨rfl,?_⟩
    refine RW.call rfl (laws_heldPeerS_fn a.peers ((hdL hdI a.votes ((hdVLog a.log ((hdL hdI a.conf k).getD (-1))).getD (-1))).getD (-1)) (by repeat (first | exact hk | apply leD | apply hdL_le | apply hdN_le | exact hdI_le | exact hdS_le | exact hdB_le | exact hdEEntry_le | exact hdEPeer_le | exact hdEMessage_le | exact hdVLog_le | exact hdVNode_le))) rfl (.cons (.one (.r .r)) (.cons (.one (.r .r)) (.nil))) fun g8 => ?_
    refine RW.k XK 30 1 rfl ?_
    (conv=>whnf);refine ⟨rfl,?_⟩
    refine RW.nil ?_
    refine CW.keep 30 [1] rfl ?_;(conv=>whnf);refine ⟨?_⟩
    refine CW.seq ?_
    refine CW.k XK 30 1 [1,28] rfl ?_
    (conv=>whnf);refine ⟨rfl,?_⟩
    refine CW.cond rfl (fun h9 => ?_) (fun h9 => ?_)
    ·skip
     refine CW.k XK 30 1 [4] rfl ?_
     (conv=>whnf);refine ⟨rfl,?_⟩
     refine CW.ret ?_
     exact Post.one (RV.i rfl (by simp_all [hdVNode, hdN_ok, hdN_bad])) (AOs.a rfl (AOs.r AOs.e))
    ·skip
     refine CW.skip ?_
     refine CW.keep 30 [1] rfl ?_;(conv=>whnf);refine ⟨?_⟩
     refine CW.k XK 30 1 [4] rfl ?_
     (conv=>whnf);refine ⟨rfl,?_⟩
     refine CW.ret ?_
     exact Post.one (RV.i rfl (by simp_all [hdVNode, hdN_ok, hdN_bad])) (AOs.a rfl (AOs.r AOs.e))
set_option maxHeartbeats 4000000 in
theorem laws_eqMessage_fn (a : Message) (b : Message) : Eng.Fn E.P 103 [.agg ((Message.c a).map .r), .agg ((Message.c b).map .r)] (.one (.one (.w (.v (.bool (eqMessage a b)))))) [.agg ((Message.c a).map .r), .agg ((Message.c b).map .r)] := by
 refine Eng.Fn.intro (E := E) (rvs := [.tmp 4]) Try.func103 rfl rfl rfl (by simp [outSlots, moved, rvSlot, sl]) ?_
 intro B g bo
 refine CW.keep 67 [0,1] rfl ?_;(conv=>whnf);refine ⟨?_⟩
 refine CW.seq ?_
 refine CW.region ?_
 refine RW.k XK 67 1 rfl ?_
 (conv=>whnf);intro b1;(conv=>whnf);refine ⟨rfl,?_⟩
 refine RW.freezeB (ts := (Message.c a)) 2 rfl (DRd.r (DRd.r (DRd.r (DRd.r (DRd.r (DRd.r (DRd.r (DRd.r (DRd.r (DRd.r (DRd.r (DRd.r DRd.e)))))))))))) ?_
 refine RW.k XK 67 1 rfl ?_
 (conv=>whnf);intro b2;(conv=>whnf);refine ⟨rfl,?_⟩
 refine RW.freezeB (ts := (Message.c b)) 3 rfl (DRd.r (DRd.r (DRd.r (DRd.r (DRd.r (DRd.r (DRd.r (DRd.r (DRd.r (DRd.r (DRd.r (DRd.r DRd.e)))))))))))) ?_
 refine RW.k XK 67 1 rfl ?_
 (conv=>whnf);refine ⟨rfl,?_⟩
 refine RW.nil ?_
 refine CW.keep 67 [2,3] rfl ?_;(conv=>whnf);refine ⟨?_⟩
 refine CW.seq ?_
 refine CW.k XK 67 1 [2,3,9] rfl ?_
 (conv=>whnf);refine ⟨rfl,?_⟩
 refine CW.cond rfl (fun h3 => ?_) (fun h3 => ?_)
 ·skip
  refine CW.k XK 67 1 [4] rfl ?_
  (conv=>whnf);refine ⟨rfl,?_⟩
  refine CW.ret ?_
  exact Post.one (RV.b rfl (by simp_all [eqMessage])) (AOs.a rfl (AOs.a rfl AOs.e))
 ·skip
  refine CW.skip ?_
  refine CW.keep 67 [2,3] rfl ?_;(conv=>whnf);refine ⟨?_⟩
  refine CW.seq ?_
  refine CW.k XK 67 1 [2,3,14] rfl ?_
  (conv=>whnf);refine ⟨rfl,?_⟩
  refine CW.cond rfl (fun h4 => ?_) (fun h4 => ?_)
  ·skip
   refine CW.k XK 67 1 [4] rfl ?_
   (conv=>whnf);refine ⟨rfl,?_⟩
   refine CW.ret ?_
   exact Post.one (RV.b rfl (by simp_all [eqMessage])) (AOs.a rfl (AOs.a rfl AOs.e))
  ·skip
   refine CW.skip ?_
   refine CW.keep 67 [2,3] rfl ?_;(conv=>whnf);refine ⟨?_⟩
   refine CW.seq ?_
   refine CW.k XK 67 1 [2,3,19] rfl ?_
   (conv=>whnf);refine ⟨rfl,?_⟩
   refine CW.cond rfl (fun h5 => ?_) (fun h5 => ?_)
   ·skip
    refine CW.k XK 67 1 [4] rfl ?_
    (conv=>whnf);refine ⟨rfl,?_⟩
    refine CW.ret ?_
    exact Post.one (RV.b rfl (by simp_all [eqMessage])) (AOs.a rfl (AOs.a rfl AOs.e))
   ·skip
    refine CW.skip ?_
    refine CW.keep 67 [2,3] rfl ?_;(conv=>whnf);refine ⟨?_⟩
    refine CW.seq ?_
    refine CW.k XK 67 1 [2,3,24] rfl ?_
    (conv=>whnf);refine ⟨rfl,?_⟩
    refine CW.cond rfl (fun h6 => ?_) (fun h6 => ?_)
    ·skip
     refine CW.k XK 67 1 [4] rfl ?_
     (conv=>whnf);refine ⟨rfl,?_⟩
     refine CW.ret ?_
     exact Post.one (RV.b rfl (by simp_all [eqMessage])) (AOs.a rfl (AOs.a rfl AOs.e))
    ·skip
     refine CW.skip ?_
     refine CW.keep 67 [2,3] rfl ?_;(conv=>whnf);refine ⟨?_⟩
     refine CW.seq ?_
     refine CW.k XK 67 1 [2,3,29] rfl ?_
     (conv=>whnf);refine ⟨rfl,?_⟩
     refine CW.cond rfl (fun h7 => ?_) (fun h7 => ?_)
     ·skip
      refine CW.k XK 67 1 [4] rfl ?_
      (conv=>whnf);refine ⟨rfl,?_⟩
      refine CW.ret ?_
      exact Post.one (RV.b rfl (by simp_all [eqMessage])) (AOs.a rfl (AOs.a rfl AOs.e))
     ·skip
      refine CW.skip ?_
      refine CW.keep 67 [2,3] rfl ?_;(conv=>whnf);refine ⟨?_⟩
      refine CW.seq ?_
      refine CW.k XK 67 1 [2,3,34] rfl ?_
      (conv=>whnf);refine ⟨rfl,?_⟩
      refine CW.cond rfl (fun h8 => ?_) (fun h8 => ?_)
      ·skip
       refine CW.k XK 67 1 [4] rfl ?_
       (conv=>whnf);refine ⟨rfl,?_⟩
       refine CW.ret ?_
       exact Post.one (RV.b rfl (by simp_all [eqMessage])) (AOs.a rfl (AOs.a rfl AOs.e))
      ·skip
       refine CW.skip ?_
       refine CW.keep 67 [2,3] rfl ?_;(conv=>whnf);refine ⟨?_⟩
       refine CW.seq ?_
       refine CW.k XK 67 1 [2,3,39] rfl ?_
       (conv=>whnf);refine ⟨rfl,?_⟩
       refine CW.cond rfl (fun h9 => ?_) (fun h9 => ?_)
       ·skip
        refine CW.k XK 67 1 [4] rfl ?_
        (conv=>whnf);refine ⟨rfl,?_⟩
        refine CW.ret ?_
        exact Post.one (RV.b rfl (by simp_all [eqMessage])) (AOs.a rfl (AOs.a rfl AOs.e))
       ·skip
        refine CW.skip ?_
        refine CW.keep 67 [2,3] rfl ?_;(conv=>whnf);refine ⟨?_⟩
        refine CW.seq ?_
        refine CW.seq ?_
        refine CW.region ?_
        refine RW.k XK 67 4 rfl ?_
        (conv=>whnf);refine ⟨rfl,?_⟩
        refine RW.v rfl (V.eqBool rfl rfl rfl (by kernel_rfl) (.inr ⟨rfl, rfl⟩)) ?_
        refine RW.nil ?_
        refine CW.keep 67 [2,3,44] rfl ?_;(conv=>whnf);refine ⟨?_⟩
        refine CW.cond rfl (fun h10 => ?_) (fun h10 => ?_)
        ·skip
         refine CW.k XK 67 1 [4] rfl ?_
         (conv=>whnf);refine ⟨rfl,?_⟩
         refine CW.ret ?_
         exact Post.one (RV.b rfl (by simp_all [eqMessage])) (AOs.a rfl (AOs.a rfl AOs.e))
        ·skip
         refine CW.skip ?_
         refine CW.keep 67 [2,3] rfl ?_;(conv=>whnf);refine ⟨?_⟩
         refine CW.seq ?_
         refine CW.seq ?_
         refine CW.region ?_
         refine RW.k XK 67 4 rfl ?_
         (conv=>whnf);refine ⟨rfl,?_⟩
         refine RW.call rfl (laws_eqEntryS_fn a.entries b.entries) rfl (.cons (.one (.r .r)) (.cons (.one (.r .r)) (.nil))) fun g11 => ?_
         refine RW.k XK 67 1 rfl ?_
         (conv=>whnf);refine ⟨rfl,?_⟩
         refine RW.nil ?_
         refine CW.keep 67 [2,3,50] rfl ?_;(conv=>whnf);refine ⟨?_⟩
         refine CW.cond rfl (fun h12 => ?_) (fun h12 => ?_)
         ·skip
          refine CW.k XK 67 1 [4] rfl ?_
          (conv=>whnf);refine ⟨rfl,?_⟩
          refine CW.ret ?_
          exact Post.one (RV.b rfl (by simp_all [eqMessage])) (AOs.a rfl (AOs.a rfl AOs.e))
         ·skip
          refine CW.skip ?_
          refine CW.keep 67 [2,3] rfl ?_;(conv=>whnf);refine ⟨?_⟩
          refine CW.seq ?_
          refine CW.seq ?_
          refine CW.region ?_
          refine RW.k XK 67 4 rfl ?_
          (conv=>whnf);refine ⟨rfl,?_⟩
          refine RW.call rfl (laws_eqIntS_fn a.conf b.conf) rfl (.cons (.one (.r .r)) (.cons (.one (.r .r)) (.nil))) fun g13 => ?_
          refine RW.k XK 67 1 rfl ?_
          (conv=>whnf);refine ⟨rfl,?_⟩
          refine RW.nil ?_
          refine CW.keep 67 [2,3,56] rfl ?_;(conv=>whnf);refine ⟨?_⟩
          refine CW.cond rfl (fun h14 => ?_) (fun h14 => ?_)
          ·skip
           refine CW.k XK 67 1 [4] rfl ?_
           (conv=>whnf);refine ⟨rfl,?_⟩
           refine CW.ret ?_
           exact Post.one (RV.b rfl (by simp_all [eqMessage])) (AOs.a rfl (AOs.a rfl AOs.e))
          ·skip
           refine CW.skip ?_
           refine CW.keep 67 [2,3] rfl ?_;(conv=>whnf);refine ⟨?_⟩
           refine CW.seq ?_
           refine CW.k XK 67 1 [2,3,61] rfl ?_
           (conv=>whnf);refine ⟨rfl,?_⟩
           refine CW.cond rfl (fun h15 => ?_) (fun h15 => ?_)
           ·skip
            refine CW.k XK 67 1 [4] rfl ?_
            (conv=>whnf);refine ⟨rfl,?_⟩
            refine CW.ret ?_
            exact Post.one (RV.b rfl (by simp_all [eqMessage])) (AOs.a rfl (AOs.a rfl AOs.e))
           ·skip
            refine CW.skip ?_
            refine CW.keep 67 [2,3] rfl ?_;(conv=>whnf);refine ⟨?_⟩
            refine CW.seq ?_
            refine CW.seq ?_
            refine CW.region ?_
            refine RW.k XK 67 4 rfl ?_
            (conv=>whnf);refine ⟨rfl,?_⟩
            refine RW.v rfl (V.eqBool rfl rfl rfl (by kernel_rfl) (.inr ⟨rfl, rfl⟩)) ?_
            refine RW.nil ?_
            refine CW.keep 67 [66] rfl ?_;(conv=>whnf);refine ⟨?_⟩
            refine CW.cond rfl (fun h16 => ?_) (fun h16 => ?_)
            ·skip
             refine CW.k XK 67 1 [4] rfl ?_
             (conv=>whnf);refine ⟨rfl,?_⟩
             refine CW.ret ?_
             exact Post.one (RV.b rfl (by simp_all [eqMessage])) (AOs.a rfl (AOs.a rfl AOs.e))
            ·skip
             refine CW.skip ?_
             refine CW.keep 67 [] rfl ?_;(conv=>whnf);refine ⟨?_⟩
             refine CW.k XK 67 1 [4] rfl ?_
             (conv=>whnf);refine ⟨rfl,?_⟩
             refine CW.ret ?_
             exact Post.one (RV.b rfl (by simp_all [eqMessage])) (AOs.a rfl (AOs.a rfl AOs.e))
set_option maxHeartbeats 4000000 in
theorem laws_eqMessageS_fn (a : List Message) (b : List Message) : Eng.Fn E.P 35 [.one (.r (sl 12 Message.c a)), .one (.r (sl 12 Message.c b))] (.one (.one (.w (.v (.bool (eqS eqMessage a b)))))) [.one (.r (sl 12 Message.c a)), .one (.r (sl 12 Message.c b))] := by
 refine Eng.Fn.intro (E := E) (rvs := [.tmp 4]) Try.func35 rfl rfl rfl (by simp [outSlots, moved, rvSlot, sl]) ?_
 intro B g bo
 refine CW.bound (x := .tmp 0) (n := a.length) (AsT.r) (fun hl0 => ?_)
 refine CW.bound (x := .tmp 1) (n := b.length) (AsT.r) (fun hl1 => ?_)
 refine CW.keep 27 [0,1] rfl ?_;(conv=>whnf);refine ⟨?_⟩
 refine CW.k XK 27 1 [0,1] rfl ?_
 (conv=>whnf);refine ⟨rfl,?_⟩
 refine CW.seq ?_
 refine CW.k XK 27 1 [0,1,10] rfl ?_
 (conv=>whnf);refine ⟨rfl,?_⟩
 refine CW.cond rfl (fun h1 => ?_) (fun h1 => ?_)
 ·skip
  refine CW.k XK 27 1 [4] rfl ?_
  (conv=>whnf);refine ⟨rfl,?_⟩
  refine CW.ret ?_
  exact Post.one (RV.b rfl (by first | (simp_all [eqS, eqI, eqStr, eqB]; done) | exact (eqS_ne (by simp_all; omega)).symm)) (AOs.r (AOs.r AOs.e))
 ·skip
  refine CW.skip ?_
  refine CW.keep 27 [0,1] rfl ?_;(conv=>whnf);refine ⟨?_⟩
  refine CW.seq ?_
  refine CW.k XK 27 1 [0,1,5] rfl ?_
  (conv=>whnf);refine ⟨rfl,?_⟩
  refine CW.block ?_
  refine CW.loopI 27 (fun (i : Nat) => [(0, .r (sl 12 Message.c a)), (1, .r (sl 12 Message.c b)), (5, I (i : Int))]) (fun (i : Nat) => i ≤ a.length ∧ eqS eqMessage (a.drop i) (b.drop i) = eqS eqMessage a b) (fun (i : Nat) => a.length - i) 0 rfl (Le.c rfl <| Le.c rfl <| Le.c rfl <| Le.e) ⟨by omega, by simp⟩ ?_
  rintro i ⟨hb, hr⟩
  have hlen : a.length = b.length := by simp at h1; omega
  refine CW.seq ?_
  refine CW.k XK 27 1 [0,1,5,14] rfl ?_
  (conv=>whnf);refine ⟨rfl,?_⟩
  refine CW.cond rfl (fun h2 => ?_) (fun h2 => ?_)
  ·skip
   have hii : i < a.length := by have := h2; simp at this; first | exact this | omega | (simp; done) | (simp; omega)
   obtain ⟨ei, hei⟩ : ∃ e, a[i]? = some e := ⟨_, List.getElem?_eq_getElem hii⟩
   have hdi := drop_get hei
   have hib : i < b.length := by omega
   obtain ⟨eb, heb⟩ : ∃ e, b[i]? = some e := ⟨_, List.getElem?_eq_getElem hib⟩
   have hdb := drop_get heb
   refine CW.skip ?_
   refine CW.keep 27 [0,1,5] rfl ?_;(conv=>whnf);refine ⟨?_⟩
   refine CW.seq ?_
   refine CW.block ?_
   refine CW.seq ?_
   refine CW.drawn (by kernel_rfl) ?_
   refine RQ.k XK 27 2 rfl ?_
   (conv=>whnf);refine ⟨rfl,?_⟩
   refine RQ.v rfl (V.indexS rfl rfl rfl rfl rfl rfl Message.len hei) ?_
   refine RQ.k XK 27 3 rfl ?_
   (conv=>whnf);refine ⟨rfl,?_⟩
   refine RQ.v rfl (V.indexS rfl rfl rfl rfl rfl rfl Message.len heb) ?_
   refine RQ.k XK 27 1 rfl ?_
   (conv=>whnf);refine ⟨rfl,?_⟩
   refine RQ.cons rfl (QOK.call (laws_eqMessage_fn ei eb) rfl (.cons (.agg (.cons (.r .r) (.cons (.r .r) (.cons (.r .r) (.cons (.r .r) (.cons (.r .r) (.cons (.r .r) (.cons (.r .r) (.cons (.r .r) (.cons (.r .r) (.cons (.r .r) (.cons (.r .r) (.cons (.r .r) (.nil)))))))))))))) (.cons (.agg (.cons (.r .r) (.cons (.r .r) (.cons (.r .r) (.cons (.r .r) (.cons (.r .r) (.cons (.r .r) (.cons (.r .r) (.cons (.r .r) (.cons (.r .r) (.cons (.r .r) (.cons (.r .r) (.cons (.r .r) (.nil)))))))))))))) (.nil))) ?_)
   refine RQ.k XK 27 1 rfl ?_
   (conv=>whnf);refine ⟨rfl,?_⟩
   refine RQ.nil ?_
   refine CW.keep 27 [0,1,5,26] rfl ?_;(conv=>whnf);refine ⟨?_⟩
   refine CW.cond rfl (fun h3 => ?_) (fun h3 => ?_)
   ·skip
    refine CW.k XK 27 1 [4] rfl ?_
    (conv=>whnf);refine ⟨rfl,?_⟩
    refine CW.ret ?_
    exact Post.one (RV.b rfl (by first | (simp_all [eqS, eqI, eqStr, eqB]; done) | exact (eqS_ne (by simp_all; omega)).symm)) (AOs.r (AOs.r AOs.e))
   ·skip
    refine CW.skip ?_
    refine CW.keep 27 [0,1,5] rfl ?_;(conv=>whnf);refine ⟨?_⟩
    refine CW.region ?_
    refine RW.k XK 27 1 rfl ?_
    (conv=>whnf);refine ⟨rfl,?_⟩
    refine RW.v rfl (V.inc rfl rfl rfl hii hl0) ?_
    refine RW.k XK 27 1 rfl ?_
    (conv=>whnf);refine ⟨rfl,?_⟩
    refine RW.nil ?_
    exact ⟨i + 1, by omega, ⟨by omega, by simp_all [eqS, eqI, eqStr, eqB]⟩, rfl, Le.c rfl <| Le.c rfl <| Le.c rfl <| Le.e⟩
  ·skip
   have hii : a.length ≤ i := by have := h2; simp at this; first | exact this | omega | (simp; done) | (simp; omega)
   have hdi : a.drop i = [] := List.drop_eq_nil_of_le hii
   refine CW.exit ?_
   refine CW.keep 27 [] rfl ?_;(conv=>whnf);refine ⟨?_⟩
   refine CW.k XK 27 1 [4] rfl ?_
   (conv=>whnf);refine ⟨rfl,?_⟩
   refine CW.ret ?_
   exact Post.one (RV.b rfl (by rw [← hr, hdi, List.drop_eq_nil_of_le (show b.length ≤ i by omega)]; rfl)) (AOs.r (AOs.r AOs.e))
end Go.Proofs.Ytbiocicogminlaa.Y
