import Derived.Test.YtbiocicogminlaaWTickE
namespace Go.Proofs.Ytbiocicogminlaa.Y
open Go Go.RowKit Go.Eng Go.Proofs
set_option maxRecDepth 10000
set_option maxHeartbeats 4000000 in
theorem spec_Tick_fn (n : Node) (limit : Int) (hok : okToNode n) : Eng.Fn E.P 38 [.agg ((Node.c n).map .r), .one (.r (.v (.int .i64 limit)))] (.tup [.agg ((Node.c ((tickN n limit).1)).map .r), .one (.w (sl 12 Message.c ((tickN n limit).2.1))), .one (.w (.v (.bool ((tickN n limit).2.2))))]) [.agg ((Node.c n).map .r), .one (.r (.v (.int .i64 limit)))] := by
 refine Eng.Fn.intro (E := E) (rvs := [.cell 4 47, .tmp 5, .tmp 6]) Try.func38 rfl rfl rfl (by simp [outSlots, moved, rvSlot, sl]) ?_
 intro B g bo
 refine CW.keep 174 [0,1] rfl ?_;(conv=>whnf);refine ⟨?_⟩
 refine CW.seq ?_
 refine CW.region ?_
 refine RW.k XK 174 1 rfl ?_
 (conv=>whnf);intro b1;(conv=>whnf);refine ⟨rfl,?_⟩
 refine RW.freezeB (ts := (Node.c n)) 2 rfl (DRd.r (DRd.r (DRd.r (DRd.r (DRd.r (DRd.r (DRd.r (DRd.r (DRd.r (DRd.r (DRd.r (DRd.r (DRd.r (DRd.r DRd.e)))))))))))))) ?_
 refine RW.k XK 174 3 rfl ?_
 (conv=>whnf);intro b2;(conv=>whnf);refine ⟨rfl,?_⟩
 refine RW.nil ?_
 refine CW.keep 174 [1,2,4] rfl ?_;(conv=>whnf);refine ⟨?_⟩
 refine CW.seq ?_
 refine CW.seqJ 174 (fun (v3 : Bool) => [(1, I limit), (2, .rp (Node.c n)), (4, .obj b2 [I 0, I 0, I 0, I 0, I 0, .r (.v (.slice none 0 0)), I 0, I 0, .r (.v (.slice none 0 0)), I 0, I 0, I 0, .r (.v (.slice none 0 0)), .r (.v (.slice none 0 0))]), (20, Bo v3)]) (fun v3 => v3 = ((!(nodeOk n)) || (!(inR limit 1 20)))) ?_ ?_
 ·refine CW.region ?_
  refine RW.k XK 174 1 rfl ?_
  (conv=>whnf);refine ⟨rfl,?_⟩
  refine RW.call rfl (spec_NodeOk_fn n hok) rfl (.cons (.agg (.cons (.r .r) (.cons (.r .r) (.cons (.r .r) (.cons (.r .r) (.cons (.r .r) (.cons (.r .r) (.cons (.r .r) (.cons (.r .r) (.cons (.r .r) (.cons (.r .r) (.cons (.r .r) (.cons (.r .r) (.cons (.r .r) (.cons (.r .r) (.nil)))))))))))))))) (.nil)) fun g4 => ?_
  refine RW.k XK 174 2 rfl ?_
  (conv=>whnf);refine ⟨rfl,?_⟩
  refine RW.gv rfl rfl rfl rfl (fun h5 => V.mv (d := I limit) rfl rfl) (fun h5 => ?_) (fun h5 => ?_)
  ·skip
   refine RW.gcall rfl rfl rfl rfl (spec_l01In_fn limit 1 20) rfl (.cons (.one (.r .r)) (.cons (.one (.r .r)) (.cons (.one (.r .r)) (.nil)))) fun g6 => ?_
   refine RW.k XK 174 2 rfl ?_
   (conv=>whnf);refine ⟨rfl,?_⟩
   refine RW.nil ?_
   exact ⟨_, by first | rfl | (simp_all; done) | (simp_all; omega) | grind, rfl, Le.of rfl⟩
  ·skip
   refine RW.k XK 174 3 rfl ?_
   (conv=>whnf);refine ⟨rfl,?_⟩
   refine RW.nil ?_
   exact ⟨_, by first | rfl | (simp_all; done) | (simp_all; omega) | grind, rfl, Le.of rfl⟩
 ·intro v3 hv7
  refine CW.cond rfl (fun h8 => ?_) (fun h8 => ?_)
  ·skip
   have hbad : (nodeOk n && inR limit 1 20) = false := by rw [hv7] at h8; revert h8; cases nodeOk n <;> cases inR limit 1 20 <;> simp
   refine CW.seq ?_
   refine CW.region ?_
   refine RW.k XK 174 1 rfl ?_
   (conv=>whnf);refine ⟨rfl,?_⟩
   refine RW.build0 Message.c rfl rfl rfl rfl rfl fun X9 => ?_
   refine RW.k XK 174 1 rfl ?_
   (conv=>whnf);refine ⟨rfl,?_⟩
   refine RW.assignMove rfl rfl rfl (by decide) (Nat.le_of_ble_eq_true rfl) (Nat.le_of_ble_eq_true rfl) ?_
   refine RW.k XK 174 1 rfl ?_
   (conv=>whnf);refine ⟨rfl,?_⟩
   refine RW.nil ?_
   refine CW.keep 174 [4,5,6] rfl ?_;(conv=>whnf);refine ⟨?_⟩
   refine CW.ret ?_
   exact Post.tup (by decide) (RVs.c (RV.c (f := fun e => (Node.c e).map .r) (e' := (⟨0, 0, 0, 0, 0, [], (⟨0, 0, []⟩ : Log), 0, 0, 0, [], []⟩ : Node)) rfl rfl rfl rfl (DT.r (DT.r (DT.r (DT.r (DT.r (DT.nr (DT.r (DT.r (DT.nr (DT.r (DT.r (DT.r (DT.nr (DT.nr DT.e)))))))))))))) (by rw [tick_bad hbad]; rfl)) (RVs.c (RV.w rfl (by rw [tick_bad hbad])) (RVs.c (RV.b rfl (by rw [tick_bad hbad])) RVs.e))) (AOs.a rfl (AOs.r AOs.e))
  ·skip
   have hn : nodeOk n = true := by simp_all
   have hgd : (nodeOk n && inR limit 1 20) = true := by simp_all
   have hl : logB n.log := logOk_hs (nodeOk_in hn).1
   have htm := (nodeOk_in hn).2.1
   refine CW.skip ?_
   refine CW.keep 174 [1,2,4] rfl ?_;(conv=>whnf);refine ⟨?_⟩
   refine CW.seq ?_
   refine CW.region ?_
   refine RW.k XK 174 1 rfl ?_
   (conv=>whnf);refine ⟨rfl,?_⟩
   refine RW.call rfl (spec_l18Copy_fn n hok) rfl (.cons (.agg (.cons (.r .r) (.cons (.r .r) (.cons (.r .r) (.cons (.r .r) (.cons (.r .r) (.cons (.r .r) (.cons (.r .r) (.cons (.r .r) (.cons (.r .r) (.cons (.r .r) (.cons (.r .r) (.cons (.r .r) (.cons (.r .r) (.cons (.r .r) (.nil)))))))))))))))) (.nil)) fun g10 => ?_
   refine RW.k XK 174 2 rfl ?_
   (conv=>whnf);intro b11;(conv=>whnf);refine ⟨rfl,?_⟩
   refine RW.keep 174 [1,2,4,24,26] rfl ?_;(conv=>whnf);refine ⟨?_⟩
   refine RW.pullA (k := 26) (l := 24) (j := 5) 26 24 5 rfl rfl rfl (by decide) rfl rfl rfl rfl ?_
   refine RW.keep 174 [1,2,4,24,26] rfl ?_;(conv=>whnf);refine ⟨?_⟩
   refine RW.pullA (k := 26) (l := 24) (j := 8) 26 24 8 rfl rfl rfl (by decide) rfl rfl rfl rfl ?_
   refine RW.keep 174 [1,2,4,24,26] rfl ?_;(conv=>whnf);refine ⟨?_⟩
   refine RW.pullA (k := 26) (l := 24) (j := 12) 26 24 12 rfl rfl rfl (by decide) rfl rfl rfl rfl ?_
   refine RW.keep 174 [1,2,4,24,26] rfl ?_;(conv=>whnf);refine ⟨?_⟩
   refine RW.pullA (k := 26) (l := 24) (j := 13) 26 24 13 rfl rfl rfl (by decide) rfl rfl rfl rfl ?_
   refine RW.keep 174 [1,2,4,26] rfl ?_;(conv=>whnf);refine ⟨?_⟩
   refine RW.k XK 174 1 rfl ?_
   (conv=>whnf);refine ⟨rfl,?_⟩
   refine RW.nil ?_
   refine CW.keep 174 [1,2,4,7,26] rfl ?_;(conv=>whnf);refine ⟨?_⟩
   refine CW.seq ?_
   refine CW.k XK 174 1 [1,2,4,7,26,29] rfl ?_
   (conv=>whnf);refine ⟨rfl,?_⟩
   refine CW.cond rfl (fun h12 => ?_) (fun h12 => ?_)
   ·skip
    have hr2 : n.role = 2 := by simpa using h12
    refine CW.seq ?_
    refine CW.region ?_
    refine RW.k XK 174 1 rfl ?_
    (conv=>whnf);refine ⟨rfl,?_⟩
    refine RW.freezeM (k := 26) [false, false, false, false, false, true, false, false, true, false, false, false, true, true, false] rfl (ds' := [I n.id, I n.term_, I n.vote, I n.role, I n.lead, .r (sl 1 cI n.conf), I n.log.start, I n.log.startTerm, .r (sl 3 Entry.c n.log.entries), I n.commit, I n.clock, I n.limit, .r (sl 1 cI n.votes), .r (sl 4 Peer.c n.peers), .r (.v (.slice none 0 0))]) rfl ?_
    refine RW.callP (k := 26) (spec_l18SendAll_fn (⟨n, []⟩ : l18Run) hl (nodeOk_peers hn hl hr2) hok.1.1 hok.2.2.2.1 (Nat.zero_le _)) rfl rfl (Nat.le_of_ble_eq_true rfl) (by decide) rfl (DT.r (DT.r (DT.r (DT.r (DT.r (DT.r (DT.r (DT.r (DT.r (DT.r (DT.r (DT.r (DT.r (DT.r (DT.n DT.e))))))))))))))) (AsPs.here rfl (.nil)) fun g13 q14 => ?_
    refine RW.nil ?_
    refine CW.keep 174 [4,7,26] rfl ?_;(conv=>whnf);refine ⟨?_⟩
    refine CW.anyJ2 (fc := []) (L0 := [(26, .obj b11 [I n.id, I n.term_, I n.vote, I n.role, I n.lead, .r (sl 1 cI n.conf), I n.log.start, I n.log.startTerm, .r (sl 3 Entry.c n.log.entries), I n.commit, I n.clock, I n.limit, .r (sl 1 cI n.votes), .r (sl 4 Peer.c n.peers), .w (sl 12 Message.c (([]) ++ n.peers.map (sendN n))) (q14 14)])]) 174 (fun (_ : Unit) => [(4, .obj b2 ((Node.c n).map .r)), (5, .al 26 (some 14) 12 ((([]) ++ n.peers.map (sendN n)).length) (q14 14) 0), (6, Bo true)]) (fun all hall f hf b0 hb K hK => ?_) ?_
    ·skip
     have ro15_5 : ∀ B, RA f E B all 0 (bt 11 2047) ⟨174, [(4, .obj b2 ((Node.c n).map .r)), (5, .al 26 (some 14) 12 ((([]) ++ n.peers.map (sendN n)).length) (q14 14) 0), (6, Bo true)] ++ b0⟩ K := by
      intro B
      exact RA.of2 hall hf hb (RA.finH (Tell.of rfl) (by kernel_rfl) (hK () _ rfl (Le.of rfl)))
     have ro15_4 : ∀ B, RA f E B all 3 (bt 11 383) ⟨174, [(4, .obj b2 ((Node.c n).map .r)), (38, .pt 26 b11 14)] ++ b0⟩ K := by
      intro B
      refine RA.of2 hall hf hb (RA.stepH (L := [7]) (Tell.of rfl) (by kernel_rfl) (by simp) (RA.each ?_ (RA.each0)))
      ·skip
       refine RO.v rfl rfl (V.loadPrim (d := .al 26 (some 14) 12 ((([]) ++ n.peers.map (sendN n)).length) (q14 14) 0) rfl rfl (.inr ⟨_, rfl⟩) rfl rfl rfl) rfl ?_
       refine RA.fr XK 174 0 [9,10] (bt 11 2047) rfl rfl (by kernel_rfl) (Tell.of rfl) ?_
       (conv=>whnf);refine ⟨rfl,fun B=>?_⟩
       exact RA.to2 hall hf hb (ro15_5 B) rfl rfl (by kernel_rfl)
     have ro15_3 : ∀ B, RA f E B all 3 (bt 11 255) ⟨174, [(4, .obj b2 [I 0, I 0, I 0, I 0, I 0, .r (.v (.slice none 0 0)), I 0, I 0, .r (.v (.slice none 0 0)), I 0, I 0, I 0, .r (.v (.slice none 0 0)), .r (.v (.slice none 0 0))]), (35, .agg ((Node.c n).map .r)), (39, .al 26 (some 14) 12 ((([]) ++ n.peers.map (sendN n)).length) (q14 14) 0)] ++ b0⟩ K := by
      intro B
      refine RA.of2 hall hf hb (RA.stepH (L := [8]) (Tell.of rfl) (by kernel_rfl) (by simp) (RA.each ?_ (RA.each0)))
      ·skip
       refine RO.storeAgg (es := ((Node.c n).map .r)) rfl rfl rfl rfl rfl rfl rfl rfl rfl rfl (Nat.le_of_ble_eq_true rfl) rfl ?_
       refine RA.fr XK 174 0 [9,10] (bt 11 2047) rfl rfl (by kernel_rfl) (Tell.of rfl) ?_
       (conv=>whnf);refine ⟨rfl,fun B=>?_⟩
       exact RA.to2 hall hf hb (ro15_5 B) rfl rfl (by kernel_rfl)
     have ro15_2 : ∀ B, RA f E B all 4 (bt 11 247) ⟨174, [(4, .obj b2 [I 0, I 0, I 0, I 0, I 0, .r (.v (.slice none 0 0)), I 0, I 0, .r (.v (.slice none 0 0)), I 0, I 0, I 0, .r (.v (.slice none 0 0)), .r (.v (.slice none 0 0))]), (34, .pt 26 b11 0), (39, .al 26 (some 14) 12 ((([]) ++ n.peers.map (sendN n)).length) (q14 14) 0)] ++ b0⟩ K := by
      intro B
      refine RA.of2 hall hf hb (RA.stepH (L := [3]) (Tell.of rfl) (by kernel_rfl) (by simp) (RA.each ?_ (RA.each0)))
      ·skip
       refine RO.v rfl rfl (V.loadAgg rfl rfl rfl rfl rfl (Nat.le_of_ble_eq_true rfl)) rfl ?_
       exact RA.to2 hall hf hb (ro15_3 B) rfl rfl (by kernel_rfl)
     have ro15_1 : ∀ B, RA f E B all 4 (bt 11 127) ⟨174, [(4, .obj b2 [I 0, I 0, I 0, I 0, I 0, .r (.v (.slice none 0 0)), I 0, I 0, .r (.v (.slice none 0 0)), I 0, I 0, I 0, .r (.v (.slice none 0 0)), .r (.v (.slice none 0 0))]), (35, .agg ((Node.c n).map .r)), (38, .pt 26 b11 14)] ++ b0⟩ K := by
      intro B
      refine RA.of2 hall hf hb (RA.stepH (L := [7, 8]) (Tell.of rfl) (by kernel_rfl) (by simp) (RA.each ?_ (RA.each ?_ (RA.each0))))
      ·skip
       refine RO.v rfl rfl (V.loadPrim (d := .al 26 (some 14) 12 ((([]) ++ n.peers.map (sendN n)).length) (q14 14) 0) rfl rfl (.inr ⟨_, rfl⟩) rfl rfl rfl) rfl ?_
       exact RA.to2 hall hf hb (ro15_3 B) rfl rfl (by kernel_rfl)
      ·skip
       refine RO.storeAgg (es := ((Node.c n).map .r)) rfl rfl rfl rfl rfl rfl rfl rfl rfl rfl (Nat.le_of_ble_eq_true rfl) rfl ?_
       exact RA.to2 hall hf hb (ro15_4 B) rfl rfl (by kernel_rfl)
     have ro15_0 : ∀ B, RA f E B all 5 (bt 11 119) ⟨174, [(4, .obj b2 [I 0, I 0, I 0, I 0, I 0, .r (.v (.slice none 0 0)), I 0, I 0, .r (.v (.slice none 0 0)), I 0, I 0, I 0, .r (.v (.slice none 0 0)), .r (.v (.slice none 0 0))]), (34, .pt 26 b11 0), (38, .pt 26 b11 14)] ++ b0⟩ K := by
      intro B
      refine RA.of2 hall hf hb (RA.stepH (L := [3, 7]) (Tell.of rfl) (by kernel_rfl) (by simp) (RA.each ?_ (RA.each ?_ (RA.each0))))
      ·skip
       refine RO.v rfl rfl (V.loadAgg rfl rfl rfl rfl rfl (Nat.le_of_ble_eq_true rfl)) rfl ?_
       exact RA.to2 hall hf hb (ro15_1 B) rfl rfl (by kernel_rfl)
      ·skip
       refine RO.v rfl rfl (V.loadPrim (d := .al 26 (some 14) 12 ((([]) ++ n.peers.map (sendN n)).length) (q14 14) 0) rfl rfl (.inr ⟨_, rfl⟩) rfl rfl rfl) rfl ?_
       exact RA.to2 hall hf hb (ro15_2 B) rfl rfl (by kernel_rfl)
     refine RA.start (by kernel_rfl) (by kernel_rfl) (m := 11) (ls' := (bt 11 0)) ?_
     refine RA.fr XK 174 5 [0,1,2,4,5,6] (bt 11 119) rfl rfl (by kernel_rfl) (Tell.of rfl) ?_
     (conv=>whnf);refine ⟨rfl,fun B=>?_⟩
     exact RA.to2 hall hf hb (ro15_0 B) rfl rfl (by kernel_rfl)
    ·rintro _
     refine CW.takeO 5 26 14 (by decide) rfl rfl rfl ?_
     refine CW.ret ?_
     exact Post.tup (by decide) (RVs.c (RV.c (f := fun e => (Node.c e).map .r) (e' := n) rfl rfl rfl rfl (DT.r (DT.r (DT.r (DT.r (DT.r (DT.r (DT.r (DT.r (DT.r (DT.r (DT.r (DT.r (DT.r (DT.r DT.e)))))))))))))) (by first | (rw [tick_lead hgd h12]; done) | (rw [tick_lead hgd h12]; rfl))) (RVs.c (RV.w rfl (by first | (rw [tick_lead hgd h12]; done) | (rw [tick_lead hgd h12]; rfl))) (RVs.c (RV.b rfl (by first | (rw [tick_lead hgd h12]; done) | (rw [tick_lead hgd h12]; rfl))) RVs.e))) (AOs.a rfl (AOs.r AOs.e))
   ·skip
    refine CW.skip ?_
    refine CW.keep 174 [1,2,4,7,26] rfl ?_;(conv=>whnf);refine ⟨?_⟩
    refine CW.k XK 174 1 [1,2,4,7,26] rfl ?_
    (conv=>whnf);refine ⟨rfl,?_⟩
    refine CW.seq ?_
    refine CW.seq ?_
    refine CW.drawn (by kernel_rfl) ?_
    refine RQ.k XK 174 11 rfl ?_
    (conv=>whnf);refine ⟨rfl,?_⟩
    refine RQ.nil ?_
    refine CW.keep 174 [1,2,4,7,26,57] rfl ?_;(conv=>whnf);refine ⟨?_⟩
    refine CW.cond rfl (fun h16 => ?_) (fun h16 => ?_)
    ·skip
     refine CW.freezeM (k := 26) [false, false, false, false, false, true, false, false, true, false, false, false, true, true, false] rfl (ds' := [I n.id, I n.term_, I n.vote, I n.role, I n.lead, .r (sl 1 cI n.conf), I n.log.start, I n.log.startTerm, .r (sl 3 Entry.c n.log.entries), I n.commit, I (IntKind.i64.wrap (n.clock + 1)), I n.limit, .r (sl 1 cI n.votes), .r (sl 4 Peer.c n.peers), .r (.v (.slice none 0 0))]) rfl ?_
     refine CW.anyJ2 (fc := []) (L0 := []) 174 (fun (_ : Unit) => [(4, .obj b2 [I n.id, I n.term_, I n.vote, I n.role, I n.lead, .r (sl 1 cI n.conf), I n.log.start, I n.log.startTerm, .r (sl 3 Entry.c n.log.entries), I n.commit, I (IntKind.i64.wrap (n.clock + 1)), I n.limit, .r (sl 1 cI n.votes), .r (sl 4 Peer.c n.peers)]), (5, .r (.v (.slice none 0 0))), (6, Bo true)]) (fun all hall f hf b0 hb K hK => ?_) ?_
     ·skip
      have ro17_5 : ∀ B, RA f E B all 0 (bt 11 2047) ⟨174, [(4, .obj b2 [I n.id, I n.term_, I n.vote, I n.role, I n.lead, .r (sl 1 cI n.conf), I n.log.start, I n.log.startTerm, .r (sl 3 Entry.c n.log.entries), I n.commit, I (IntKind.i64.wrap (n.clock + 1)), I n.limit, .r (sl 1 cI n.votes), .r (sl 4 Peer.c n.peers)]), (5, .r (.v (.slice none 0 0))), (6, Bo true)] ++ b0⟩ K := by
       intro B
       exact RA.of2 hall hf hb (RA.finH (Tell.of rfl) (by kernel_rfl) (hK () _ rfl (Le.of rfl)))
      have ro17_4 : ∀ B, RA f E B all 3 (bt 11 383) ⟨174, [(4, .obj b2 [I n.id, I n.term_, I n.vote, I n.role, I n.lead, .r (sl 1 cI n.conf), I n.log.start, I n.log.startTerm, .r (sl 3 Entry.c n.log.entries), I n.commit, I (IntKind.i64.wrap (n.clock + 1)), I n.limit, .r (sl 1 cI n.votes), .r (sl 4 Peer.c n.peers)]), (26, .obj b11 [I n.id, I n.term_, I n.vote, I n.role, I n.lead, .r (sl 1 cI n.conf), I n.log.start, I n.log.startTerm, .r (sl 3 Entry.c n.log.entries), I n.commit, I (IntKind.i64.wrap (n.clock + 1)), I n.limit, .r (sl 1 cI n.votes), .r (sl 4 Peer.c n.peers), .r (.v (.slice none 0 0))]), (64, .pt 26 b11 14)] ++ b0⟩ K := by
       intro B
       refine RA.of2 hall hf hb (RA.stepH (L := [7]) (Tell.of rfl) (by kernel_rfl) (by simp) (RA.each ?_ (RA.each0)))
       ·skip
        refine RO.v rfl rfl (V.loadPrim (d := .r (.v (.slice none 0 0))) rfl rfl (.inr ⟨_, rfl⟩) rfl rfl rfl) rfl ?_
        refine RA.fr XK 174 0 [9,10] (bt 11 2047) rfl rfl (by kernel_rfl) (Tell.of rfl) ?_
        (conv=>whnf);refine ⟨rfl,fun B=>?_⟩
        exact RA.to2 hall hf hb (ro17_5 B) rfl rfl (by kernel_rfl)
      have ro17_3 : ∀ B, RA f E B all 3 (bt 11 255) ⟨174, [(4, .obj b2 [I 0, I 0, I 0, I 0, I 0, .r (.v (.slice none 0 0)), I 0, I 0, .r (.v (.slice none 0 0)), I 0, I 0, I 0, .r (.v (.slice none 0 0)), .r (.v (.slice none 0 0))]), (61, .agg [I n.id, I n.term_, I n.vote, I n.role, I n.lead, .r (sl 1 cI n.conf), I n.log.start, I n.log.startTerm, .r (sl 3 Entry.c n.log.entries), I n.commit, I (IntKind.i64.wrap (n.clock + 1)), I n.limit, .r (sl 1 cI n.votes), .r (sl 4 Peer.c n.peers)]), (65, .r (.v (.slice none 0 0)))] ++ b0⟩ K := by
       intro B
       refine RA.of2 hall hf hb (RA.stepH (L := [8]) (Tell.of rfl) (by kernel_rfl) (by simp) (RA.each ?_ (RA.each0)))
       ·skip
        refine RO.storeAgg (es := [I n.id, I n.term_, I n.vote, I n.role, I n.lead, .r (sl 1 cI n.conf), I n.log.start, I n.log.startTerm, .r (sl 3 Entry.c n.log.entries), I n.commit, I (IntKind.i64.wrap (n.clock + 1)), I n.limit, .r (sl 1 cI n.votes), .r (sl 4 Peer.c n.peers)]) rfl rfl rfl rfl rfl rfl rfl rfl rfl rfl (Nat.le_of_ble_eq_true rfl) rfl ?_
        refine RA.fr XK 174 0 [9,10] (bt 11 2047) rfl rfl (by kernel_rfl) (Tell.of rfl) ?_
        (conv=>whnf);refine ⟨rfl,fun B=>?_⟩
        exact RA.to2 hall hf hb (ro17_5 B) rfl rfl (by kernel_rfl)
      have ro17_2 : ∀ B, RA f E B all 4 (bt 11 247) ⟨174, [(4, .obj b2 [I 0, I 0, I 0, I 0, I 0, .r (.v (.slice none 0 0)), I 0, I 0, .r (.v (.slice none 0 0)), I 0, I 0, I 0, .r (.v (.slice none 0 0)), .r (.v (.slice none 0 0))]), (26, .obj b11 [I n.id, I n.term_, I n.vote, I n.role, I n.lead, .r (sl 1 cI n.conf), I n.log.start, I n.log.startTerm, .r (sl 3 Entry.c n.log.entries), I n.commit, I (IntKind.i64.wrap (n.clock + 1)), I n.limit, .r (sl 1 cI n.votes), .r (sl 4 Peer.c n.peers), .r (.v (.slice none 0 0))]), (60, .pt 26 b11 0), (65, .r (.v (.slice none 0 0)))] ++ b0⟩ K := by
       intro B
       refine RA.of2 hall hf hb (RA.stepH (L := [3]) (Tell.of rfl) (by kernel_rfl) (by simp) (RA.each ?_ (RA.each0)))
       ·skip
        refine RO.v rfl rfl (V.loadAgg rfl rfl rfl rfl rfl (Nat.le_of_ble_eq_true rfl)) rfl ?_
        exact RA.to2 hall hf hb (ro17_3 B) rfl rfl (by kernel_rfl)
      have ro17_1 : ∀ B, RA f E B all 4 (bt 11 127) ⟨174, [(4, .obj b2 [I 0, I 0, I 0, I 0, I 0, .r (.v (.slice none 0 0)), I 0, I 0, .r (.v (.slice none 0 0)), I 0, I 0, I 0, .r (.v (.slice none 0 0)), .r (.v (.slice none 0 0))]), (26, .obj b11 [I n.id, I n.term_, I n.vote, I n.role, I n.lead, .r (sl 1 cI n.conf), I n.log.start, I n.log.startTerm, .r (sl 3 Entry.c n.log.entries), I n.commit, I (IntKind.i64.wrap (n.clock + 1)), I n.limit, .r (sl 1 cI n.votes), .r (sl 4 Peer.c n.peers), .r (.v (.slice none 0 0))]), (61, .agg [I n.id, I n.term_, I n.vote, I n.role, I n.lead, .r (sl 1 cI n.conf), I n.log.start, I n.log.startTerm, .r (sl 3 Entry.c n.log.entries), I n.commit, I (IntKind.i64.wrap (n.clock + 1)), I n.limit, .r (sl 1 cI n.votes), .r (sl 4 Peer.c n.peers)]), (64, .pt 26 b11 14)] ++ b0⟩ K := by
       intro B
       refine RA.of2 hall hf hb (RA.stepH (L := [7, 8]) (Tell.of rfl) (by kernel_rfl) (by simp) (RA.each ?_ (RA.each ?_ (RA.each0))))
       ·skip
        refine RO.v rfl rfl (V.loadPrim (d := .r (.v (.slice none 0 0))) rfl rfl (.inr ⟨_, rfl⟩) rfl rfl rfl) rfl ?_
        exact RA.to2 hall hf hb (ro17_3 B) rfl rfl (by kernel_rfl)
       ·skip
        refine RO.storeAgg (es := [I n.id, I n.term_, I n.vote, I n.role, I n.lead, .r (sl 1 cI n.conf), I n.log.start, I n.log.startTerm, .r (sl 3 Entry.c n.log.entries), I n.commit, I (IntKind.i64.wrap (n.clock + 1)), I n.limit, .r (sl 1 cI n.votes), .r (sl 4 Peer.c n.peers)]) rfl rfl rfl rfl rfl rfl rfl rfl rfl rfl (Nat.le_of_ble_eq_true rfl) rfl ?_
        exact RA.to2 hall hf hb (ro17_4 B) rfl rfl (by kernel_rfl)
      have ro17_0 : ∀ B, RA f E B all 5 (bt 11 119) ⟨174, [(4, .obj b2 [I 0, I 0, I 0, I 0, I 0, .r (.v (.slice none 0 0)), I 0, I 0, .r (.v (.slice none 0 0)), I 0, I 0, I 0, .r (.v (.slice none 0 0)), .r (.v (.slice none 0 0))]), (26, .obj b11 [I n.id, I n.term_, I n.vote, I n.role, I n.lead, .r (sl 1 cI n.conf), I n.log.start, I n.log.startTerm, .r (sl 3 Entry.c n.log.entries), I n.commit, I (IntKind.i64.wrap (n.clock + 1)), I n.limit, .r (sl 1 cI n.votes), .r (sl 4 Peer.c n.peers), .r (.v (.slice none 0 0))]), (60, .pt 26 b11 0), (64, .pt 26 b11 14)] ++ b0⟩ K := by
       intro B
       refine RA.of2 hall hf hb (RA.stepH (L := [3, 7]) (Tell.of rfl) (by kernel_rfl) (by simp) (RA.each ?_ (RA.each ?_ (RA.each0))))
       ·skip
        refine RO.v rfl rfl (V.loadAgg rfl rfl rfl rfl rfl (Nat.le_of_ble_eq_true rfl)) rfl ?_
        exact RA.to2 hall hf hb (ro17_1 B) rfl rfl (by kernel_rfl)
       ·skip
        refine RO.v rfl rfl (V.loadPrim (d := .r (.v (.slice none 0 0))) rfl rfl (.inr ⟨_, rfl⟩) rfl rfl rfl) rfl ?_
        exact RA.to2 hall hf hb (ro17_2 B) rfl rfl (by kernel_rfl)
      refine RA.start (by kernel_rfl) (by kernel_rfl) (m := 11) (ls' := (bt 11 0)) ?_
      refine RA.fr XK 174 5 [0,1,2,4,5,6] (bt 11 119) rfl rfl (by kernel_rfl) (Tell.of rfl) ?_
      (conv=>whnf);refine ⟨rfl,fun B=>?_⟩
      exact RA.to2 hall hf hb (ro17_0 B) rfl rfl (by kernel_rfl)
     ·rintro _
      refine CW.ret ?_
      exact Post.tup (by decide) (RVs.c (RV.c (f := fun e => (Node.c e).map .r) (e' := (⟨n.id, n.term_, n.vote, n.role, n.lead, n.conf, n.log, n.commit, (IntKind.i64.wrap (n.clock + 1)), n.limit, n.votes, n.peers⟩ : Node)) rfl rfl rfl rfl (DT.r (DT.r (DT.r (DT.r (DT.r (DT.r (DT.r (DT.r (DT.r (DT.r (DT.r (DT.r (DT.r (DT.r DT.e)))))))))))))) (by first | (rw [tick_wait hgd h12 h16]; done) | (rw [tick_wait hgd h12 h16]; rfl))) (RVs.c (RV.n rfl (by first | (rw [tick_wait hgd h12 h16]; done) | (rw [tick_wait hgd h12 h16]; rfl))) (RVs.c (RV.b rfl (by first | (rw [tick_wait hgd h12 h16]; done) | (rw [tick_wait hgd h12 h16]; rfl))) RVs.e))) (AOs.a rfl (AOs.r AOs.e))
    ·skip
     refine CW.skip ?_
     refine CW.keep 174 [1,2,4,7,26] rfl ?_;(conv=>whnf);refine ⟨?_⟩
     refine CW.k XK 174 2 [2,4,7,26] rfl ?_
     (conv=>whnf);refine ⟨rfl,?_⟩
     refine CW.seq ?_
     refine CW.region ?_
     refine RW.k XK 174 4 rfl ?_
     (conv=>whnf);refine ⟨rfl,?_⟩
     refine RW.callOwn rfl (spec_ConfOf_fn (⟨n.id, n.term_, n.vote, n.role, n.lead, n.conf, n.log, n.commit, 0, limit, n.votes, n.peers⟩ : Node) hok) rfl (.cons (.agg (.cons (.r .r) (.cons (.r .r) (.cons (.r .r) (.cons (.r .r) (.cons (.r .r) (.cons (.r (.alo (k := none) (i := 26) (j := 5) (sz := 1) (V := (g10 0 5)) rfl rfl rfl nofun)) (.cons (.r .r) (.cons (.r .r) (.cons (.r (.alo (k := none) (i := 26) (j := 8) (sz := 3) (V := (g10 0 8)) rfl rfl rfl nofun)) (.cons (.r .r) (.cons (.r .r) (.cons (.r .r) (.cons (.r (.alo (k := none) (i := 26) (j := 12) (sz := 1) (V := (g10 0 12)) rfl rfl rfl nofun)) (.cons (.r (.alo (k := none) (i := 26) (j := 13) (sz := 4) (V := (g10 0 13)) rfl rfl rfl nofun)) (.nil)))))))))))))))) (.nil)) rfl fun g18 => ?_
     refine RW.assignMove rfl rfl rfl (by decide) (Nat.le_of_ble_eq_true rfl) (Nat.le_of_ble_eq_true rfl) ?_
     refine RW.nil ?_
     refine CW.keep 174 [2,4,7,8,26] rfl ?_;(conv=>whnf);refine ⟨?_⟩
     refine CW.seq ?_
     refine CW.seqJ 174 (fun (v19 : Bool) => [(2, .rp (Node.c n)), (4, .obj b2 [I 0, I 0, I 0, I 0, I 0, .r (.v (.slice none 0 0)), I 0, I 0, .r (.v (.slice none 0 0)), I 0, I 0, I 0, .r (.v (.slice none 0 0)), .r (.v (.slice none 0 0))]), (7, .pt 26 b11 0), (8, .w (sl 1 cI (confAtS (⟨n.id, n.term_, n.vote, n.role, n.lead, n.conf, n.log, n.commit, 0, limit, n.votes, n.peers⟩ : Node) 1000060)) (g18 0 0)), (26, .obj b11 [I n.id, I n.term_, I n.vote, I n.role, I n.lead, .w (sl 1 cI n.conf) (g10 0 5), I n.log.start, I n.log.startTerm, .w (sl 3 Entry.c n.log.entries) (g10 0 8), I n.commit, I 0, I limit, .w (sl 1 cI n.votes) (g10 0 12), .w (sl 4 Peer.c n.peers) (g10 0 13), .r (.v (.slice none 0 0))]), (89, Bo v19)]) (fun v19 => v19 = ((!(hasI (confAtS (⟨n.id, n.term_, n.vote, n.role, n.lead, n.conf, n.log, n.commit, 0, limit, n.votes, n.peers⟩ : Node) 1000060) n.id)) || (n.term_ == 100000))) ?_ ?_
     ·refine CW.region ?_
      refine RW.k XK 174 3 rfl ?_
      (conv=>whnf);refine ⟨rfl,?_⟩
      refine RW.callOwn rfl (spec_l05In_fn (confAtS (⟨n.id, n.term_, n.vote, n.role, n.lead, n.conf, n.log, n.commit, 0, limit, n.votes, n.peers⟩ : Node) 1000060) n.id) rfl (.cons (.one (.r (.al (k := none) (i := 8) (sz := 1) (V := (g18 0 0)) rfl rfl nofun))) (.cons (.one (.r .r)) (.nil))) rfl fun g20 => ?_
      refine RW.k XK 174 2 rfl ?_
      (conv=>whnf);refine ⟨rfl,?_⟩
      refine RW.gv rfl rfl rfl rfl (fun h21 => V.fieldR rfl rfl rfl rfl (by decide) rfl (Nat.le_of_ble_eq_true rfl)) (fun h21 => ?_) (fun h21 => ?_)
      ·skip
       refine RW.k XK 174 3 rfl ?_
       (conv=>whnf);refine ⟨rfl,?_⟩
       refine RW.nil ?_
       exact ⟨_, by first | rfl | (simp_all; done) | (simp_all; omega) | grind, rfl, Le.of rfl⟩
      ·skip
       refine RW.k XK 174 3 rfl ?_
       (conv=>whnf);refine ⟨rfl,?_⟩
       refine RW.nil ?_
       exact ⟨_, by first | rfl | (simp_all; done) | (simp_all; omega) | grind, rfl, Le.of rfl⟩
     ·intro v19 hv22
      refine CW.cond rfl (fun h23 => ?_) (fun h23 => ?_)
      ·skip
       have hst : (decide (n.term_ ≥ 100000) || !hasI (confN n) n.id) = true := (stay_eq hl htm).trans (hv22.symm.trans h23)
       refine CW.freezeM (k := 26) [false, false, false, false, false, true, false, false, true, false, false, false, true, true, false] rfl (ds' := [I n.id, I n.term_, I n.vote, I n.role, I n.lead, .r (sl 1 cI n.conf), I n.log.start, I n.log.startTerm, .r (sl 3 Entry.c n.log.entries), I n.commit, I 0, I limit, .r (sl 1 cI n.votes), .r (sl 4 Peer.c n.peers), .r (.v (.slice none 0 0))]) rfl ?_
       refine CW.anyJ2 (fc := []) (L0 := []) 174 (fun (_ : Unit) => [(4, .obj b2 [I n.id, I n.term_, I n.vote, I n.role, I n.lead, .r (sl 1 cI n.conf), I n.log.start, I n.log.startTerm, .r (sl 3 Entry.c n.log.entries), I n.commit, I 0, I limit, .r (sl 1 cI n.votes), .r (sl 4 Peer.c n.peers)]), (5, .r (.v (.slice none 0 0))), (6, Bo true)]) (fun all hall f hf b0 hb K hK => ?_) ?_
       ·skip
        have ro24_5 : ∀ B, RA f E B all 0 (bt 11 2047) ⟨174, [(4, .obj b2 [I n.id, I n.term_, I n.vote, I n.role, I n.lead, .r (sl 1 cI n.conf), I n.log.start, I n.log.startTerm, .r (sl 3 Entry.c n.log.entries), I n.commit, I 0, I limit, .r (sl 1 cI n.votes), .r (sl 4 Peer.c n.peers)]), (5, .r (.v (.slice none 0 0))), (6, Bo true)] ++ b0⟩ K := by
         intro B
         exact RA.of2 hall hf hb (RA.finH (Tell.of rfl) (by kernel_rfl) (hK () _ rfl (Le.of rfl)))
        have ro24_4 : ∀ B, RA f E B all 3 (bt 11 383) ⟨174, [(4, .obj b2 [I n.id, I n.term_, I n.vote, I n.role, I n.lead, .r (sl 1 cI n.conf), I n.log.start, I n.log.startTerm, .r (sl 3 Entry.c n.log.entries), I n.commit, I 0, I limit, .r (sl 1 cI n.votes), .r (sl 4 Peer.c n.peers)]), (26, .obj b11 [I n.id, I n.term_, I n.vote, I n.role, I n.lead, .r (sl 1 cI n.conf), I n.log.start, I n.log.startTerm, .r (sl 3 Entry.c n.log.entries), I n.commit, I 0, I limit, .r (sl 1 cI n.votes), .r (sl 4 Peer.c n.peers), .r (.v (.slice none 0 0))]), (96, .pt 26 b11 14)] ++ b0⟩ K := by
         intro B
         refine RA.of2 hall hf hb (RA.stepH (L := [7]) (Tell.of rfl) (by kernel_rfl) (by simp) (RA.each ?_ (RA.each0)))
         ·skip
          refine RO.v rfl rfl (V.loadPrim (d := .r (.v (.slice none 0 0))) rfl rfl (.inr ⟨_, rfl⟩) rfl rfl rfl) rfl ?_
          refine RA.fr XK 174 0 [9,10] (bt 11 2047) rfl rfl (by kernel_rfl) (Tell.of rfl) ?_
          (conv=>whnf);refine ⟨rfl,fun B=>?_⟩
          exact RA.to2 hall hf hb (ro24_5 B) rfl rfl (by kernel_rfl)
        have ro24_3 : ∀ B, RA f E B all 3 (bt 11 255) ⟨174, [(4, .obj b2 [I 0, I 0, I 0, I 0, I 0, .r (.v (.slice none 0 0)), I 0, I 0, .r (.v (.slice none 0 0)), I 0, I 0, I 0, .r (.v (.slice none 0 0)), .r (.v (.slice none 0 0))]), (93, .agg [I n.id, I n.term_, I n.vote, I n.role, I n.lead, .r (sl 1 cI n.conf), I n.log.start, I n.log.startTerm, .r (sl 3 Entry.c n.log.entries), I n.commit, I 0, I limit, .r (sl 1 cI n.votes), .r (sl 4 Peer.c n.peers)]), (97, .r (.v (.slice none 0 0)))] ++ b0⟩ K := by
         intro B
         refine RA.of2 hall hf hb (RA.stepH (L := [8]) (Tell.of rfl) (by kernel_rfl) (by simp) (RA.each ?_ (RA.each0)))
         ·skip
          refine RO.storeAgg (es := [I n.id, I n.term_, I n.vote, I n.role, I n.lead, .r (sl 1 cI n.conf), I n.log.start, I n.log.startTerm, .r (sl 3 Entry.c n.log.entries), I n.commit, I 0, I limit, .r (sl 1 cI n.votes), .r (sl 4 Peer.c n.peers)]) rfl rfl rfl rfl rfl rfl rfl rfl rfl rfl (Nat.le_of_ble_eq_true rfl) rfl ?_
          refine RA.fr XK 174 0 [9,10] (bt 11 2047) rfl rfl (by kernel_rfl) (Tell.of rfl) ?_
          (conv=>whnf);refine ⟨rfl,fun B=>?_⟩
          exact RA.to2 hall hf hb (ro24_5 B) rfl rfl (by kernel_rfl)
        have ro24_2 : ∀ B, RA f E B all 4 (bt 11 247) ⟨174, [(4, .obj b2 [I 0, I 0, I 0, I 0, I 0, .r (.v (.slice none 0 0)), I 0, I 0, .r (.v (.slice none 0 0)), I 0, I 0, I 0, .r (.v (.slice none 0 0)), .r (.v (.slice none 0 0))]), (26, .obj b11 [I n.id, I n.term_, I n.vote, I n.role, I n.lead, .r (sl 1 cI n.conf), I n.log.start, I n.log.startTerm, .r (sl 3 Entry.c n.log.entries), I n.commit, I 0, I limit, .r (sl 1 cI n.votes), .r (sl 4 Peer.c n.peers), .r (.v (.slice none 0 0))]), (92, .pt 26 b11 0), (97, .r (.v (.slice none 0 0)))] ++ b0⟩ K := by
         intro B
         refine RA.of2 hall hf hb (RA.stepH (L := [3]) (Tell.of rfl) (by kernel_rfl) (by simp) (RA.each ?_ (RA.each0)))
         ·skip
          refine RO.v rfl rfl (V.loadAgg rfl rfl rfl rfl rfl (Nat.le_of_ble_eq_true rfl)) rfl ?_
          exact RA.to2 hall hf hb (ro24_3 B) rfl rfl (by kernel_rfl)
        have ro24_1 : ∀ B, RA f E B all 4 (bt 11 127) ⟨174, [(4, .obj b2 [I 0, I 0, I 0, I 0, I 0, .r (.v (.slice none 0 0)), I 0, I 0, .r (.v (.slice none 0 0)), I 0, I 0, I 0, .r (.v (.slice none 0 0)), .r (.v (.slice none 0 0))]), (26, .obj b11 [I n.id, I n.term_, I n.vote, I n.role, I n.lead, .r (sl 1 cI n.conf), I n.log.start, I n.log.startTerm, .r (sl 3 Entry.c n.log.entries), I n.commit, I 0, I limit, .r (sl 1 cI n.votes), .r (sl 4 Peer.c n.peers), .r (.v (.slice none 0 0))]), (93, .agg [I n.id, I n.term_, I n.vote, I n.role, I n.lead, .r (sl 1 cI n.conf), I n.log.start, I n.log.startTerm, .r (sl 3 Entry.c n.log.entries), I n.commit, I 0, I limit, .r (sl 1 cI n.votes), .r (sl 4 Peer.c n.peers)]), (96, .pt 26 b11 14)] ++ b0⟩ K := by
         intro B
         refine RA.of2 hall hf hb (RA.stepH (L := [7, 8]) (Tell.of rfl) (by kernel_rfl) (by simp) (RA.each ?_ (RA.each ?_ (RA.each0))))
         ·skip
          refine RO.v rfl rfl (V.loadPrim (d := .r (.v (.slice none 0 0))) rfl rfl (.inr ⟨_, rfl⟩) rfl rfl rfl) rfl ?_
          exact RA.to2 hall hf hb (ro24_3 B) rfl rfl (by kernel_rfl)
         ·skip
          refine RO.storeAgg (es := [I n.id, I n.term_, I n.vote, I n.role, I n.lead, .r (sl 1 cI n.conf), I n.log.start, I n.log.startTerm, .r (sl 3 Entry.c n.log.entries), I n.commit, I 0, I limit, .r (sl 1 cI n.votes), .r (sl 4 Peer.c n.peers)]) rfl rfl rfl rfl rfl rfl rfl rfl rfl rfl (Nat.le_of_ble_eq_true rfl) rfl ?_
          exact RA.to2 hall hf hb (ro24_4 B) rfl rfl (by kernel_rfl)
        have ro24_0 : ∀ B, RA f E B all 5 (bt 11 119) ⟨174, [(4, .obj b2 [I 0, I 0, I 0, I 0, I 0, .r (.v (.slice none 0 0)), I 0, I 0, .r (.v (.slice none 0 0)), I 0, I 0, I 0, .r (.v (.slice none 0 0)), .r (.v (.slice none 0 0))]), (26, .obj b11 [I n.id, I n.term_, I n.vote, I n.role, I n.lead, .r (sl 1 cI n.conf), I n.log.start, I n.log.startTerm, .r (sl 3 Entry.c n.log.entries), I n.commit, I 0, I limit, .r (sl 1 cI n.votes), .r (sl 4 Peer.c n.peers), .r (.v (.slice none 0 0))]), (92, .pt 26 b11 0), (96, .pt 26 b11 14)] ++ b0⟩ K := by
         intro B
         refine RA.of2 hall hf hb (RA.stepH (L := [3, 7]) (Tell.of rfl) (by kernel_rfl) (by simp) (RA.each ?_ (RA.each ?_ (RA.each0))))
         ·skip
          refine RO.v rfl rfl (V.loadAgg rfl rfl rfl rfl rfl (Nat.le_of_ble_eq_true rfl)) rfl ?_
          exact RA.to2 hall hf hb (ro24_1 B) rfl rfl (by kernel_rfl)
         ·skip
          refine RO.v rfl rfl (V.loadPrim (d := .r (.v (.slice none 0 0))) rfl rfl (.inr ⟨_, rfl⟩) rfl rfl rfl) rfl ?_
          exact RA.to2 hall hf hb (ro24_2 B) rfl rfl (by kernel_rfl)
        refine RA.start (by kernel_rfl) (by kernel_rfl) (m := 11) (ls' := (bt 11 0)) ?_
        refine RA.fr XK 174 5 [0,1,2,4,5,6] (bt 11 119) rfl rfl (by kernel_rfl) (Tell.of rfl) ?_
        (conv=>whnf);refine ⟨rfl,fun B=>?_⟩
        exact RA.to2 hall hf hb (ro24_0 B) rfl rfl (by kernel_rfl)
       ·rintro _
        refine CW.ret ?_
        exact Post.tup (by decide) (RVs.c (RV.c (f := fun e => (Node.c e).map .r) (e' := (⟨n.id, n.term_, n.vote, n.role, n.lead, n.conf, n.log, n.commit, 0, limit, n.votes, n.peers⟩ : Node)) rfl rfl rfl rfl (DT.r (DT.r (DT.r (DT.r (DT.r (DT.r (DT.r (DT.r (DT.r (DT.r (DT.r (DT.r (DT.r (DT.r DT.e)))))))))))))) (by first | (rw [tick_stay hgd h12 h16 hst]; done) | (rw [tick_stay hgd h12 h16 hst]; rfl))) (RVs.c (RV.n rfl (by first | (rw [tick_stay hgd h12 h16 hst]; done) | (rw [tick_stay hgd h12 h16 hst]; rfl))) (RVs.c (RV.b rfl (by first | (rw [tick_stay hgd h12 h16 hst]; done) | (rw [tick_stay hgd h12 h16 hst]; rfl))) RVs.e))) (AOs.a rfl (AOs.r AOs.e))
      ·skip
       have hst : (decide (n.term_ ≥ 100000) || !hasI (confN n) n.id) = false := (stay_eq hl htm).trans (hv22.symm.trans h23)
       have hterm : 0 ≤ n.term_ ∧ n.term_ < 100000 := by unfold inR at htm; simp at htm hst; omega
       refine CW.skip ?_
       refine CW.keep 174 [2,4,7,8,26] rfl ?_;(conv=>whnf);refine ⟨?_⟩
       refine CW.k XK 174 4 [2,4,7,8,26] rfl ?_
       (conv=>whnf);refine ⟨rfl,?_⟩
       refine CW.seq ?_
       refine CW.region ?_
       refine RW.k XK 174 3 rfl ?_
       (conv=>whnf);refine ⟨rfl,?_⟩
       refine RW.build1c (c := cI) (v := n.id) (u := .v (.int .i64 n.id)) rfl rfl rfl rfl rfl rfl (.inl rfl) rfl rfl fun X25 => ?_
       refine RW.k XK 174 4 rfl ?_
       (conv=>whnf);refine ⟨rfl,?_⟩
       refine RW.keep 174 [2,4,7,8,26,122] rfl ?_;(conv=>whnf);refine ⟨?_⟩
       refine RW.pullT (k := 26) (l := 122) (j := 12) 26 122 12 rfl rfl rfl (by decide) rfl rfl rfl ?_
       refine RW.keep 174 [2,4,7,8,26] rfl ?_;(conv=>whnf);refine ⟨?_⟩
       refine RW.nil ?_
       refine CW.keep 174 [2,4,7,8,26] rfl ?_;(conv=>whnf);refine ⟨?_⟩
       refine CW.seq ?_
       refine CW.seq ?_
       refine CW.region ?_
       refine RW.k XK 174 1 rfl ?_
       (conv=>whnf);refine ⟨rfl,?_⟩
       refine RW.callOwn rfl (spec_l18Elected_fn (⟨(⟨n.id, (IntKind.i64.wrap (n.term_ + 1)), n.id, 1, 0, n.conf, n.log, n.commit, 0, limit, [n.id], n.peers⟩ : Node), []⟩ : l18Run) (okStand hok)) rfl (.cons (.one (.r (.pt rfl rfl (DRd.r (DRd.r (DRd.r (DRd.r (DRd.r (DRd.ow (DRd.r (DRd.r (DRd.ow (DRd.r (DRd.r (DRd.r (DRd.ow (DRd.ow (DRd.n DRd.e))))))))))))))) nofun))) (.nil)) rfl fun g26 => ?_
       refine RW.nil ?_
       refine CW.keep 174 [2,4,7,8,26,127] rfl ?_;(conv=>whnf);refine ⟨?_⟩
       refine CW.cond rfl (fun h27 => ?_) (fun h27 => ?_)
       ·skip
        have hmy : most (confN ({ n with clock := 0, limit := limit } : Node)) [n.id] = true := (congrArg (fun c => most c [n.id]) (conf_eqB (n := n) hl).symm).trans h27
        refine CW.seq ?_
        refine CW.region ?_
        refine RW.k XK 174 1 rfl ?_
        (conv=>whnf);refine ⟨rfl,?_⟩
        refine RW.callP (k := 26) (spec_l18Lead_fn (⟨(⟨n.id, (IntKind.i64.wrap (n.term_ + 1)), n.id, 1, 0, n.conf, n.log, n.commit, 0, limit, [n.id], n.peers⟩ : Node), []⟩ : l18Run) hl (okStand hok) (term_up hn hterm.2 hterm.1 rfl rfl rfl) (Nat.zero_le _)) rfl rfl (Nat.le_of_ble_eq_true rfl) (by decide) rfl (DT.v (DT.v (DT.v (DT.v (DT.v (DT.w (DT.v (DT.v (DT.w (DT.v (DT.v (DT.v (DT.w (DT.w (DT.n DT.e))))))))))))))) (AsPs.here rfl (.nil)) fun g28 q29 => ?_
        refine RW.nil ?_
        refine CW.keep 174 [4,7,26] rfl ?_;(conv=>whnf);refine ⟨?_⟩
        refine CW.anyJ2 (fc := []) (L0 := [(26, .obj b11 [I ((leadN (⟨n.id, (IntKind.i64.wrap (n.term_ + 1)), n.id, 1, 0, n.conf, n.log, n.commit, 0, limit, [n.id], n.peers⟩ : Node)).id), I ((leadN (⟨n.id, (IntKind.i64.wrap (n.term_ + 1)), n.id, 1, 0, n.conf, n.log, n.commit, 0, limit, [n.id], n.peers⟩ : Node)).term_), I ((leadN (⟨n.id, (IntKind.i64.wrap (n.term_ + 1)), n.id, 1, 0, n.conf, n.log, n.commit, 0, limit, [n.id], n.peers⟩ : Node)).vote), I ((leadN (⟨n.id, (IntKind.i64.wrap (n.term_ + 1)), n.id, 1, 0, n.conf, n.log, n.commit, 0, limit, [n.id], n.peers⟩ : Node)).role), I ((leadN (⟨n.id, (IntKind.i64.wrap (n.term_ + 1)), n.id, 1, 0, n.conf, n.log, n.commit, 0, limit, [n.id], n.peers⟩ : Node)).lead), .r (sl 1 cI ((leadN (⟨n.id, (IntKind.i64.wrap (n.term_ + 1)), n.id, 1, 0, n.conf, n.log, n.commit, 0, limit, [n.id], n.peers⟩ : Node)).conf)), I (((leadN (⟨n.id, (IntKind.i64.wrap (n.term_ + 1)), n.id, 1, 0, n.conf, n.log, n.commit, 0, limit, [n.id], n.peers⟩ : Node)).log).start), I (((leadN (⟨n.id, (IntKind.i64.wrap (n.term_ + 1)), n.id, 1, 0, n.conf, n.log, n.commit, 0, limit, [n.id], n.peers⟩ : Node)).log).startTerm), .r (sl 3 Entry.c (((leadN (⟨n.id, (IntKind.i64.wrap (n.term_ + 1)), n.id, 1, 0, n.conf, n.log, n.commit, 0, limit, [n.id], n.peers⟩ : Node)).log).entries)), I ((leadN (⟨n.id, (IntKind.i64.wrap (n.term_ + 1)), n.id, 1, 0, n.conf, n.log, n.commit, 0, limit, [n.id], n.peers⟩ : Node)).commit), I ((leadN (⟨n.id, (IntKind.i64.wrap (n.term_ + 1)), n.id, 1, 0, n.conf, n.log, n.commit, 0, limit, [n.id], n.peers⟩ : Node)).clock), I ((leadN (⟨n.id, (IntKind.i64.wrap (n.term_ + 1)), n.id, 1, 0, n.conf, n.log, n.commit, 0, limit, [n.id], n.peers⟩ : Node)).limit), .r (sl 1 cI ((leadN (⟨n.id, (IntKind.i64.wrap (n.term_ + 1)), n.id, 1, 0, n.conf, n.log, n.commit, 0, limit, [n.id], n.peers⟩ : Node)).votes)), .r (sl 4 Peer.c ((leadN (⟨n.id, (IntKind.i64.wrap (n.term_ + 1)), n.id, 1, 0, n.conf, n.log, n.commit, 0, limit, [n.id], n.peers⟩ : Node)).peers)), .w (sl 12 Message.c (([]) ++ (leadN (⟨n.id, (IntKind.i64.wrap (n.term_ + 1)), n.id, 1, 0, n.conf, n.log, n.commit, 0, limit, [n.id], n.peers⟩ : Node)).peers.map (sendN (leadN (⟨n.id, (IntKind.i64.wrap (n.term_ + 1)), n.id, 1, 0, n.conf, n.log, n.commit, 0, limit, [n.id], n.peers⟩ : Node))))) (q29 14)])]) 174 (fun (_ : Unit) => [(4, .obj b2 ((Node.c (leadN (⟨n.id, (IntKind.i64.wrap (n.term_ + 1)), n.id, 1, 0, n.conf, n.log, n.commit, 0, limit, [n.id], n.peers⟩ : Node))).map .r)), (5, .al 26 (some 14) 12 ((([]) ++ (leadN (⟨n.id, (IntKind.i64.wrap (n.term_ + 1)), n.id, 1, 0, n.conf, n.log, n.commit, 0, limit, [n.id], n.peers⟩ : Node)).peers.map (sendN (leadN (⟨n.id, (IntKind.i64.wrap (n.term_ + 1)), n.id, 1, 0, n.conf, n.log, n.commit, 0, limit, [n.id], n.peers⟩ : Node)))).length) (q29 14) 0), (6, Bo true)]) (fun all hall f hf b0 hb K hK => ?_) ?_
        ·skip
         have ro30_5 : ∀ B, RA f E B all 0 (bt 11 2047) ⟨174, [(4, .obj b2 ((Node.c (leadN (⟨n.id, (IntKind.i64.wrap (n.term_ + 1)), n.id, 1, 0, n.conf, n.log, n.commit, 0, limit, [n.id], n.peers⟩ : Node))).map .r)), (5, .al 26 (some 14) 12 ((([]) ++ (leadN (⟨n.id, (IntKind.i64.wrap (n.term_ + 1)), n.id, 1, 0, n.conf, n.log, n.commit, 0, limit, [n.id], n.peers⟩ : Node)).peers.map (sendN (leadN (⟨n.id, (IntKind.i64.wrap (n.term_ + 1)), n.id, 1, 0, n.conf, n.log, n.commit, 0, limit, [n.id], n.peers⟩ : Node)))).length) (q29 14) 0), (6, Bo true)] ++ b0⟩ K := by
          intro B
          exact RA.of2 hall hf hb (RA.finH (Tell.of rfl) (by kernel_rfl) (hK () _ rfl (Le.of rfl)))
         have ro30_4 : ∀ B, RA f E B all 3 (bt 11 383) ⟨174, [(4, .obj b2 ((Node.c (leadN (⟨n.id, (IntKind.i64.wrap (n.term_ + 1)), n.id, 1, 0, n.conf, n.log, n.commit, 0, limit, [n.id], n.peers⟩ : Node))).map .r)), (136, .pt 26 b11 14)] ++ b0⟩ K := by
          intro B
          refine RA.of2 hall hf hb (RA.stepH (L := [7]) (Tell.of rfl) (by kernel_rfl) (by simp) (RA.each ?_ (RA.each0)))
          ·skip
           refine RO.v rfl rfl (V.loadPrim (d := .al 26 (some 14) 12 ((([]) ++ (leadN (⟨n.id, (IntKind.i64.wrap (n.term_ + 1)), n.id, 1, 0, n.conf, n.log, n.commit, 0, limit, [n.id], n.peers⟩ : Node)).peers.map (sendN (leadN (⟨n.id, (IntKind.i64.wrap (n.term_ + 1)), n.id, 1, 0, n.conf, n.log, n.commit, 0, limit, [n.id], n.peers⟩ : Node)))).length) (q29 14) 0) rfl rfl (.inr ⟨_, rfl⟩) rfl rfl rfl) rfl ?_
           refine RA.fr XK 174 0 [9,10] (bt 11 2047) rfl rfl (by kernel_rfl) (Tell.of rfl) ?_
           (conv=>whnf);refine ⟨rfl,fun B=>?_⟩
           exact RA.to2 hall hf hb (ro30_5 B) rfl rfl (by kernel_rfl)
         have ro30_3 : ∀ B, RA f E B all 3 (bt 11 255) ⟨174, [(4, .obj b2 [I 0, I 0, I 0, I 0, I 0, .r (.v (.slice none 0 0)), I 0, I 0, .r (.v (.slice none 0 0)), I 0, I 0, I 0, .r (.v (.slice none 0 0)), .r (.v (.slice none 0 0))]), (133, .agg ((Node.c (leadN (⟨n.id, (IntKind.i64.wrap (n.term_ + 1)), n.id, 1, 0, n.conf, n.log, n.commit, 0, limit, [n.id], n.peers⟩ : Node))).map .r)), (137, .al 26 (some 14) 12 ((([]) ++ (leadN (⟨n.id, (IntKind.i64.wrap (n.term_ + 1)), n.id, 1, 0, n.conf, n.log, n.commit, 0, limit, [n.id], n.peers⟩ : Node)).peers.map (sendN (leadN (⟨n.id, (IntKind.i64.wrap (n.term_ + 1)), n.id, 1, 0, n.conf, n.log, n.commit, 0, limit, [n.id], n.peers⟩ : Node)))).length) (q29 14) 0)] ++ b0⟩ K := by
          intro B
          refine RA.of2 hall hf hb (RA.stepH (L := [8]) (Tell.of rfl) (by kernel_rfl) (by simp) (RA.each ?_ (RA.each0)))
          ·skip
           refine RO.storeAgg (es := ((Node.c (leadN (⟨n.id, (IntKind.i64.wrap (n.term_ + 1)), n.id, 1, 0, n.conf, n.log, n.commit, 0, limit, [n.id], n.peers⟩ : Node))).map .r)) rfl rfl rfl rfl rfl rfl rfl rfl rfl rfl (Nat.le_of_ble_eq_true rfl) rfl ?_
           refine RA.fr XK 174 0 [9,10] (bt 11 2047) rfl rfl (by kernel_rfl) (Tell.of rfl) ?_
           (conv=>whnf);refine ⟨rfl,fun B=>?_⟩
           exact RA.to2 hall hf hb (ro30_5 B) rfl rfl (by kernel_rfl)
         have ro30_2 : ∀ B, RA f E B all 4 (bt 11 247) ⟨174, [(4, .obj b2 [I 0, I 0, I 0, I 0, I 0, .r (.v (.slice none 0 0)), I 0, I 0, .r (.v (.slice none 0 0)), I 0, I 0, I 0, .r (.v (.slice none 0 0)), .r (.v (.slice none 0 0))]), (132, .pt 26 b11 0), (137, .al 26 (some 14) 12 ((([]) ++ (leadN (⟨n.id, (IntKind.i64.wrap (n.term_ + 1)), n.id, 1, 0, n.conf, n.log, n.commit, 0, limit, [n.id], n.peers⟩ : Node)).peers.map (sendN (leadN (⟨n.id, (IntKind.i64.wrap (n.term_ + 1)), n.id, 1, 0, n.conf, n.log, n.commit, 0, limit, [n.id], n.peers⟩ : Node)))).length) (q29 14) 0)] ++ b0⟩ K := by
          intro B
          refine RA.of2 hall hf hb (RA.stepH (L := [3]) (Tell.of rfl) (by kernel_rfl) (by simp) (RA.each ?_ (RA.each0)))
          ·skip
           refine RO.v rfl rfl (V.loadAgg rfl rfl rfl rfl rfl (Nat.le_of_ble_eq_true rfl)) rfl ?_
           exact RA.to2 hall hf hb (ro30_3 B) rfl rfl (by kernel_rfl)
         have ro30_1 : ∀ B, RA f E B all 4 (bt 11 127) ⟨174, [(4, .obj b2 [I 0, I 0, I 0, I 0, I 0, .r (.v (.slice none 0 0)), I 0, I 0, .r (.v (.slice none 0 0)), I 0, I 0, I 0, .r (.v (.slice none 0 0)), .r (.v (.slice none 0 0))]), (133, .agg ((Node.c (leadN (⟨n.id, (IntKind.i64.wrap (n.term_ + 1)), n.id, 1, 0, n.conf, n.log, n.commit, 0, limit, [n.id], n.peers⟩ : Node))).map .r)), (136, .pt 26 b11 14)] ++ b0⟩ K := by
          intro B
          refine RA.of2 hall hf hb (RA.stepH (L := [7, 8]) (Tell.of rfl) (by kernel_rfl) (by simp) (RA.each ?_ (RA.each ?_ (RA.each0))))
          ·skip
           refine RO.v rfl rfl (V.loadPrim (d := .al 26 (some 14) 12 ((([]) ++ (leadN (⟨n.id, (IntKind.i64.wrap (n.term_ + 1)), n.id, 1, 0, n.conf, n.log, n.commit, 0, limit, [n.id], n.peers⟩ : Node)).peers.map (sendN (leadN (⟨n.id, (IntKind.i64.wrap (n.term_ + 1)), n.id, 1, 0, n.conf, n.log, n.commit, 0, limit, [n.id], n.peers⟩ : Node)))).length) (q29 14) 0) rfl rfl (.inr ⟨_, rfl⟩) rfl rfl rfl) rfl ?_
           exact RA.to2 hall hf hb (ro30_3 B) rfl rfl (by kernel_rfl)
          ·skip
           refine RO.storeAgg (es := ((Node.c (leadN (⟨n.id, (IntKind.i64.wrap (n.term_ + 1)), n.id, 1, 0, n.conf, n.log, n.commit, 0, limit, [n.id], n.peers⟩ : Node))).map .r)) rfl rfl rfl rfl rfl rfl rfl rfl rfl rfl (Nat.le_of_ble_eq_true rfl) rfl ?_
           exact RA.to2 hall hf hb (ro30_4 B) rfl rfl (by kernel_rfl)
         have ro30_0 : ∀ B, RA f E B all 5 (bt 11 119) ⟨174, [(4, .obj b2 [I 0, I 0, I 0, I 0, I 0, .r (.v (.slice none 0 0)), I 0, I 0, .r (.v (.slice none 0 0)), I 0, I 0, I 0, .r (.v (.slice none 0 0)), .r (.v (.slice none 0 0))]), (132, .pt 26 b11 0), (136, .pt 26 b11 14)] ++ b0⟩ K := by
          intro B
          refine RA.of2 hall hf hb (RA.stepH (L := [3, 7]) (Tell.of rfl) (by kernel_rfl) (by simp) (RA.each ?_ (RA.each ?_ (RA.each0))))
          ·skip
           refine RO.v rfl rfl (V.loadAgg rfl rfl rfl rfl rfl (Nat.le_of_ble_eq_true rfl)) rfl ?_
           exact RA.to2 hall hf hb (ro30_1 B) rfl rfl (by kernel_rfl)
          ·skip
           refine RO.v rfl rfl (V.loadPrim (d := .al 26 (some 14) 12 ((([]) ++ (leadN (⟨n.id, (IntKind.i64.wrap (n.term_ + 1)), n.id, 1, 0, n.conf, n.log, n.commit, 0, limit, [n.id], n.peers⟩ : Node)).peers.map (sendN (leadN (⟨n.id, (IntKind.i64.wrap (n.term_ + 1)), n.id, 1, 0, n.conf, n.log, n.commit, 0, limit, [n.id], n.peers⟩ : Node)))).length) (q29 14) 0) rfl rfl (.inr ⟨_, rfl⟩) rfl rfl rfl) rfl ?_
           exact RA.to2 hall hf hb (ro30_2 B) rfl rfl (by kernel_rfl)
         refine RA.start (by kernel_rfl) (by kernel_rfl) (m := 11) (ls' := (bt 11 0)) ?_
         refine RA.fr XK 174 5 [0,1,2,4,5,6] (bt 11 119) rfl rfl (by kernel_rfl) (Tell.of rfl) ?_
         (conv=>whnf);refine ⟨rfl,fun B=>?_⟩
         exact RA.to2 hall hf hb (ro30_0 B) rfl rfl (by kernel_rfl)
        ·rintro _
         refine CW.takeO 5 26 14 (by decide) rfl rfl rfl ?_
         refine CW.ret ?_
         exact Post.tup (by decide) (RVs.c (RV.c (f := fun e => (Node.c e).map .r) (e' := (leadN (⟨n.id, (IntKind.i64.wrap (n.term_ + 1)), n.id, 1, 0, n.conf, n.log, n.commit, 0, limit, [n.id], n.peers⟩ : Node))) rfl rfl rfl rfl (DT.r (DT.r (DT.r (DT.r (DT.r (DT.r (DT.r (DT.r (DT.r (DT.r (DT.r (DT.r (DT.r (DT.r DT.e)))))))))))))) (by first | (rw [tick_go hgd h12 h16 hst, standN_yes hmy]; done) | (rw [tick_go hgd h12 h16 hst, standN_yes hmy]; rfl))) (RVs.c (RV.w rfl (by first | (rw [tick_go hgd h12 h16 hst, standN_yes hmy]; done) | (rw [tick_go hgd h12 h16 hst, standN_yes hmy]; rfl))) (RVs.c (RV.b rfl (by first | (rw [tick_go hgd h12 h16 hst, standN_yes hmy]; done) | (rw [tick_go hgd h12 h16 hst, standN_yes hmy]; rfl))) RVs.e))) (AOs.a rfl (AOs.r AOs.e))
       ·skip
        have hmn : most (confN ({ n with clock := 0, limit := limit } : Node)) [n.id] = false := (congrArg (fun c => most c [n.id]) (conf_eqB (n := n) hl).symm).trans h27
        refine CW.skip ?_
        refine CW.keep 174 [2,4,7,8,26] rfl ?_;(conv=>whnf);refine ⟨?_⟩
        refine CW.seq ?_
        refine CW.region ?_
        refine RW.k XK 174 5 rfl ?_
        (conv=>whnf);refine ⟨rfl,?_⟩
        refine RW.callOwn rfl (spec_LogLast_fn n.log (hok.2.1)) rfl (.cons (.agg (.cons (.r .r) (.cons (.r .r) (.cons (.r (.alo (k := none) (i := 26) (j := 8) (sz := 3) (V := (g10 0 8)) rfl rfl rfl nofun)) (.nil))))) (.nil)) rfl fun g31 => ?_
        refine RW.k XK 174 5 rfl ?_
        (conv=>whnf);refine ⟨rfl,?_⟩
        refine RW.nil ?_
        refine CW.keep 174 [2,4,7,8,9,10,26] rfl ?_;(conv=>whnf);refine ⟨?_⟩
        refine CW.seq ?_
        refine CW.region ?_
        refine RW.k XK 174 3 rfl ?_
        (conv=>whnf);refine ⟨rfl,?_⟩
        refine RW.callOwn rfl (spec_l18Others_fn (confAtS (⟨n.id, n.term_, n.vote, n.role, n.lead, n.conf, n.log, n.commit, 0, limit, n.votes, n.peers⟩ : Node) 1000060) n.id (confAtS_len (show okToNode _ from hok) _)) rfl (.cons (.one (.r (.al (k := none) (i := 8) (sz := 1) (V := (g18 0 0)) rfl rfl nofun))) (.cons (.one (.r .r)) (.nil))) rfl fun g32 => ?_
        refine RW.assignMove rfl rfl rfl (by decide) (Nat.le_of_ble_eq_true rfl) (Nat.le_of_ble_eq_true rfl) ?_
        refine RW.nil ?_
        obtain ⟨L33, hn34⟩ : ∃ z : List Int, z = others (confAtS (⟨n.id, n.term_, n.vote, n.role, n.lead, n.conf, n.log, n.commit, 0, limit, n.votes, n.peers⟩ : Node) 1000060) n.id := ⟨_, rfl⟩
        refine CW.le [(4, .obj b2 [I 0, I 0, I 0, I 0, I 0, .r (.v (.slice none 0 0)), I 0, I 0, .r (.v (.slice none 0 0)), I 0, I 0, I 0, .r (.v (.slice none 0 0)), .r (.v (.slice none 0 0))]), (7, .pt 26 b11 0), (9, I ((logLast n.log).1)), (10, I ((logLast n.log).2)), (11, .w (sl 1 cI L33) (g32 0 0)), (26, .obj b11 [I n.id, I (IntKind.i64.wrap (n.term_ + 1)), I n.id, I 1, I 0, .w (sl 1 cI n.conf) (g10 0 5), I n.log.start, I n.log.startTerm, .w (sl 3 Entry.c n.log.entries) (g10 0 8), I n.commit, I 0, I limit, .w (sl 1 cI ([n.id])) X25, .w (sl 4 Peer.c n.peers) (g10 0 13), .r (.v (.slice none 0 0))])] rfl (Le.c rfl <| Le.c rfl <| Le.c rfl <| Le.c rfl <| Le.c (by subst hn34; rfl) <| Le.c rfl <| Le.e) ?_
        refine CW.keep 174 [4,7,9,10,11,26] rfl ?_;(conv=>whnf);refine ⟨?_⟩
        refine CW.seq ?_
        refine CW.k XK 174 1 [4,7,9,10,11,12,26] rfl ?_
        (conv=>whnf);refine ⟨rfl,?_⟩
        refine CW.block ?_
        refine CW.freezeM (k := 26) [false, false, false, false, false, true, false, false, true, false, false, false, true, true, false] rfl (ds' := [I n.id, I (IntKind.i64.wrap (n.term_ + 1)), I n.id, I 1, I 0, .r (sl 1 cI n.conf), I n.log.start, I n.log.startTerm, .r (sl 3 Entry.c n.log.entries), I n.commit, I 0, I limit, .r (sl 1 cI ([n.id])), .r (sl 4 Peer.c n.peers), .r (.v (.slice none 0 0))]) rfl ?_
        refine CW.nilCell 26 14 12 Message.c rfl rfl ?_
        refine CW.loopI 174 (fun (zz : Nat × Value) => match zz with | (i, X) => [(4, .obj b2 [I 0, I 0, I 0, I 0, I 0, .r (.v (.slice none 0 0)), I 0, I 0, .r (.v (.slice none 0 0)), I 0, I 0, I 0, .r (.v (.slice none 0 0)), .r (.v (.slice none 0 0))]), (7, .pt 26 b11 0), (9, I ((logLast n.log).1)), (10, I ((logLast n.log).2)), (11, .w (sl 1 cI L33) (g32 0 0)), (12, I (i : Int)), (26, .obj b11 [I n.id, I (IntKind.i64.wrap (n.term_ + 1)), I n.id, I 1, I 0, .r (sl 1 cI n.conf), I n.log.start, I n.log.startTerm, .r (sl 3 Entry.c n.log.entries), I n.commit, I 0, I limit, .r (sl 1 cI ([n.id])), .r (sl 4 Peer.c n.peers), .w (sl 12 Message.c ((L33.take i).map fun q => tellM (⟨n.id, (IntKind.i64.wrap (n.term_ + 1)), n.id, 1, 0, n.conf, n.log, n.commit, 0, limit, [n.id], n.peers⟩ : Node) (⟨1, 0, q, 0, (logLast n.log).1, (logLast n.log).2, 0, false, [], [], ⟨#[]⟩, false⟩ : Message))) X])]) (fun (zz : Nat × Value) => match zz with | (i, X) => i ≤ L33.length) (fun (zz : Nat × Value) => match zz with | (i, X) => L33.length - i) (0, _) rfl (Le.c rfl <| Le.c rfl <| Le.c rfl <| Le.c rfl <| Le.c rfl <| Le.c rfl <| Le.c rfl <| Le.e) (by omega) ?_
        rintro ⟨i, X⟩ hb
        have hlL : L33.length ≤ 1048576 := by rw [hn34]; exact Nat.le_trans (others_len _ _) (confAtS_len (show okToNode _ from hok) _)
        have hl0 : L33.length ≤ maxLen := Nat.le_trans hlL (by decide)
        refine CW.seq ?_
        refine CW.k XK 174 1 [4,7,9,10,11,12,26,154] rfl ?_
        (conv=>whnf);refine ⟨rfl,?_⟩
        refine CW.cond rfl (fun h35 => ?_) (fun h35 => ?_)
        ·skip
         have hii : i < L33.length := by have := h35; simp at this; first | exact this | omega | (simp; done) | (simp; omega)
         obtain ⟨ei, hei⟩ : ∃ e, L33[i]? = some e := ⟨_, List.getElem?_eq_getElem hii⟩
         have hdi := drop_get hei
         refine CW.skip ?_
         refine CW.keep 174 [4,7,9,10,11,12,26] rfl ?_;(conv=>whnf);refine ⟨?_⟩
         refine CW.seq ?_
         refine CW.block ?_
         refine CW.region ?_
         refine RW.k XK 174 3 rfl ?_
         (conv=>whnf);refine ⟨rfl,?_⟩
         refine RW.v rfl (V.indexW rfl rfl rfl rfl rfl rfl rfl hii) ?_
         refine RW.v rfl (V.loadF (m := i) (off := 0) rfl rfl (.inl rfl) rfl rfl cI.len hei (by decide) rfl) ?_
         refine RW.k XK 174 3 rfl ?_
         (conv=>whnf);refine ⟨rfl,?_⟩
         refine RW.callT (k := 26) (q := 164) (spec_l18Tell_fn (⟨(⟨n.id, (IntKind.i64.wrap (n.term_ + 1)), n.id, 1, 0, n.conf, n.log, n.commit, 0, limit, [n.id], n.peers⟩ : Node), ((L33.take i).map fun q => tellM (⟨n.id, (IntKind.i64.wrap (n.term_ + 1)), n.id, 1, 0, n.conf, n.log, n.commit, 0, limit, [n.id], n.peers⟩ : Node) (⟨1, 0, q, 0, (logLast n.log).1, (logLast n.log).2, 0, false, [], [], ⟨#[]⟩, false⟩ : Message))⟩ : l18Run) (⟨1, 0, ei, 0, ((logLast n.log).1), ((logLast n.log).2), 0, false, [], [], ⟨#[]⟩, false⟩ : Message) (by simp only [List.length_map, List.length_take]; omega)) rfl rfl (by decide) (by decide) rfl rfl (DT.r (DT.r (DT.r (DT.r (DT.r (DT.r (DT.r (DT.r (DT.r (DT.r (DT.r (DT.r (DT.r (DT.r (DT.w DT.e))))))))))))))) rfl (Nat.le_of_ble_eq_true rfl) (Tk.agg ⟨_, (Hand.v (Hand.v (Hand.v (Hand.v (Hand.v (Hand.v (Hand.v (Hand.v (Hand.n (Hand.n (Hand.v (Hand.v Hand.e))))))))))))⟩) fun q36 => ?_
         refine RW.nil ?_
         refine CW.keep 174 [4,7,9,10,11,12,26] rfl ?_;(conv=>whnf);refine ⟨?_⟩
         refine CW.region ?_
         refine RW.k XK 174 1 rfl ?_
         (conv=>whnf);refine ⟨rfl,?_⟩
         refine RW.v rfl (V.inc rfl rfl rfl hii hl0) ?_
         refine RW.k XK 174 1 rfl ?_
         (conv=>whnf);refine ⟨rfl,?_⟩
         refine RW.nil ?_
         exact ⟨(i + 1, _), by show L33.length - (i + 1) < L33.length - i; omega, (by omega), rfl, Le.c rfl <| Le.c rfl <| Le.c rfl <| Le.c rfl <| Le.c rfl <| Le.c rfl <| Le.c (congrArg (fun l_ => D.obj b11 [I ((⟨n.id, (IntKind.i64.wrap (n.term_ + 1)), n.id, 1, 0, n.conf, n.log, n.commit, 0, limit, [n.id], n.peers⟩ : Node).id), I ((⟨n.id, (IntKind.i64.wrap (n.term_ + 1)), n.id, 1, 0, n.conf, n.log, n.commit, 0, limit, [n.id], n.peers⟩ : Node).term_), I ((⟨n.id, (IntKind.i64.wrap (n.term_ + 1)), n.id, 1, 0, n.conf, n.log, n.commit, 0, limit, [n.id], n.peers⟩ : Node).vote), I ((⟨n.id, (IntKind.i64.wrap (n.term_ + 1)), n.id, 1, 0, n.conf, n.log, n.commit, 0, limit, [n.id], n.peers⟩ : Node).role), I ((⟨n.id, (IntKind.i64.wrap (n.term_ + 1)), n.id, 1, 0, n.conf, n.log, n.commit, 0, limit, [n.id], n.peers⟩ : Node).lead), .r (sl 1 cI ((⟨n.id, (IntKind.i64.wrap (n.term_ + 1)), n.id, 1, 0, n.conf, n.log, n.commit, 0, limit, [n.id], n.peers⟩ : Node).conf)), I (((⟨n.id, (IntKind.i64.wrap (n.term_ + 1)), n.id, 1, 0, n.conf, n.log, n.commit, 0, limit, [n.id], n.peers⟩ : Node).log).start), I (((⟨n.id, (IntKind.i64.wrap (n.term_ + 1)), n.id, 1, 0, n.conf, n.log, n.commit, 0, limit, [n.id], n.peers⟩ : Node).log).startTerm), .r (sl 3 Entry.c (((⟨n.id, (IntKind.i64.wrap (n.term_ + 1)), n.id, 1, 0, n.conf, n.log, n.commit, 0, limit, [n.id], n.peers⟩ : Node).log).entries)), I ((⟨n.id, (IntKind.i64.wrap (n.term_ + 1)), n.id, 1, 0, n.conf, n.log, n.commit, 0, limit, [n.id], n.peers⟩ : Node).commit), I ((⟨n.id, (IntKind.i64.wrap (n.term_ + 1)), n.id, 1, 0, n.conf, n.log, n.commit, 0, limit, [n.id], n.peers⟩ : Node).clock), I ((⟨n.id, (IntKind.i64.wrap (n.term_ + 1)), n.id, 1, 0, n.conf, n.log, n.commit, 0, limit, [n.id], n.peers⟩ : Node).limit), .r (sl 1 cI ((⟨n.id, (IntKind.i64.wrap (n.term_ + 1)), n.id, 1, 0, n.conf, n.log, n.commit, 0, limit, [n.id], n.peers⟩ : Node).votes)), .r (sl 4 Peer.c ((⟨n.id, (IntKind.i64.wrap (n.term_ + 1)), n.id, 1, 0, n.conf, n.log, n.commit, 0, limit, [n.id], n.peers⟩ : Node).peers)), .w (sl 12 Message.c l_) (q36 14)]) (by rw [take_snoc hei, List.map_append]; rfl)) <| Le.e⟩
        ·skip
         have hii : L33.length ≤ i := by have := h35; simp at this; first | exact this | omega | (simp; done) | (simp; omega)
         have hdi : L33.drop i = [] := List.drop_eq_nil_of_le hii
         refine CW.exit ?_
         refine CW.keep 174 [4,7,26] rfl ?_;(conv=>whnf);refine ⟨?_⟩
         refine CW.anyJ2 (fc := []) (L0 := [(26, .obj b11 [I n.id, I (IntKind.i64.wrap (n.term_ + 1)), I n.id, I 1, I 0, .r (sl 1 cI n.conf), I n.log.start, I n.log.startTerm, .r (sl 3 Entry.c n.log.entries), I n.commit, I 0, I limit, .r (sl 1 cI ([n.id])), .r (sl 4 Peer.c n.peers), .w (sl 12 Message.c ((L33.take i).map fun q => tellM (⟨n.id, (IntKind.i64.wrap (n.term_ + 1)), n.id, 1, 0, n.conf, n.log, n.commit, 0, limit, [n.id], n.peers⟩ : Node) (⟨1, 0, q, 0, (logLast n.log).1, (logLast n.log).2, 0, false, [], [], ⟨#[]⟩, false⟩ : Message))) X])]) 174 (fun (_ : Unit) => [(4, .obj b2 [I n.id, I (IntKind.i64.wrap (n.term_ + 1)), I n.id, I 1, I 0, .r (sl 1 cI n.conf), I n.log.start, I n.log.startTerm, .r (sl 3 Entry.c n.log.entries), I n.commit, I 0, I limit, .r (sl 1 cI ([n.id])), .r (sl 4 Peer.c n.peers)]), (5, .al 26 (some 14) 12 (((L33.take i).map fun q => tellM (⟨n.id, (IntKind.i64.wrap (n.term_ + 1)), n.id, 1, 0, n.conf, n.log, n.commit, 0, limit, [n.id], n.peers⟩ : Node) (⟨1, 0, q, 0, (logLast n.log).1, (logLast n.log).2, 0, false, [], [], ⟨#[]⟩, false⟩ : Message)).length) X 0), (6, Bo true)]) (fun all hall f hf b0 hb K hK => ?_) ?_
         ·skip
          have ro37_5 : ∀ B, RA f E B all 0 (bt 11 2047) ⟨174, [(4, .obj b2 [I n.id, I (IntKind.i64.wrap (n.term_ + 1)), I n.id, I 1, I 0, .r (sl 1 cI n.conf), I n.log.start, I n.log.startTerm, .r (sl 3 Entry.c n.log.entries), I n.commit, I 0, I limit, .r (sl 1 cI ([n.id])), .r (sl 4 Peer.c n.peers)]), (5, .al 26 (some 14) 12 (((L33.take i).map fun q => tellM (⟨n.id, (IntKind.i64.wrap (n.term_ + 1)), n.id, 1, 0, n.conf, n.log, n.commit, 0, limit, [n.id], n.peers⟩ : Node) (⟨1, 0, q, 0, (logLast n.log).1, (logLast n.log).2, 0, false, [], [], ⟨#[]⟩, false⟩ : Message)).length) X 0), (6, Bo true)] ++ b0⟩ K := by
           intro B
           exact RA.of2 hall hf hb (RA.finH (Tell.of rfl) (by kernel_rfl) (hK () _ rfl (Le.of rfl)))
          have ro37_4 : ∀ B, RA f E B all 3 (bt 11 383) ⟨174, [(4, .obj b2 [I n.id, I (IntKind.i64.wrap (n.term_ + 1)), I n.id, I 1, I 0, .r (sl 1 cI n.conf), I n.log.start, I n.log.startTerm, .r (sl 3 Entry.c n.log.entries), I n.commit, I 0, I limit, .r (sl 1 cI ([n.id])), .r (sl 4 Peer.c n.peers)]), (172, .pt 26 b11 14)] ++ b0⟩ K := by
           intro B
           refine RA.of2 hall hf hb (RA.stepH (L := [7]) (Tell.of rfl) (by kernel_rfl) (by simp) (RA.each ?_ (RA.each0)))
           ·skip
            refine RO.v rfl rfl (V.loadPrim (d := .al 26 (some 14) 12 (((L33.take i).map fun q => tellM (⟨n.id, (IntKind.i64.wrap (n.term_ + 1)), n.id, 1, 0, n.conf, n.log, n.commit, 0, limit, [n.id], n.peers⟩ : Node) (⟨1, 0, q, 0, (logLast n.log).1, (logLast n.log).2, 0, false, [], [], ⟨#[]⟩, false⟩ : Message)).length) X 0) rfl rfl (.inr ⟨_, rfl⟩) rfl rfl rfl) rfl ?_
            refine RA.fr XK 174 0 [9,10] (bt 11 2047) rfl rfl (by kernel_rfl) (Tell.of rfl) ?_
            (conv=>whnf);refine ⟨rfl,fun B=>?_⟩
            exact RA.to2 hall hf hb (ro37_5 B) rfl rfl (by kernel_rfl)
          have ro37_3 : ∀ B, RA f E B all 3 (bt 11 255) ⟨174, [(4, .obj b2 [I 0, I 0, I 0, I 0, I 0, .r (.v (.slice none 0 0)), I 0, I 0, .r (.v (.slice none 0 0)), I 0, I 0, I 0, .r (.v (.slice none 0 0)), .r (.v (.slice none 0 0))]), (169, .agg [I n.id, I (IntKind.i64.wrap (n.term_ + 1)), I n.id, I 1, I 0, .r (sl 1 cI n.conf), I n.log.start, I n.log.startTerm, .r (sl 3 Entry.c n.log.entries), I n.commit, I 0, I limit, .r (sl 1 cI ([n.id])), .r (sl 4 Peer.c n.peers)]), (173, .al 26 (some 14) 12 (((L33.take i).map fun q => tellM (⟨n.id, (IntKind.i64.wrap (n.term_ + 1)), n.id, 1, 0, n.conf, n.log, n.commit, 0, limit, [n.id], n.peers⟩ : Node) (⟨1, 0, q, 0, (logLast n.log).1, (logLast n.log).2, 0, false, [], [], ⟨#[]⟩, false⟩ : Message)).length) X 0)] ++ b0⟩ K := by
           intro B
           refine RA.of2 hall hf hb (RA.stepH (L := [8]) (Tell.of rfl) (by kernel_rfl) (by simp) (RA.each ?_ (RA.each0)))
           ·skip
            refine RO.storeAgg (es := [I n.id, I (IntKind.i64.wrap (n.term_ + 1)), I n.id, I 1, I 0, .r (sl 1 cI n.conf), I n.log.start, I n.log.startTerm, .r (sl 3 Entry.c n.log.entries), I n.commit, I 0, I limit, .r (sl 1 cI ([n.id])), .r (sl 4 Peer.c n.peers)]) rfl rfl rfl rfl rfl rfl rfl rfl rfl rfl (Nat.le_of_ble_eq_true rfl) rfl ?_
            refine RA.fr XK 174 0 [9,10] (bt 11 2047) rfl rfl (by kernel_rfl) (Tell.of rfl) ?_
            (conv=>whnf);refine ⟨rfl,fun B=>?_⟩
            exact RA.to2 hall hf hb (ro37_5 B) rfl rfl (by kernel_rfl)
          have ro37_2 : ∀ B, RA f E B all 4 (bt 11 247) ⟨174, [(4, .obj b2 [I 0, I 0, I 0, I 0, I 0, .r (.v (.slice none 0 0)), I 0, I 0, .r (.v (.slice none 0 0)), I 0, I 0, I 0, .r (.v (.slice none 0 0)), .r (.v (.slice none 0 0))]), (168, .pt 26 b11 0), (173, .al 26 (some 14) 12 (((L33.take i).map fun q => tellM (⟨n.id, (IntKind.i64.wrap (n.term_ + 1)), n.id, 1, 0, n.conf, n.log, n.commit, 0, limit, [n.id], n.peers⟩ : Node) (⟨1, 0, q, 0, (logLast n.log).1, (logLast n.log).2, 0, false, [], [], ⟨#[]⟩, false⟩ : Message)).length) X 0)] ++ b0⟩ K := by
           intro B
           refine RA.of2 hall hf hb (RA.stepH (L := [3]) (Tell.of rfl) (by kernel_rfl) (by simp) (RA.each ?_ (RA.each0)))
           ·skip
            refine RO.v rfl rfl (V.loadAgg rfl rfl rfl rfl rfl (Nat.le_of_ble_eq_true rfl)) rfl ?_
            exact RA.to2 hall hf hb (ro37_3 B) rfl rfl (by kernel_rfl)
          have ro37_1 : ∀ B, RA f E B all 4 (bt 11 127) ⟨174, [(4, .obj b2 [I 0, I 0, I 0, I 0, I 0, .r (.v (.slice none 0 0)), I 0, I 0, .r (.v (.slice none 0 0)), I 0, I 0, I 0, .r (.v (.slice none 0 0)), .r (.v (.slice none 0 0))]), (169, .agg [I n.id, I (IntKind.i64.wrap (n.term_ + 1)), I n.id, I 1, I 0, .r (sl 1 cI n.conf), I n.log.start, I n.log.startTerm, .r (sl 3 Entry.c n.log.entries), I n.commit, I 0, I limit, .r (sl 1 cI ([n.id])), .r (sl 4 Peer.c n.peers)]), (172, .pt 26 b11 14)] ++ b0⟩ K := by
           intro B
           refine RA.of2 hall hf hb (RA.stepH (L := [7, 8]) (Tell.of rfl) (by kernel_rfl) (by simp) (RA.each ?_ (RA.each ?_ (RA.each0))))
           ·skip
            refine RO.v rfl rfl (V.loadPrim (d := .al 26 (some 14) 12 (((L33.take i).map fun q => tellM (⟨n.id, (IntKind.i64.wrap (n.term_ + 1)), n.id, 1, 0, n.conf, n.log, n.commit, 0, limit, [n.id], n.peers⟩ : Node) (⟨1, 0, q, 0, (logLast n.log).1, (logLast n.log).2, 0, false, [], [], ⟨#[]⟩, false⟩ : Message)).length) X 0) rfl rfl (.inr ⟨_, rfl⟩) rfl rfl rfl) rfl ?_
            exact RA.to2 hall hf hb (ro37_3 B) rfl rfl (by kernel_rfl)
           ·skip
            refine RO.storeAgg (es := [I n.id, I (IntKind.i64.wrap (n.term_ + 1)), I n.id, I 1, I 0, .r (sl 1 cI n.conf), I n.log.start, I n.log.startTerm, .r (sl 3 Entry.c n.log.entries), I n.commit, I 0, I limit, .r (sl 1 cI ([n.id])), .r (sl 4 Peer.c n.peers)]) rfl rfl rfl rfl rfl rfl rfl rfl rfl rfl (Nat.le_of_ble_eq_true rfl) rfl ?_
            exact RA.to2 hall hf hb (ro37_4 B) rfl rfl (by kernel_rfl)
          have ro37_0 : ∀ B, RA f E B all 5 (bt 11 119) ⟨174, [(4, .obj b2 [I 0, I 0, I 0, I 0, I 0, .r (.v (.slice none 0 0)), I 0, I 0, .r (.v (.slice none 0 0)), I 0, I 0, I 0, .r (.v (.slice none 0 0)), .r (.v (.slice none 0 0))]), (168, .pt 26 b11 0), (172, .pt 26 b11 14)] ++ b0⟩ K := by
           intro B
           refine RA.of2 hall hf hb (RA.stepH (L := [3, 7]) (Tell.of rfl) (by kernel_rfl) (by simp) (RA.each ?_ (RA.each ?_ (RA.each0))))
           ·skip
            refine RO.v rfl rfl (V.loadAgg rfl rfl rfl rfl rfl (Nat.le_of_ble_eq_true rfl)) rfl ?_
            exact RA.to2 hall hf hb (ro37_1 B) rfl rfl (by kernel_rfl)
           ·skip
            refine RO.v rfl rfl (V.loadPrim (d := .al 26 (some 14) 12 (((L33.take i).map fun q => tellM (⟨n.id, (IntKind.i64.wrap (n.term_ + 1)), n.id, 1, 0, n.conf, n.log, n.commit, 0, limit, [n.id], n.peers⟩ : Node) (⟨1, 0, q, 0, (logLast n.log).1, (logLast n.log).2, 0, false, [], [], ⟨#[]⟩, false⟩ : Message)).length) X 0) rfl rfl (.inr ⟨_, rfl⟩) rfl rfl rfl) rfl ?_
            exact RA.to2 hall hf hb (ro37_2 B) rfl rfl (by kernel_rfl)
          refine RA.start (by kernel_rfl) (by kernel_rfl) (m := 11) (ls' := (bt 11 0)) ?_
          refine RA.fr XK 174 5 [0,1,2,4,5,6] (bt 11 119) rfl rfl (by kernel_rfl) (Tell.of rfl) ?_
          (conv=>whnf);refine ⟨rfl,fun B=>?_⟩
          exact RA.to2 hall hf hb (ro37_0 B) rfl rfl (by kernel_rfl)
         ·rintro _
          refine CW.takeO 5 26 14 (by decide) rfl rfl rfl ?_
          refine CW.ret ?_
          exact Post.tup (by decide) (RVs.c (RV.c (f := fun e => (Node.c e).map .r) (e' := (⟨n.id, (IntKind.i64.wrap (n.term_ + 1)), n.id, 1, 0, n.conf, n.log, n.commit, 0, limit, [n.id], n.peers⟩ : Node)) rfl rfl rfl rfl (DT.r (DT.r (DT.r (DT.r (DT.r (DT.r (DT.r (DT.r (DT.r (DT.r (DT.r (DT.r (DT.r (DT.r DT.e)))))))))))))) (by rw [tick_go hgd h12 h16 hst, standN_no hmn]; rfl)) (RVs.c (RV.w rfl (by rw [tick_go hgd h12 h16 hst, standN_no hmn, List.take_of_length_le hii, hn34]; exact congrArg (fun c => (others c n.id).map _) (conf_eqB (n := n) hl))) (RVs.c (RV.b rfl (by rw [tick_go hgd h12 h16 hst])) RVs.e))) (AOs.a rfl (AOs.r AOs.e))
set_option maxHeartbeats 4000000 in
theorem laws_szEntry_fn (a : Entry) (left : Int) : Eng.Fn E.P 114 [.agg ((Entry.c a).map .r), .one (.r (.v (.int .i64 left)))] (.one (.one (.w (.v (.int .i64 (szEntry a left)))))) [.agg ((Entry.c a).map .r), .one (.r (.v (.int .i64 left)))] := by
 refine Eng.Fn.intro (E := E) (rvs := [.tmp 4]) Try.func114 rfl rfl rfl (by simp [outSlots, moved, rvSlot, sl]) ?_
 intro B g bo
 refine CW.keep 13 [0,1] rfl ?_;(conv=>whnf);refine ⟨?_⟩
 refine CW.seq ?_
 refine CW.region ?_
 refine RW.k XK 13 1 rfl ?_
 (conv=>whnf);intro b1;(conv=>whnf);refine ⟨rfl,?_⟩
 refine RW.freezeB (ts := (Entry.c a)) 2 rfl (DRd.r (DRd.r (DRd.r DRd.e))) ?_
 refine RW.k XK 13 1 rfl ?_
 (conv=>whnf);refine ⟨rfl,?_⟩
 refine RW.nil ?_
 refine CW.keep 13 [1,2] rfl ?_;(conv=>whnf);refine ⟨?_⟩
 refine CW.k XK 13 1 [1] rfl ?_
 (conv=>whnf);refine ⟨rfl,?_⟩
 refine CW.seq ?_
 refine CW.k XK 13 1 [1,11] rfl ?_
 (conv=>whnf);refine ⟨rfl,?_⟩
 refine CW.cond rfl (fun h2 => ?_) (fun h2 => ?_)
 ·skip
  refine CW.k XK 13 1 [4] rfl ?_
  (conv=>whnf);refine ⟨rfl,?_⟩
  refine CW.ret ?_
  exact Post.one (RV.i rfl (by first | (simp_all [szEntry]; done) | (simp_all [szEntry]; omega) | grind [szEntry])) (AOs.a rfl (AOs.r AOs.e))
 ·skip
  refine CW.skip ?_
  refine CW.keep 13 [1] rfl ?_;(conv=>whnf);refine ⟨?_⟩
  refine CW.k XK 13 1 [4] rfl ?_
  (conv=>whnf);refine ⟨rfl,?_⟩
  refine CW.ret ?_
  exact Post.one (RV.i rfl (by first | (simp_all [szEntry]; done) | (simp_all [szEntry]; omega) | grind [szEntry])) (AOs.a rfl (AOs.r AOs.e))
set_option maxHeartbeats 4000000 in
theorem laws_szIntS_fn (a : List Int) (left : Int) : Eng.Fn E.P 53 [.one (.r (sl 1 cI a)), .one (.r (.v (.int .i64 left)))] (.one (.one (.w (.v (.int .i64 (szI a left)))))) [.one (.r (sl 1 cI a)), .one (.r (.v (.int .i64 left)))] := by
 refine Eng.Fn.intro (E := E) (rvs := [.tmp 4]) Try.func53 rfl rfl rfl (by simp [outSlots, moved, rvSlot, sl]) ?_
 intro B g bo
 refine CW.bound (x := .tmp 0) (n := a.length) (AsT.r) (fun hl0 => ?_)
 refine CW.keep 12 [0,1] rfl ?_;(conv=>whnf);refine ⟨?_⟩
 refine CW.k XK 12 2 [1] rfl ?_
 (conv=>whnf);refine ⟨rfl,?_⟩
 refine CW.seq ?_
 refine CW.k XK 12 1 [1,10] rfl ?_
 (conv=>whnf);refine ⟨rfl,?_⟩
 refine CW.cond rfl (fun h1 => ?_) (fun h1 => ?_)
 ·skip
  refine CW.k XK 12 1 [4] rfl ?_
  (conv=>whnf);refine ⟨rfl,?_⟩
  refine CW.ret ?_
  exact Post.one (RV.i rfl (by first | (simp_all [szI]; done) | (simp_all [szI]; omega))) (AOs.r (AOs.r AOs.e))
 ·skip
  refine CW.skip ?_
  refine CW.keep 12 [1] rfl ?_;(conv=>whnf);refine ⟨?_⟩
  refine CW.k XK 12 1 [4] rfl ?_
  (conv=>whnf);refine ⟨rfl,?_⟩
  refine CW.ret ?_
  exact Post.one (RV.i rfl (by first | (simp_all [szI]; done) | (simp_all [szI]; omega))) (AOs.r (AOs.r AOs.e))
set_option maxHeartbeats 4000000 in
theorem laws_szEntryS_fn (a : List Entry) (left : Int) : Eng.Fn E.P 116 [.one (.r (sl 3 Entry.c a)), .one (.r (.v (.int .i64 left)))] (.one (.one (.w (.v (.int .i64 (szS szEntry a left)))))) [.one (.r (sl 3 Entry.c a)), .one (.r (.v (.int .i64 left)))] := by
 refine Eng.Fn.intro (E := E) (rvs := [.tmp 4]) Try.func116 rfl rfl rfl (by simp [outSlots, moved, rvSlot, sl]) ?_
 intro B g bo
 refine CW.bound (x := .tmp 0) (n := a.length) (AsT.r) (fun hl0 => ?_)
 refine CW.keep 27 [0,1] rfl ?_;(conv=>whnf);refine ⟨?_⟩
 refine CW.k XK 27 2 [0,1] rfl ?_
 (conv=>whnf);refine ⟨rfl,?_⟩
 refine CW.seq ?_
 refine CW.k XK 27 1 [0,1,11] rfl ?_
 (conv=>whnf);refine ⟨rfl,?_⟩
 refine CW.cond rfl (fun h1 => ?_) (fun h1 => ?_)
 ·skip
  refine CW.k XK 27 1 [4] rfl ?_
  (conv=>whnf);refine ⟨rfl,?_⟩
  refine CW.ret ?_
  exact Post.one (RV.i rfl (by first | (simp_all [szS, szL, szStr, szI]; done) | grind [szS, szL, szStr, szI])) (AOs.r (AOs.r AOs.e))
 ·skip
  refine CW.skip ?_
  refine CW.keep 27 [0,1] rfl ?_;(conv=>whnf);refine ⟨?_⟩
  refine CW.seq ?_
  refine CW.k XK 27 1 [0,1,5] rfl ?_
  (conv=>whnf);refine ⟨rfl,?_⟩
  refine CW.block ?_
  refine CW.loopI 27 (fun (zz : Nat × Int) => match zz with | (i, l) => [(0, .r (sl 3 Entry.c a)), (1, I l), (5, I (i : Int))]) (fun (zz : Nat × Int) => match zz with | (i, l) => i ≤ a.length ∧ szL szEntry (a.drop i) l = szS szEntry a left) (fun (zz : Nat × Int) => match zz with | (i, l) => a.length - i) (0, _) rfl (Le.c rfl <| Le.c rfl <| Le.c rfl <| Le.e) ⟨by omega, by first | (simp_all [szS]; done) | grind [szS]⟩ ?_
  rintro ⟨i, l⟩ ⟨hb, hr⟩
  refine CW.seq ?_
  refine CW.k XK 27 1 [0,1,5,15] rfl ?_
  (conv=>whnf);refine ⟨rfl,?_⟩
  refine CW.cond rfl (fun h2 => ?_) (fun h2 => ?_)
  ·skip
   have hii : i < a.length := by have := h2; simp at this; first | exact this | omega | (simp; done) | (simp; omega)
   obtain ⟨ei, hei⟩ : ∃ e, a[i]? = some e := ⟨_, List.getElem?_eq_getElem hii⟩
   have hdi := drop_get hei
   refine CW.skip ?_
   refine CW.keep 27 [0,1,5] rfl ?_;(conv=>whnf);refine ⟨?_⟩
   refine CW.seq ?_
   refine CW.block ?_
   refine CW.seq ?_
   refine CW.region ?_
   refine RW.k XK 27 2 rfl ?_
   (conv=>whnf);refine ⟨rfl,?_⟩
   refine RW.v rfl (V.indexS rfl rfl rfl rfl rfl rfl Entry.len hei) ?_
   refine RW.k XK 27 2 rfl ?_
   (conv=>whnf);refine ⟨rfl,?_⟩
   refine RW.call rfl (laws_szEntry_fn ei l) rfl (.cons (.agg (.cons (.r .r) (.cons (.r .r) (.cons (.r .r) (.nil))))) (.cons (.one (.r .r)) (.nil))) fun g3 => ?_
   refine RW.k XK 27 1 rfl ?_
   (conv=>whnf);refine ⟨rfl,?_⟩
   refine RW.nil ?_
   refine CW.keep 27 [0,1,5] rfl ?_;(conv=>whnf);refine ⟨?_⟩
   refine CW.k XK 27 1 [0,1,5,25] rfl ?_
   (conv=>whnf);refine ⟨rfl,?_⟩
   refine CW.cond rfl (fun h4 => ?_) (fun h4 => ?_)
   ·skip
    refine CW.k XK 27 1 [4] rfl ?_
    (conv=>whnf);refine ⟨rfl,?_⟩
    refine CW.ret ?_
    exact Post.one (RV.i rfl (by first | (simp_all [szS, szL, szStr, szI]; done) | grind [szS, szL, szStr, szI])) (AOs.r (AOs.r AOs.e))
   ·skip
    refine CW.skip ?_
    refine CW.keep 27 [0,1,5] rfl ?_;(conv=>whnf);refine ⟨?_⟩
    refine CW.region ?_
    refine RW.k XK 27 1 rfl ?_
    (conv=>whnf);refine ⟨rfl,?_⟩
    refine RW.v rfl (V.inc rfl rfl rfl hii hl0) ?_
    refine RW.k XK 27 1 rfl ?_
    (conv=>whnf);refine ⟨rfl,?_⟩
    refine RW.nil ?_
    exact ⟨(i + 1, _), by simp only []; omega, ⟨by omega, by first | (simp_all [szL, szStr, szI]; done) | grind [szL, szStr, szI]⟩, rfl, Le.c rfl <| Le.c rfl <| Le.c rfl <| Le.e⟩
  ·skip
   have hii : a.length ≤ i := by have := h2; simp at this; first | exact this | omega | (simp; done) | (simp; omega)
   have hdi : a.drop i = [] := List.drop_eq_nil_of_le hii
   refine CW.exit ?_
   refine CW.keep 27 [1] rfl ?_;(conv=>whnf);refine ⟨?_⟩
   refine CW.k XK 27 1 [4] rfl ?_
   (conv=>whnf);refine ⟨rfl,?_⟩
   refine CW.ret ?_
   exact Post.one (RV.i rfl (by first | (simp_all [szS, szL, szStr, szI]; done) | grind [szS, szL, szStr, szI])) (AOs.r (AOs.r AOs.e))
set_option maxHeartbeats 4000000 in
theorem laws_szLog_fn (a : Log) (left : Int) : Eng.Fn E.P 54 [.agg ((Log.c a).map .r), .one (.r (.v (.int .i64 left)))] (.one (.one (.w (.v (.int .i64 (szLog a left)))))) [.agg ((Log.c a).map .r), .one (.r (.v (.int .i64 left)))] := by
 refine Eng.Fn.intro (E := E) (rvs := [.tmp 4]) Try.func54 rfl rfl rfl (by simp [outSlots, moved, rvSlot, sl]) ?_
 intro B g bo
 refine CW.keep 12 [0,1] rfl ?_;(conv=>whnf);refine ⟨?_⟩
 refine CW.seq ?_
 refine CW.region ?_
 refine RW.k XK 12 1 rfl ?_
 (conv=>whnf);intro b1;(conv=>whnf);refine ⟨rfl,?_⟩
 refine RW.freezeB (ts := (Log.c a)) 2 rfl (DRd.r (DRd.r (DRd.r DRd.e))) ?_
 refine RW.k XK 12 1 rfl ?_
 (conv=>whnf);refine ⟨rfl,?_⟩
 refine RW.nil ?_
 refine CW.keep 12 [1,2] rfl ?_;(conv=>whnf);refine ⟨?_⟩
 refine CW.seq ?_
 refine CW.region ?_
 refine RW.k XK 12 3 rfl ?_
 (conv=>whnf);refine ⟨rfl,?_⟩
 refine RW.call rfl (laws_szEntryS_fn a.entries left) rfl (.cons (.one (.r .r)) (.cons (.one (.r .r)) (.nil))) fun g2 => ?_
 refine RW.k XK 12 1 rfl ?_
 (conv=>whnf);refine ⟨rfl,?_⟩
 refine RW.nil ?_
 refine CW.keep 12 [1] rfl ?_;(conv=>whnf);refine ⟨?_⟩
 refine CW.seq ?_
 refine CW.k XK 12 1 [1,10] rfl ?_
 (conv=>whnf);refine ⟨rfl,?_⟩
 refine CW.cond rfl (fun h3 => ?_) (fun h3 => ?_)
 ·skip
  refine CW.k XK 12 1 [4] rfl ?_
  (conv=>whnf);refine ⟨rfl,?_⟩
  refine CW.ret ?_
  exact Post.one (RV.i rfl (by first | (simp_all [szLog]; done) | (simp_all [szLog]; omega) | grind [szLog])) (AOs.a rfl (AOs.r AOs.e))
 ·skip
  refine CW.skip ?_
  refine CW.keep 12 [1] rfl ?_;(conv=>whnf);refine ⟨?_⟩
  refine CW.k XK 12 1 [4] rfl ?_
  (conv=>whnf);refine ⟨rfl,?_⟩
  refine CW.ret ?_
  exact Post.one (RV.i rfl (by first | (simp_all [szLog]; done) | (simp_all [szLog]; omega) | grind [szLog])) (AOs.a rfl (AOs.r AOs.e))
set_option maxHeartbeats 4000000 in
theorem laws_szPeerS_fn (a : List Peer) (left : Int) : Eng.Fn E.P 55 [.one (.r (sl 4 Peer.c a)), .one (.r (.v (.int .i64 left)))] (.one (.one (.w (.v (.int .i64 (szI a left)))))) [.one (.r (sl 4 Peer.c a)), .one (.r (.v (.int .i64 left)))] := by
 refine Eng.Fn.intro (E := E) (rvs := [.tmp 4]) Try.func55 rfl rfl rfl (by simp [outSlots, moved, rvSlot, sl]) ?_
 intro B g bo
 refine CW.bound (x := .tmp 0) (n := a.length) (AsT.r) (fun hl0 => ?_)
 refine CW.keep 12 [0,1] rfl ?_;(conv=>whnf);refine ⟨?_⟩
 refine CW.k XK 12 2 [1] rfl ?_
 (conv=>whnf);refine ⟨rfl,?_⟩
 refine CW.seq ?_
 refine CW.k XK 12 1 [1,10] rfl ?_
 (conv=>whnf);refine ⟨rfl,?_⟩
 refine CW.cond rfl (fun h1 => ?_) (fun h1 => ?_)
 ·skip
  refine CW.k XK 12 1 [4] rfl ?_
  (conv=>whnf);refine ⟨rfl,?_⟩
  refine CW.ret ?_
  exact Post.one (RV.i rfl (by first | (simp_all [szI]; done) | (simp_all [szI]; omega))) (AOs.r (AOs.r AOs.e))
 ·skip
  refine CW.skip ?_
  refine CW.keep 12 [1] rfl ?_;(conv=>whnf);refine ⟨?_⟩
  refine CW.k XK 12 1 [4] rfl ?_
  (conv=>whnf);refine ⟨rfl,?_⟩
  refine CW.ret ?_
  exact Post.one (RV.i rfl (by first | (simp_all [szI]; done) | (simp_all [szI]; omega))) (AOs.r (AOs.r AOs.e))
set_option maxHeartbeats 4000000 in
theorem laws_szNode_fn (a : Node) (left : Int) : Eng.Fn E.P 19 [.agg ((Node.c a).map .r), .one (.r (.v (.int .i64 left)))] (.one (.one (.w (.v (.int .i64 (szNode a left)))))) [.agg ((Node.c a).map .r), .one (.r (.v (.int .i64 left)))] := by
 refine Eng.Fn.intro (E := E) (rvs := [.tmp 4]) Try.func19 rfl rfl rfl (by simp [outSlots, moved, rvSlot, sl]) ?_
 intro B g bo
 refine CW.keep 30 [0,1] rfl ?_;(conv=>whnf);refine ⟨?_⟩
 refine CW.seq ?_
 refine CW.region ?_
 refine RW.k XK 30 1 rfl ?_
 (conv=>whnf);intro b1;(conv=>whnf);refine ⟨rfl,?_⟩
 refine RW.freezeB (ts := (Node.c a)) 2 rfl (DRd.r (DRd.r (DRd.r (DRd.r (DRd.r (DRd.r (DRd.r (DRd.r (DRd.r (DRd.r (DRd.r (DRd.r (DRd.r (DRd.r DRd.e)))))))))))))) ?_
 refine RW.k XK 30 1 rfl ?_
 (conv=>whnf);refine ⟨rfl,?_⟩
 refine RW.nil ?_
 refine CW.keep 30 [1,2] rfl ?_;(conv=>whnf);refine ⟨?_⟩
 refine CW.seq ?_
 refine CW.region ?_
 refine RW.k XK 30 3 rfl ?_
 (conv=>whnf);refine ⟨rfl,?_⟩
 refine RW.call rfl (laws_szIntS_fn a.conf left) rfl (.cons (.one (.r .r)) (.cons (.one (.r .r)) (.nil))) fun g2 => ?_
 refine RW.k XK 30 1 rfl ?_
 (conv=>whnf);refine ⟨rfl,?_⟩
 refine RW.nil ?_
 refine CW.keep 30 [1,2] rfl ?_;(conv=>whnf);refine ⟨?_⟩
 refine CW.seq ?_
 refine CW.k XK 30 1 [1,2,10] rfl ?_
 (conv=>whnf);refine ⟨rfl,?_⟩
 refine CW.cond rfl (fun h3 => ?_) (fun h3 => ?_)
 ·skip
  refine CW.k XK 30 1 [4] rfl ?_
  (conv=>whnf);refine ⟨rfl,?_⟩
  refine CW.ret ?_
  exact Post.one (RV.i rfl (by first | (simp_all [szNode]; done) | (simp_all [szNode]; omega) | grind [szNode])) (AOs.a rfl (AOs.r AOs.e))
 ·skip
  refine CW.skip ?_
  refine CW.keep 30 [1,2] rfl ?_;(conv=>whnf);refine ⟨?_⟩
  refine CW.seq ?_
  refine CW.region ?_
  refine RW.k XK 30 3 rfl ?_
  (conv=>whnf);refine ⟨rfl,?_⟩
  refine RW.call rfl (laws_szLog_fn a.log (szI a.conf left)) rfl (.cons (.agg (.cons (.r .r) (.cons (.r .r) (.cons (.r .r) (.nil))))) (.cons (.one (.r .r)) (.nil))) fun g4 => ?_
  refine RW.k XK 30 1 rfl ?_
  (conv=>whnf);refine ⟨rfl,?_⟩
  refine RW.nil ?_
  refine CW.keep 30 [1,2] rfl ?_;(conv=>whnf);refine ⟨?_⟩
  refine CW.seq ?_
  refine CW.k XK 30 1 [1,2,16] rfl ?_
  (conv=>whnf);refine ⟨rfl,?_⟩
  refine CW.cond rfl (fun h5 => ?_) (fun h5 => ?_)
  ·skip
   refine CW.k XK 30 1 [4] rfl ?_
   (conv=>whnf);refine ⟨rfl,?_⟩
   refine CW.ret ?_
   exact Post.one (RV.i rfl (by first | (simp_all [szNode]; done) | (simp_all [szNode]; omega) | grind [szNode])) (AOs.a rfl (AOs.r AOs.e))
  ·skip
   refine CW.skip ?_
   refine CW.keep 30 [1,2] rfl ?_;(conv=>whnf);refine ⟨?_⟩
   refine CW.seq ?_
   refine CW.region ?_
   refine RW.k XK 30 3 rfl ?_
   (conv=>whnf);refine ⟨rfl,?_⟩
   refine RW.call rfl (laws_szIntS_fn a.votes (szLog a.log (szI a.conf left))) rfl (.cons (.one (.r .r)) (.cons (.one (.r .r)) (.nil))) fun g6 => ?_
   refine RW.k XK 30 1 rfl ?_
   (conv=>whnf);refine ⟨rfl,?_⟩
   refine RW.nil ?_
   refine CW.keep 30 [1,2] rfl ?_;(conv=>whnf);refine ⟨?_⟩
   refine CW.seq ?_
   refine CW.k XK 30 1 [1,2,22] rfl ?_
   (conv=>whnf);refine ⟨rfl,?_⟩
   refine CW.cond rfl (fun h7 => ?_) (fun h7 => ?_)
   ·skip
    refine CW.k XK 30 1 [4] rfl ?_
    (conv=>whnf);refine ⟨rfl,?_⟩
    refine CW.ret ?_
    exact Post.one (RV.i rfl (by first | (simp_all [szNode]; done) | (simp_all [szNode]; omega) | grind [szNode])) (AOs.a rfl (AOs.r AOs.e))
   ·skip
    refine CW.skip ?_
    refine CW.keep 30 [1,2] rfl ?_;(conv=>whnf);refine ⟨?_⟩
    refine CW.seq ?_
    refine CW.region ?_
    refine RW.k XK 30 3 rfl ?_
    (conv=>whnf);refine ⟨rfl,?_⟩
    refine RW.call rfl (laws_szPeerS_fn a.peers (szI a.votes (szLog a.log (szI a.conf left)))) rfl (.cons (.one (.r .r)) (.cons (.one (.r .r)) (.nil))) fun g8 => ?_
    refine RW.k XK 30 1 rfl ?_
    (conv=>whnf);refine ⟨rfl,?_⟩
    refine RW.nil ?_
    refine CW.keep 30 [1] rfl ?_;(conv=>whnf);refine ⟨?_⟩
    refine CW.seq ?_
    refine CW.k XK 30 1 [1,28] rfl ?_
    (conv=>whnf);refine ⟨rfl,?_⟩
    refine CW.cond rfl (fun h9 => ?_) (fun h9 => ?_)
    ·skip
     refine CW.k XK 30 1 [4] rfl ?_
     (conv=>whnf);refine ⟨rfl,?_⟩
     refine CW.ret ?_
     exact Post.one (RV.i rfl (by first | (simp_all [szNode]; done) | (simp_all [szNode]; omega) | grind [szNode])) (AOs.a rfl (AOs.r AOs.e))
    ·skip
     refine CW.skip ?_
     refine CW.keep 30 [1] rfl ?_;(conv=>whnf);refine ⟨?_⟩
     refine CW.k XK 30 1 [4] rfl ?_
     (conv=>whnf);refine ⟨rfl,?_⟩
     refine CW.ret ?_
     exact Post.one (RV.i rfl (by first | (simp_all [szNode]; done) | (simp_all [szNode]; omega) | grind [szNode])) (AOs.a rfl (AOs.r AOs.e))
set_option maxHeartbeats 4000000 in
theorem laws_toIntS_fn (a : List Int) (hm : a.length ≤ 1048576) : Eng.Fn E.P 25 [.one (.r (sl 1 cI a))] (.one (.one (.w (sl 1 cI a)))) [.one (.r (sl 1 cI a))] := by
 refine Eng.Fn.intro (E := E) (rvs := [.tmp 2]) Try.func25 rfl rfl rfl (by simp [outSlots, moved, rvSlot, sl]) ?_
 intro B g bo
 refine CW.bound (x := .tmp 0) (n := a.length) (AsT.r) (fun hl0 => ?_)
 refine CW.keep 22 [0] rfl ?_;(conv=>whnf);refine ⟨?_⟩
 refine CW.k XK 22 1 [0] rfl ?_
 (conv=>whnf);refine ⟨rfl,?_⟩
 refine CW.seq ?_
 refine CW.region ?_
 refine RW.k XK 22 2 rfl ?_
 (conv=>whnf);refine ⟨rfl,?_⟩
 refine RW.makeS (n := a.length) (c := cI) 0 rfl rfl rfl rfl rfl rfl rfl rfl (ZT.v ZT.e) (by show 8 * a.length ≤ 281474976710656; omega) (by simp only [maxLen]; omega) fun X1 => ?_
 refine RW.assignMove rfl rfl rfl (by decide) (Nat.le_of_ble_eq_true rfl) (Nat.le_of_ble_eq_true rfl) ?_
 refine RW.nil ?_
 refine CW.keep 22 [0,3] rfl ?_;(conv=>whnf);refine ⟨?_⟩
 refine CW.seq ?_
 refine CW.k XK 22 1 [0,3,4] rfl ?_
 (conv=>whnf);refine ⟨rfl,?_⟩
 refine CW.block ?_
 refine CW.loopI 22 (fun (i : Nat) => [(0, .r (sl 1 cI a)), (3, .w (sl 1 cI (a.take i ++ List.replicate (a.length - i) 0)) X1), (4, I (i : Int))]) (fun (i : Nat) => i ≤ a.length) (fun (i : Nat) => a.length - i) 0 rfl (Le.c rfl <| Le.c rfl <| Le.c rfl <| Le.e) (by omega) ?_
 rintro i hb
 refine CW.seq ?_
 refine CW.k XK 22 1 [0,3,4,11] rfl ?_
 (conv=>whnf);refine ⟨rfl,?_⟩
 refine CW.cond rfl (fun h2 => ?_) (fun h2 => ?_)
 ·skip
  have hii : i < a.length := by have := h2; simp at this; first | exact this | omega | (simp; done) | (simp; omega)
  obtain ⟨ei, hei⟩ : ∃ e, a[i]? = some e := ⟨_, List.getElem?_eq_getElem hii⟩
  have hdi := drop_get hei
  refine CW.skip ?_
  refine CW.keep 22 [0,3,4] rfl ?_;(conv=>whnf);refine ⟨?_⟩
  refine CW.seq ?_
  refine CW.block ?_
  refine CW.region ?_
  refine RW.k XK 22 4 rfl ?_
  (conv=>whnf);refine ⟨rfl,?_⟩
  refine RW.v rfl (V.indexS rfl rfl rfl rfl rfl rfl cI.len hei) ?_
  refine RW.k XK 22 1 rfl ?_
  (conv=>whnf);refine ⟨rfl,?_⟩
  refine RW.v rfl (V.indexW rfl rfl rfl rfl rfl rfl rfl (by simp; omega)) ?_
  refine RW.storeS1 (v := ei) (c := cI) (u := .v (.int .i64 ei)) rfl rfl rfl rfl rfl rfl rfl (.inl rfl) rfl cI.len (by simp; omega) rfl ?_
  refine RW.nil ?_
  refine CW.keep 22 [0,3,4] rfl ?_;(conv=>whnf);refine ⟨?_⟩
  refine CW.region ?_
  refine RW.k XK 22 1 rfl ?_
  (conv=>whnf);refine ⟨rfl,?_⟩
  refine RW.v rfl (V.inc rfl rfl rfl hii hl0) ?_
  refine RW.k XK 22 1 rfl ?_
  (conv=>whnf);refine ⟨rfl,?_⟩
  refine RW.nil ?_
  exact ⟨i + 1, by omega, by omega, rfl, Le.c rfl <| Le.c (congrArg (fun l => D.w (sl _ cI l) X1) (take_set hei)) <| Le.c rfl <| Le.e⟩
 ·skip
  have hii : a.length ≤ i := by have := h2; simp at this; first | exact this | omega | (simp; done) | (simp; omega)
  have hdi : a.drop i = [] := List.drop_eq_nil_of_le hii
  refine CW.exit ?_
  refine CW.keep 22 [3] rfl ?_;(conv=>whnf);refine ⟨?_⟩
  refine CW.seq ?_
  refine CW.region ?_
  refine RW.k XK 22 2 rfl ?_
  (conv=>whnf);refine ⟨rfl,?_⟩
  refine RW.pullS 2 3 (by decide) rfl rfl ?_
  refine RW.nil ?_
  refine CW.keep 22 [2] rfl ?_;(conv=>whnf);refine ⟨?_⟩
  refine CW.ret ?_
  exact Post.one (RV.w rfl (by rw [List.take_of_length_le hii, show a.length - i = 0 from by omega]; simp)) (AOs.r AOs.e)
set_option maxHeartbeats 4000000 in
theorem laws_toEntry_fn (a : Entry) (hs : okToEntry a) : Eng.Fn E.P 115 [.agg ((Entry.c a).map .r)] (.one (.agg ((Entry.c a).map .w))) [.agg ((Entry.c a).map .r)] := by
 refine Eng.Fn.intro (E := E) (rvs := [.cell 2 81]) Try.func115 rfl rfl rfl (by simp [outSlots, moved, rvSlot, sl]) ?_
 intro B g bo
 refine CW.keep 14 [0] rfl ?_;(conv=>whnf);refine ⟨?_⟩
 refine CW.seq ?_
 refine CW.region ?_
 refine RW.k XK 14 1 rfl ?_
 (conv=>whnf);intro b1;(conv=>whnf);refine ⟨rfl,?_⟩
 refine RW.freezeB (ts := (Entry.c a)) 1 rfl (DRd.r (DRd.r (DRd.r DRd.e))) ?_
 refine RW.k XK 14 1 rfl ?_
 (conv=>whnf);intro b2;(conv=>whnf);refine ⟨rfl,?_⟩
 refine RW.nil ?_
 refine CW.keep 14 [1,2] rfl ?_;(conv=>whnf);refine ⟨?_⟩
 refine CW.k XK 14 5 [2] rfl ?_
 (conv=>whnf);intro b3;(conv=>whnf);refine ⟨rfl,?_⟩
 refine CW.ret ?_
 exact Post.one (RV.c (f := fun e => (Entry.c e).map .w) (e' := a) rfl rfl rfl rfl (DT.v (DT.v (DT.v DT.e))) (by simp_all)) (AOs.a rfl AOs.e)
set_option maxHeartbeats 4000000 in
theorem laws_toEntryS_fn (a : List Entry) (hm : a.length ≤ 1048576) (hs : ∀ x ∈ a, okToEntry x) : Eng.Fn E.P 117 [.one (.r (sl 3 Entry.c a))] (.one (.one (.w (sl 3 Entry.c a)))) [.one (.r (sl 3 Entry.c a))] := by
 refine Eng.Fn.intro (E := E) (rvs := [.tmp 2]) Try.func117 rfl rfl rfl (by simp [outSlots, moved, rvSlot, sl]) ?_
 intro B g bo
 refine CW.bound (x := .tmp 0) (n := a.length) (AsT.r) (fun hl0 => ?_)
 refine CW.keep 23 [0] rfl ?_;(conv=>whnf);refine ⟨?_⟩
 refine CW.k XK 23 1 [0] rfl ?_
 (conv=>whnf);refine ⟨rfl,?_⟩
 refine CW.seq ?_
 refine CW.region ?_
 refine RW.k XK 23 2 rfl ?_
 (conv=>whnf);refine ⟨rfl,?_⟩
 refine RW.makeS (n := a.length) (c := Entry.c) Entry.z rfl rfl rfl rfl rfl rfl rfl rfl (ZT.v (ZT.v (ZT.v ZT.e))) (by show 32 * a.length ≤ 281474976710656; omega) (by simp only [maxLen]; omega) fun X1 => ?_
 refine RW.assignMove rfl rfl rfl (by decide) (Nat.le_of_ble_eq_true rfl) (Nat.le_of_ble_eq_true rfl) ?_
 refine RW.nil ?_
 refine CW.keep 23 [0,3] rfl ?_;(conv=>whnf);refine ⟨?_⟩
 refine CW.seq ?_
 refine CW.k XK 23 1 [0,3,4] rfl ?_
 (conv=>whnf);refine ⟨rfl,?_⟩
 refine CW.block ?_
 refine CW.loopI 23 (fun (i : Nat) => [(0, .r (sl 3 Entry.c a)), (3, .w (sl 3 Entry.c (a.take i ++ List.replicate (a.length - i) Entry.z)) X1), (4, I (i : Int))]) (fun (i : Nat) => i ≤ a.length) (fun (i : Nat) => a.length - i) 0 rfl (Le.c rfl <| Le.c rfl <| Le.c rfl <| Le.e) (by omega) ?_
 rintro i hb
 refine CW.seq ?_
 refine CW.k XK 23 1 [0,3,4,11] rfl ?_
 (conv=>whnf);refine ⟨rfl,?_⟩
 refine CW.cond rfl (fun h2 => ?_) (fun h2 => ?_)
 ·skip
  have hii : i < a.length := by have := h2; simp at this; first | exact this | omega | (simp; done) | (simp; omega)
  obtain ⟨ei, hei⟩ : ∃ e, a[i]? = some e := ⟨_, List.getElem?_eq_getElem hii⟩
  have hdi := drop_get hei
  refine CW.skip ?_
  refine CW.keep 23 [0,3,4] rfl ?_;(conv=>whnf);refine ⟨?_⟩
  refine CW.seq ?_
  refine CW.block ?_
  refine CW.region ?_
  refine RW.k XK 23 4 rfl ?_
  (conv=>whnf);refine ⟨rfl,?_⟩
  refine RW.v rfl (V.indexS rfl rfl rfl rfl rfl rfl Entry.len hei) ?_
  refine RW.k XK 23 1 rfl ?_
  (conv=>whnf);refine ⟨rfl,?_⟩
  refine RW.call rfl (laws_toEntry_fn ei (hs ei (List.mem_of_getElem? hei))) rfl (.cons (.agg (.cons (.r .r) (.cons (.r .r) (.cons (.r .r) (.nil))))) (.nil)) fun g3 => ?_
  refine RW.v rfl (V.indexW rfl rfl rfl rfl rfl rfl rfl (by simp; omega)) ?_
  refine RW.storeS (v := ei) rfl rfl rfl rfl rfl rfl rfl (DW.v (DW.v (DW.v DW.e))) Entry.len (by decide) (by simp; omega) rfl ?_
  refine RW.nil ?_
  refine CW.keep 23 [0,3,4] rfl ?_;(conv=>whnf);refine ⟨?_⟩
  refine CW.region ?_
  refine RW.k XK 23 1 rfl ?_
  (conv=>whnf);refine ⟨rfl,?_⟩
  refine RW.v rfl (V.inc rfl rfl rfl hii hl0) ?_
  refine RW.k XK 23 1 rfl ?_
  (conv=>whnf);refine ⟨rfl,?_⟩
  refine RW.nil ?_
  exact ⟨i + 1, by omega, by omega, rfl, Le.c rfl <| Le.c (congrArg (fun l => D.w (sl _ Entry.c l) X1) (take_set hei)) <| Le.c rfl <| Le.e⟩
 ·skip
  have hii : a.length ≤ i := by have := h2; simp at this; first | exact this | omega | (simp; done) | (simp; omega)
  have hdi : a.drop i = [] := List.drop_eq_nil_of_le hii
  refine CW.exit ?_
  refine CW.keep 23 [3] rfl ?_;(conv=>whnf);refine ⟨?_⟩
  refine CW.seq ?_
  refine CW.region ?_
  refine RW.k XK 23 2 rfl ?_
  (conv=>whnf);refine ⟨rfl,?_⟩
  refine RW.pullS 2 3 (by decide) rfl rfl ?_
  refine RW.nil ?_
  refine CW.keep 23 [2] rfl ?_;(conv=>whnf);refine ⟨?_⟩
  refine CW.ret ?_
  exact Post.one (RV.w rfl (by rw [List.take_of_length_le hii, show a.length - i = 0 from by omega]; simp)) (AOs.r AOs.e)
set_option maxHeartbeats 4000000 in
theorem laws_toLog_fn (a : Log) (hs : okToLog a) : Eng.Fn E.P 63 [.agg ((Log.c a).map .r)] (.one (.agg ((Log.c a).map .w))) [.agg ((Log.c a).map .r)] := by
 refine Eng.Fn.intro (E := E) (rvs := [.cell 2 44]) Try.func63 rfl rfl rfl (by simp [outSlots, moved, rvSlot, sl]) ?_
 intro B g bo
 refine CW.keep 15 [0] rfl ?_;(conv=>whnf);refine ⟨?_⟩
 refine CW.seq ?_
 refine CW.region ?_
 refine RW.k XK 15 1 rfl ?_
 (conv=>whnf);intro b1;(conv=>whnf);refine ⟨rfl,?_⟩
 refine RW.freezeB (ts := (Log.c a)) 1 rfl (DRd.r (DRd.r (DRd.r DRd.e))) ?_
 refine RW.k XK 15 1 rfl ?_
 (conv=>whnf);intro b2;(conv=>whnf);refine ⟨rfl,?_⟩
 refine RW.nil ?_
 refine CW.keep 15 [1,2] rfl ?_;(conv=>whnf);refine ⟨?_⟩
 refine CW.k XK 15 3 [1,2,3] rfl ?_
 (conv=>whnf);intro b3;(conv=>whnf);refine ⟨rfl,?_⟩
 refine CW.seq ?_
 refine CW.region ?_
 refine RW.k XK 15 2 rfl ?_
 (conv=>whnf);refine ⟨rfl,?_⟩
 refine RW.call rfl (laws_toEntryS_fn a.entries hs.1 hs.2) rfl (.cons (.one (.r .r)) (.nil)) fun g4 => ?_
 refine RW.k XK 15 2 rfl ?_
 (conv=>whnf);refine ⟨rfl,?_⟩
 refine RW.keep 15 [2,3,12] rfl ?_;(conv=>whnf);refine ⟨?_⟩
 refine RW.pullT (k := 3) (l := 12) (j := 2) 3 12 2 rfl rfl rfl (by decide) rfl rfl rfl ?_
 refine RW.keep 15 [2,3] rfl ?_;(conv=>whnf);refine ⟨?_⟩
 refine RW.nil ?_
 refine CW.keep 15 [2,3] rfl ?_;(conv=>whnf);refine ⟨?_⟩
 refine CW.seq ?_
 refine CW.region ?_
 refine RW.k XK 15 2 rfl ?_
 (conv=>whnf);refine ⟨rfl,?_⟩
 refine RW.keep 15 [2,3] rfl ?_;(conv=>whnf);refine ⟨?_⟩
 refine RW.pullO (k := 2) (l := 3) (j := 2) 2 3 2 rfl rfl rfl (by decide) rfl rfl rfl rfl ?_
 refine RW.keep 15 [2] rfl ?_;(conv=>whnf);refine ⟨?_⟩
 refine RW.nil ?_
 refine CW.keep 15 [2] rfl ?_;(conv=>whnf);refine ⟨?_⟩
 refine CW.ret ?_
 exact Post.one (RV.c (f := fun e => (Log.c e).map .w) (e' := a) rfl rfl rfl rfl (DT.v (DT.v (DT.w DT.e))) (by simp_all)) (AOs.a rfl AOs.e)
set_option maxHeartbeats 4000000 in
theorem laws_toPeer_fn (a : Peer) : Eng.Fn E.P 118 [.agg ((Peer.c a).map .r)] (.one (.agg ((Peer.c a).map .w))) [.agg ((Peer.c a).map .r)] := by
 refine Eng.Fn.intro (E := E) (rvs := [.cell 2 98]) Try.func118 rfl rfl rfl (by simp [outSlots, moved, rvSlot, sl]) ?_
 intro B g bo
 refine CW.keep 17 [0] rfl ?_;(conv=>whnf);refine ⟨?_⟩
 refine CW.seq ?_
 refine CW.region ?_
 refine RW.k XK 17 1 rfl ?_
 (conv=>whnf);intro b1;(conv=>whnf);refine ⟨rfl,?_⟩
 refine RW.freezeB (ts := (Peer.c a)) 1 rfl (DRd.r (DRd.r (DRd.r (DRd.r DRd.e)))) ?_
 refine RW.k XK 17 1 rfl ?_
 (conv=>whnf);intro b2;(conv=>whnf);refine ⟨rfl,?_⟩
 refine RW.nil ?_
 refine CW.keep 17 [1,2] rfl ?_;(conv=>whnf);refine ⟨?_⟩
 refine CW.k XK 17 6 [2] rfl ?_
 (conv=>whnf);intro b3;(conv=>whnf);refine ⟨rfl,?_⟩
 refine CW.ret ?_
 exact Post.one (RV.c (f := fun e => (Peer.c e).map .w) (e' := a) rfl rfl rfl rfl (DT.v (DT.v (DT.v (DT.v DT.e)))) (by simp_all)) (AOs.a rfl AOs.e)
set_option maxHeartbeats 4000000 in
theorem laws_toPeerS_fn (a : List Peer) (hm : a.length ≤ 1048576) : Eng.Fn E.P 64 [.one (.r (sl 4 Peer.c a))] (.one (.one (.w (sl 4 Peer.c a)))) [.one (.r (sl 4 Peer.c a))] := by
 refine Eng.Fn.intro (E := E) (rvs := [.tmp 2]) Try.func64 rfl rfl rfl (by simp [outSlots, moved, rvSlot, sl]) ?_
 intro B g bo
 refine CW.bound (x := .tmp 0) (n := a.length) (AsT.r) (fun hl0 => ?_)
 refine CW.keep 23 [0] rfl ?_;(conv=>whnf);refine ⟨?_⟩
 refine CW.k XK 23 1 [0] rfl ?_
 (conv=>whnf);refine ⟨rfl,?_⟩
 refine CW.seq ?_
 refine CW.region ?_
 refine RW.k XK 23 2 rfl ?_
 (conv=>whnf);refine ⟨rfl,?_⟩
 refine RW.makeS (n := a.length) (c := Peer.c) Peer.z rfl rfl rfl rfl rfl rfl rfl rfl (ZT.v (ZT.v (ZT.v (ZT.v ZT.e)))) (by show 32 * a.length ≤ 281474976710656; omega) (by simp only [maxLen]; omega) fun X1 => ?_
 refine RW.assignMove rfl rfl rfl (by decide) (Nat.le_of_ble_eq_true rfl) (Nat.le_of_ble_eq_true rfl) ?_
 refine RW.nil ?_
 refine CW.keep 23 [0,3] rfl ?_;(conv=>whnf);refine ⟨?_⟩
 refine CW.seq ?_
 refine CW.k XK 23 1 [0,3,4] rfl ?_
 (conv=>whnf);refine ⟨rfl,?_⟩
 refine CW.block ?_
 refine CW.loopI 23 (fun (i : Nat) => [(0, .r (sl 4 Peer.c a)), (3, .w (sl 4 Peer.c (a.take i ++ List.replicate (a.length - i) Peer.z)) X1), (4, I (i : Int))]) (fun (i : Nat) => i ≤ a.length) (fun (i : Nat) => a.length - i) 0 rfl (Le.c rfl <| Le.c rfl <| Le.c rfl <| Le.e) (by omega) ?_
 rintro i hb
 refine CW.seq ?_
 refine CW.k XK 23 1 [0,3,4,11] rfl ?_
 (conv=>whnf);refine ⟨rfl,?_⟩
 refine CW.cond rfl (fun h2 => ?_) (fun h2 => ?_)
 ·skip
  have hii : i < a.length := by have := h2; simp at this; first | exact this | omega | (simp; done) | (simp; omega)
  obtain ⟨ei, hei⟩ : ∃ e, a[i]? = some e := ⟨_, List.getElem?_eq_getElem hii⟩
  have hdi := drop_get hei
  refine CW.skip ?_
  refine CW.keep 23 [0,3,4] rfl ?_;(conv=>whnf);refine ⟨?_⟩
  refine CW.seq ?_
  refine CW.block ?_
  refine CW.region ?_
  refine RW.k XK 23 4 rfl ?_
  (conv=>whnf);refine ⟨rfl,?_⟩
  refine RW.v rfl (V.indexS rfl rfl rfl rfl rfl rfl Peer.len hei) ?_
  refine RW.k XK 23 1 rfl ?_
  (conv=>whnf);refine ⟨rfl,?_⟩
  refine RW.call rfl (laws_toPeer_fn ei) rfl (.cons (.agg (.cons (.r .r) (.cons (.r .r) (.cons (.r .r) (.cons (.r .r) (.nil)))))) (.nil)) fun g3 => ?_
  refine RW.v rfl (V.indexW rfl rfl rfl rfl rfl rfl rfl (by simp; omega)) ?_
  refine RW.storeS (v := ei) rfl rfl rfl rfl rfl rfl rfl (DW.v (DW.v (DW.v (DW.v DW.e)))) Peer.len (by decide) (by simp; omega) rfl ?_
  refine RW.nil ?_
  refine CW.keep 23 [0,3,4] rfl ?_;(conv=>whnf);refine ⟨?_⟩
  refine CW.region ?_
  refine RW.k XK 23 1 rfl ?_
  (conv=>whnf);refine ⟨rfl,?_⟩
  refine RW.v rfl (V.inc rfl rfl rfl hii hl0) ?_
  refine RW.k XK 23 1 rfl ?_
  (conv=>whnf);refine ⟨rfl,?_⟩
  refine RW.nil ?_
  exact ⟨i + 1, by omega, by omega, rfl, Le.c rfl <| Le.c (congrArg (fun l => D.w (sl _ Peer.c l) X1) (take_set hei)) <| Le.c rfl <| Le.e⟩
 ·skip
  have hii : a.length ≤ i := by have := h2; simp at this; first | exact this | omega | (simp; done) | (simp; omega)
  have hdi : a.drop i = [] := List.drop_eq_nil_of_le hii
  refine CW.exit ?_
  refine CW.keep 23 [3] rfl ?_;(conv=>whnf);refine ⟨?_⟩
  refine CW.seq ?_
  refine CW.region ?_
  refine RW.k XK 23 2 rfl ?_
  (conv=>whnf);refine ⟨rfl,?_⟩
  refine RW.pullS 2 3 (by decide) rfl rfl ?_
  refine RW.nil ?_
  refine CW.keep 23 [2] rfl ?_;(conv=>whnf);refine ⟨?_⟩
  refine CW.ret ?_
  exact Post.one (RV.w rfl (by rw [List.take_of_length_le hii, show a.length - i = 0 from by omega]; simp)) (AOs.r AOs.e)
set_option maxHeartbeats 4000000 in
theorem laws_toNode_fn (a : Node) (hs : okToNode a) : Eng.Fn E.P 21 [.agg ((Node.c a).map .r)] (.one (.agg ((Node.c a).map .w))) [.agg ((Node.c a).map .r)] := by
 refine Eng.Fn.intro (E := E) (rvs := [.cell 2 47]) Try.func21 rfl rfl rfl (by simp [outSlots, moved, rvSlot, sl]) ?_
 intro B g bo
 refine CW.keep 45 [0] rfl ?_;(conv=>whnf);refine ⟨?_⟩
 refine CW.seq ?_
 refine CW.region ?_
 refine RW.k XK 45 1 rfl ?_
 (conv=>whnf);intro b1;(conv=>whnf);refine ⟨rfl,?_⟩
 refine RW.freezeB (ts := (Node.c a)) 1 rfl (DRd.r (DRd.r (DRd.r (DRd.r (DRd.r (DRd.r (DRd.r (DRd.r (DRd.r (DRd.r (DRd.r (DRd.r (DRd.r (DRd.r DRd.e)))))))))))))) ?_
 refine RW.k XK 45 1 rfl ?_
 (conv=>whnf);intro b2;(conv=>whnf);refine ⟨rfl,?_⟩
 refine RW.nil ?_
 refine CW.keep 45 [1,2] rfl ?_;(conv=>whnf);refine ⟨?_⟩
 refine CW.k XK 45 6 [1,2,3] rfl ?_
 (conv=>whnf);intro b3;(conv=>whnf);refine ⟨rfl,?_⟩
 refine CW.seq ?_
 refine CW.region ?_
 refine RW.k XK 45 2 rfl ?_
 (conv=>whnf);refine ⟨rfl,?_⟩
 refine RW.call rfl (laws_toIntS_fn a.conf hs.1.1) rfl (.cons (.one (.r .r)) (.nil)) fun g4 => ?_
 refine RW.k XK 45 2 rfl ?_
 (conv=>whnf);refine ⟨rfl,?_⟩
 refine RW.keep 45 [1,2,3,21] rfl ?_;(conv=>whnf);refine ⟨?_⟩
 refine RW.pullT (k := 3) (l := 21) (j := 5) 3 21 5 rfl rfl rfl (by decide) rfl rfl rfl ?_
 refine RW.keep 45 [1,2,3] rfl ?_;(conv=>whnf);refine ⟨?_⟩
 refine RW.nil ?_
 refine CW.keep 45 [1,2,3] rfl ?_;(conv=>whnf);refine ⟨?_⟩
 refine CW.seq ?_
 refine CW.region ?_
 refine RW.k XK 45 2 rfl ?_
 (conv=>whnf);refine ⟨rfl,?_⟩
 refine RW.call rfl (laws_toLog_fn a.log hs.2.1) rfl (.cons (.agg (.cons (.r .r) (.cons (.r .r) (.cons (.r .r) (.nil))))) (.nil)) fun g5 => ?_
 refine RW.k XK 45 2 rfl ?_
 (conv=>whnf);refine ⟨rfl,?_⟩
 refine RW.keep 45 [1,2,3,25] rfl ?_;(conv=>whnf);refine ⟨?_⟩
 refine RW.pullA (k := 3) (l := 25) (j := 8) 3 25 8 rfl rfl rfl (by decide) rfl rfl rfl rfl ?_
 refine RW.keep 45 [1,2,3] rfl ?_;(conv=>whnf);refine ⟨?_⟩
 refine RW.nil ?_
 refine CW.keep 45 [1,2,3] rfl ?_;(conv=>whnf);refine ⟨?_⟩
 refine CW.k XK 45 3 [1,2,3] rfl ?_
 (conv=>whnf);refine ⟨rfl,?_⟩
 refine CW.seq ?_
 refine CW.region ?_
 refine RW.k XK 45 2 rfl ?_
 (conv=>whnf);refine ⟨rfl,?_⟩
 refine RW.call rfl (laws_toIntS_fn a.votes hs.2.2.1.1) rfl (.cons (.one (.r .r)) (.nil)) fun g6 => ?_
 refine RW.k XK 45 2 rfl ?_
 (conv=>whnf);refine ⟨rfl,?_⟩
 refine RW.keep 45 [1,2,3,38] rfl ?_;(conv=>whnf);refine ⟨?_⟩
 refine RW.pullT (k := 3) (l := 38) (j := 12) 3 38 12 rfl rfl rfl (by decide) rfl rfl rfl ?_
 refine RW.keep 45 [1,2,3] rfl ?_;(conv=>whnf);refine ⟨?_⟩
 refine RW.nil ?_
 refine CW.keep 45 [1,2,3] rfl ?_;(conv=>whnf);refine ⟨?_⟩
 refine CW.seq ?_
 refine CW.region ?_
 refine RW.k XK 45 2 rfl ?_
 (conv=>whnf);refine ⟨rfl,?_⟩
 refine RW.call rfl (laws_toPeerS_fn a.peers hs.2.2.2.1) rfl (.cons (.one (.r .r)) (.nil)) fun g7 => ?_
 refine RW.k XK 45 2 rfl ?_
 (conv=>whnf);refine ⟨rfl,?_⟩
 refine RW.keep 45 [2,3,42] rfl ?_;(conv=>whnf);refine ⟨?_⟩
 refine RW.pullT (k := 3) (l := 42) (j := 13) 3 42 13 rfl rfl rfl (by decide) rfl rfl rfl ?_
 refine RW.keep 45 [2,3] rfl ?_;(conv=>whnf);refine ⟨?_⟩
 refine RW.nil ?_
 refine CW.keep 45 [2,3] rfl ?_;(conv=>whnf);refine ⟨?_⟩
 refine CW.seq ?_
 refine CW.region ?_
 refine RW.k XK 45 2 rfl ?_
 (conv=>whnf);refine ⟨rfl,?_⟩
 refine RW.keep 45 [2,3] rfl ?_;(conv=>whnf);refine ⟨?_⟩
 refine RW.pullO (k := 2) (l := 3) (j := 5) 2 3 5 rfl rfl rfl (by decide) rfl rfl rfl rfl ?_
 refine RW.keep 45 [2,3] rfl ?_;(conv=>whnf);refine ⟨?_⟩
 refine RW.pullO (k := 2) (l := 3) (j := 8) 2 3 8 rfl rfl rfl (by decide) rfl rfl rfl rfl ?_
 refine RW.keep 45 [2,3] rfl ?_;(conv=>whnf);refine ⟨?_⟩
 refine RW.pullO (k := 2) (l := 3) (j := 12) 2 3 12 rfl rfl rfl (by decide) rfl rfl rfl rfl ?_
 refine RW.keep 45 [2,3] rfl ?_;(conv=>whnf);refine ⟨?_⟩
 refine RW.pullO (k := 2) (l := 3) (j := 13) 2 3 13 rfl rfl rfl (by decide) rfl rfl rfl rfl ?_
 refine RW.keep 45 [2] rfl ?_;(conv=>whnf);refine ⟨?_⟩
 refine RW.nil ?_
 refine CW.keep 45 [2] rfl ?_;(conv=>whnf);refine ⟨?_⟩
 refine CW.ret ?_
 exact Post.one (RV.c (f := fun e => (Node.c e).map .w) (e' := a) rfl rfl rfl rfl (DT.v (DT.v (DT.v (DT.v (DT.v (DT.w (DT.v (DT.v (DT.w (DT.v (DT.v (DT.v (DT.w (DT.w DT.e)))))))))))))) (by simp_all)) (AOs.a rfl AOs.e)
set_option maxHeartbeats 4000000 in
theorem laws_eqEntry_fn (a : Entry) (b : Entry) : Eng.Fn E.P 50 [.agg ((Entry.c a).map .r), .agg ((Entry.c b).map .r)] (.one (.one (.w (.v (.bool (eqEntry a b)))))) [.agg ((Entry.c a).map .r), .agg ((Entry.c b).map .r)] := by
 refine Eng.Fn.intro (E := E) (rvs := [.tmp 4]) Try.func50 rfl rfl rfl (by simp [outSlots, moved, rvSlot, sl]) ?_
 intro B g bo
 refine CW.keep 20 [0,1] rfl ?_;(conv=>whnf);refine ⟨?_⟩
 refine CW.seq ?_
 refine CW.region ?_
 refine RW.k XK 20 1 rfl ?_
 (conv=>whnf);intro b1;(conv=>whnf);refine ⟨rfl,?_⟩
 refine RW.freezeB (ts := (Entry.c a)) 2 rfl (DRd.r (DRd.r (DRd.r DRd.e))) ?_
 refine RW.k XK 20 1 rfl ?_
 (conv=>whnf);intro b2;(conv=>whnf);refine ⟨rfl,?_⟩
 refine RW.freezeB (ts := (Entry.c b)) 3 rfl (DRd.r (DRd.r (DRd.r DRd.e))) ?_
 refine RW.k XK 20 1 rfl ?_
 (conv=>whnf);refine ⟨rfl,?_⟩
 refine RW.nil ?_
 refine CW.keep 20 [2,3] rfl ?_;(conv=>whnf);refine ⟨?_⟩
 refine CW.seq ?_
 refine CW.k XK 20 1 [2,3,9] rfl ?_
 (conv=>whnf);refine ⟨rfl,?_⟩
 refine CW.cond rfl (fun h3 => ?_) (fun h3 => ?_)
 ·skip
  refine CW.k XK 20 1 [4] rfl ?_
  (conv=>whnf);refine ⟨rfl,?_⟩
  refine CW.ret ?_
  exact Post.one (RV.b rfl (by simp_all [eqEntry])) (AOs.a rfl (AOs.a rfl AOs.e))
 ·skip
  refine CW.skip ?_
  refine CW.keep 20 [2,3] rfl ?_;(conv=>whnf);refine ⟨?_⟩
  refine CW.seq ?_
  refine CW.k XK 20 1 [2,3,14] rfl ?_
  (conv=>whnf);refine ⟨rfl,?_⟩
  refine CW.cond rfl (fun h4 => ?_) (fun h4 => ?_)
  ·skip
   refine CW.k XK 20 1 [4] rfl ?_
   (conv=>whnf);refine ⟨rfl,?_⟩
   refine CW.ret ?_
   exact Post.one (RV.b rfl (by simp_all [eqEntry])) (AOs.a rfl (AOs.a rfl AOs.e))
  ·skip
   refine CW.skip ?_
   refine CW.keep 20 [2,3] rfl ?_;(conv=>whnf);refine ⟨?_⟩
   refine CW.seq ?_
   refine CW.k XK 20 1 [19] rfl ?_
   (conv=>whnf);refine ⟨rfl,?_⟩
   refine CW.cond rfl (fun h5 => ?_) (fun h5 => ?_)
   ·skip
    refine CW.k XK 20 1 [4] rfl ?_
    (conv=>whnf);refine ⟨rfl,?_⟩
    refine CW.ret ?_
    exact Post.one (RV.b rfl (by simp_all [eqEntry])) (AOs.a rfl (AOs.a rfl AOs.e))
   ·skip
    refine CW.skip ?_
    refine CW.keep 20 [] rfl ?_;(conv=>whnf);refine ⟨?_⟩
    refine CW.k XK 20 1 [4] rfl ?_
    (conv=>whnf);refine ⟨rfl,?_⟩
    refine CW.ret ?_
    exact Post.one (RV.b rfl (by simp_all [eqEntry])) (AOs.a rfl (AOs.a rfl AOs.e))
set_option maxHeartbeats 4000000 in
theorem laws_eqEntryS_fn (a : List Entry) (b : List Entry) : Eng.Fn E.P 14 [.one (.r (sl 3 Entry.c a)), .one (.r (sl 3 Entry.c b))] (.one (.one (.w (.v (.bool (eqS eqEntry a b)))))) [.one (.r (sl 3 Entry.c a)), .one (.r (sl 3 Entry.c b))] := by
 refine Eng.Fn.intro (E := E) (rvs := [.tmp 4]) Try.func14 rfl rfl rfl (by simp [outSlots, moved, rvSlot, sl]) ?_
 intro B g bo
 refine CW.bound (x := .tmp 0) (n := a.length) (AsT.r) (fun hl0 => ?_)
 refine CW.bound (x := .tmp 1) (n := b.length) (AsT.r) (fun hl1 => ?_)
 refine CW.keep 27 [0,1] rfl ?_;(conv=>whnf);refine ⟨?_⟩
 refine CW.k XK 27 1 [0,1] rfl ?_
 (conv=>whnf);refine ⟨rfl,?_⟩
 refine CW.seq ?_
 refine CW.k XK 27 1 [0,1,10] rfl ?_
 (conv=>whnf);refine ⟨rfl,?_⟩
 refine CW.cond rfl (fun h1 => ?_) (fun h1 => ?_)
 ·skip
  refine CW.k XK 27 1 [4] rfl ?_
  (conv=>whnf);refine ⟨rfl,?_⟩
  refine CW.ret ?_
  exact Post.one (RV.b rfl (by first | (simp_all [eqS, eqI, eqStr, eqB]; done) | exact (eqS_ne (by simp_all; omega)).symm)) (AOs.r (AOs.r AOs.e))
 ·skip
  refine CW.skip ?_
  refine CW.keep 27 [0,1] rfl ?_;(conv=>whnf);refine ⟨?_⟩
  refine CW.seq ?_
  refine CW.k XK 27 1 [0,1,5] rfl ?_
  (conv=>whnf);refine ⟨rfl,?_⟩
  refine CW.block ?_
  refine CW.loopI 27 (fun (i : Nat) => [(0, .r (sl 3 Entry.c a)), (1, .r (sl 3 Entry.c b)), (5, I (i : Int))]) (fun (i : Nat) => i ≤ a.length ∧ eqS eqEntry (a.drop i) (b.drop i) = eqS eqEntry a b) (fun (i : Nat) => a.length - i) 0 rfl (Le.c rfl <| Le.c rfl <| Le.c rfl <| Le.e) ⟨by omega, by simp⟩ ?_
  rintro i ⟨hb, hr⟩
  have hlen : a.length = b.length := by simp at h1; omega
  refine CW.seq ?_
  refine CW.k XK 27 1 [0,1,5,14] rfl ?_
  (conv=>whnf);refine ⟨rfl,?_⟩
  refine CW.cond rfl (fun h2 => ?_) (fun h2 => ?_)
  ·skip
   have hii : i < a.length := by have := h2; simp at this; first | exact this | omega | (simp; done) | (simp; omega)
   obtain ⟨ei, hei⟩ : ∃ e, a[i]? = some e := ⟨_, List.getElem?_eq_getElem hii⟩
   have hdi := drop_get hei
   have hib : i < b.length := by omega
   obtain ⟨eb, heb⟩ : ∃ e, b[i]? = some e := ⟨_, List.getElem?_eq_getElem hib⟩
   have hdb := drop_get heb
   refine CW.skip ?_
   refine CW.keep 27 [0,1,5] rfl ?_;(conv=>whnf);refine ⟨?_⟩
   refine CW.seq ?_
   refine CW.block ?_
   refine CW.seq ?_
   refine CW.drawn (by kernel_rfl) ?_
   refine RQ.k XK 27 2 rfl ?_
   (conv=>whnf);refine ⟨rfl,?_⟩
   refine RQ.v rfl (V.indexS rfl rfl rfl rfl rfl rfl Entry.len hei) ?_
   refine RQ.k XK 27 3 rfl ?_
   (conv=>whnf);refine ⟨rfl,?_⟩
   refine RQ.v rfl (V.indexS rfl rfl rfl rfl rfl rfl Entry.len heb) ?_
   refine RQ.k XK 27 1 rfl ?_
   (conv=>whnf);refine ⟨rfl,?_⟩
   refine RQ.cons rfl (QOK.call (laws_eqEntry_fn ei eb) rfl (.cons (.agg (.cons (.r .r) (.cons (.r .r) (.cons (.r .r) (.nil))))) (.cons (.agg (.cons (.r .r) (.cons (.r .r) (.cons (.r .r) (.nil))))) (.nil))) ?_)
   refine RQ.k XK 27 1 rfl ?_
   (conv=>whnf);refine ⟨rfl,?_⟩
   refine RQ.nil ?_
   refine CW.keep 27 [0,1,5,26] rfl ?_;(conv=>whnf);refine ⟨?_⟩
   refine CW.cond rfl (fun h3 => ?_) (fun h3 => ?_)
   ·skip
    refine CW.k XK 27 1 [4] rfl ?_
    (conv=>whnf);refine ⟨rfl,?_⟩
    refine CW.ret ?_
    exact Post.one (RV.b rfl (by first | (simp_all [eqS, eqI, eqStr, eqB]; done) | exact (eqS_ne (by simp_all; omega)).symm)) (AOs.r (AOs.r AOs.e))
   ·skip
    refine CW.skip ?_
    refine CW.keep 27 [0,1,5] rfl ?_;(conv=>whnf);refine ⟨?_⟩
    refine CW.region ?_
    refine RW.k XK 27 1 rfl ?_
    (conv=>whnf);refine ⟨rfl,?_⟩
    refine RW.v rfl (V.inc rfl rfl rfl hii hl0) ?_
    refine RW.k XK 27 1 rfl ?_
    (conv=>whnf);refine ⟨rfl,?_⟩
    refine RW.nil ?_
    exact ⟨i + 1, by omega, ⟨by omega, by simp_all [eqS, eqI, eqStr, eqB]⟩, rfl, Le.c rfl <| Le.c rfl <| Le.c rfl <| Le.e⟩
  ·skip
   have hii : a.length ≤ i := by have := h2; simp at this; first | exact this | omega | (simp; done) | (simp; omega)
   have hdi : a.drop i = [] := List.drop_eq_nil_of_le hii
   refine CW.exit ?_
   refine CW.keep 27 [] rfl ?_;(conv=>whnf);refine ⟨?_⟩
   refine CW.k XK 27 1 [4] rfl ?_
   (conv=>whnf);refine ⟨rfl,?_⟩
   refine CW.ret ?_
   exact Post.one (RV.b rfl (by rw [← hr, hdi, List.drop_eq_nil_of_le (show b.length ≤ i by omega)]; rfl)) (AOs.r (AOs.r AOs.e))
set_option maxHeartbeats 4000000 in
theorem laws_eqIntS_fn (a : List Int) (b : List Int) : Eng.Fn E.P 27 [.one (.r (sl 1 cI a)), .one (.r (sl 1 cI b))] (.one (.one (.w (.v (.bool (eqS eqI a b)))))) [.one (.r (sl 1 cI a)), .one (.r (sl 1 cI b))] := by
 refine Eng.Fn.intro (E := E) (rvs := [.tmp 4]) Try.func27 rfl rfl rfl (by simp [outSlots, moved, rvSlot, sl]) ?_
 intro B g bo
 refine CW.bound (x := .tmp 0) (n := a.length) (AsT.r) (fun hl0 => ?_)
 refine CW.bound (x := .tmp 1) (n := b.length) (AsT.r) (fun hl1 => ?_)
 refine CW.keep 26 [0,1] rfl ?_;(conv=>whnf);refine ⟨?_⟩
 refine CW.k XK 26 1 [0,1] rfl ?_
 (conv=>whnf);refine ⟨rfl,?_⟩
 refine CW.seq ?_
 refine CW.k XK 26 1 [0,1,10] rfl ?_
 (conv=>whnf);refine ⟨rfl,?_⟩
 refine CW.cond rfl (fun h1 => ?_) (fun h1 => ?_)
 ·skip
  refine CW.k XK 26 1 [4] rfl ?_
  (conv=>whnf);refine ⟨rfl,?_⟩
  refine CW.ret ?_
  exact Post.one (RV.b rfl (by first | (simp_all [eqS, eqI, eqStr, eqB]; done) | exact (eqS_ne (by simp_all; omega)).symm)) (AOs.r (AOs.r AOs.e))
 ·skip
  refine CW.skip ?_
  refine CW.keep 26 [0,1] rfl ?_;(conv=>whnf);refine ⟨?_⟩
  refine CW.seq ?_
  refine CW.k XK 26 1 [0,1,5] rfl ?_
  (conv=>whnf);refine ⟨rfl,?_⟩
  refine CW.block ?_
  refine CW.loopI 26 (fun (i : Nat) => [(0, .r (sl 1 cI a)), (1, .r (sl 1 cI b)), (5, I (i : Int))]) (fun (i : Nat) => i ≤ a.length ∧ eqS eqI (a.drop i) (b.drop i) = eqS eqI a b) (fun (i : Nat) => a.length - i) 0 rfl (Le.c rfl <| Le.c rfl <| Le.c rfl <| Le.e) ⟨by omega, by simp⟩ ?_
  rintro i ⟨hb, hr⟩
  have hlen : a.length = b.length := by simp at h1; omega
  refine CW.seq ?_
  refine CW.k XK 26 1 [0,1,5,14] rfl ?_
  (conv=>whnf);refine ⟨rfl,?_⟩
  refine CW.cond rfl (fun h2 => ?_) (fun h2 => ?_)
  ·skip
   have hii : i < a.length := by have := h2; simp at this; first | exact this | omega | (simp; done) | (simp; omega)
   obtain ⟨ei, hei⟩ : ∃ e, a[i]? = some e := ⟨_, List.getElem?_eq_getElem hii⟩
   have hdi := drop_get hei
   have hib : i < b.length := by omega
   obtain ⟨eb, heb⟩ : ∃ e, b[i]? = some e := ⟨_, List.getElem?_eq_getElem hib⟩
   have hdb := drop_get heb
   refine CW.skip ?_
   refine CW.keep 26 [0,1,5] rfl ?_;(conv=>whnf);refine ⟨?_⟩
   refine CW.seq ?_
   refine CW.block ?_
   refine CW.seq ?_
   refine CW.drawn (by kernel_rfl) ?_
   refine RQ.k XK 26 2 rfl ?_
   (conv=>whnf);refine ⟨rfl,?_⟩
   refine RQ.v rfl (V.indexS rfl rfl rfl rfl rfl rfl cI.len hei) ?_
   refine RQ.k XK 26 3 rfl ?_
   (conv=>whnf);refine ⟨rfl,?_⟩
   refine RQ.v rfl (V.indexS rfl rfl rfl rfl rfl rfl cI.len heb) ?_
   refine RQ.k XK 26 2 rfl ?_
   (conv=>whnf);refine ⟨rfl,?_⟩
   refine RQ.nil ?_
   refine CW.keep 26 [0,1,5,25] rfl ?_;(conv=>whnf);refine ⟨?_⟩
   refine CW.cond rfl (fun h3 => ?_) (fun h3 => ?_)
   ·skip
    refine CW.k XK 26 1 [4] rfl ?_
    (conv=>whnf);refine ⟨rfl,?_⟩
    refine CW.ret ?_
    exact Post.one (RV.b rfl (by first | (simp_all [eqS, eqI, eqStr, eqB]; done) | exact (eqS_ne (by simp_all; omega)).symm)) (AOs.r (AOs.r AOs.e))
   ·skip
    refine CW.skip ?_
    refine CW.keep 26 [0,1,5] rfl ?_;(conv=>whnf);refine ⟨?_⟩
    refine CW.region ?_
    refine RW.k XK 26 1 rfl ?_
    (conv=>whnf);refine ⟨rfl,?_⟩
    refine RW.v rfl (V.inc rfl rfl rfl hii hl0) ?_
    refine RW.k XK 26 1 rfl ?_
    (conv=>whnf);refine ⟨rfl,?_⟩
    refine RW.nil ?_
    exact ⟨i + 1, by omega, ⟨by omega, by simp_all [eqS, eqI, eqStr, eqB]⟩, rfl, Le.c rfl <| Le.c rfl <| Le.c rfl <| Le.e⟩
  ·skip
   have hii : a.length ≤ i := by have := h2; simp at this; first | exact this | omega | (simp; done) | (simp; omega)
   have hdi : a.drop i = [] := List.drop_eq_nil_of_le hii
   refine CW.exit ?_
   refine CW.keep 26 [] rfl ?_;(conv=>whnf);refine ⟨?_⟩
   refine CW.k XK 26 1 [4] rfl ?_
   (conv=>whnf);refine ⟨rfl,?_⟩
   refine CW.ret ?_
   exact Post.one (RV.b rfl (by rw [← hr, hdi, List.drop_eq_nil_of_le (show b.length ≤ i by omega)]; rfl)) (AOs.r (AOs.r AOs.e))
set_option maxHeartbeats 4000000 in
theorem laws_eqLog_fn (a : Log) (b : Log) : Eng.Fn E.P 73 [.agg ((Log.c a).map .r), .agg ((Log.c b).map .r)] (.one (.one (.w (.v (.bool (eqLog a b)))))) [.agg ((Log.c a).map .r), .agg ((Log.c b).map .r)] := by
 refine Eng.Fn.intro (E := E) (rvs := [.tmp 4]) Try.func73 rfl rfl rfl (by simp [outSlots, moved, rvSlot, sl]) ?_
 intro B g bo
 refine CW.keep 21 [0,1] rfl ?_;(conv=>whnf);refine ⟨?_⟩
 refine CW.seq ?_
 refine CW.region ?_
 refine RW.k XK 21 1 rfl ?_
 (conv=>whnf);intro b1;(conv=>whnf);refine ⟨rfl,?_⟩
 refine RW.freezeB (ts := (Log.c a)) 2 rfl (DRd.r (DRd.r (DRd.r DRd.e))) ?_
 refine RW.k XK 21 1 rfl ?_
 (conv=>whnf);intro b2;(conv=>whnf);refine ⟨rfl,?_⟩
 refine RW.freezeB (ts := (Log.c b)) 3 rfl (DRd.r (DRd.r (DRd.r DRd.e))) ?_
 refine RW.k XK 21 1 rfl ?_
 (conv=>whnf);refine ⟨rfl,?_⟩
 refine RW.nil ?_
 refine CW.keep 21 [2,3] rfl ?_;(conv=>whnf);refine ⟨?_⟩
 refine CW.seq ?_
 refine CW.k XK 21 1 [2,3,9] rfl ?_
 (conv=>whnf);refine ⟨rfl,?_⟩
 refine CW.cond rfl (fun h3 => ?_) (fun h3 => ?_)
 ·skip
  refine CW.k XK 21 1 [4] rfl ?_
  (conv=>whnf);refine ⟨rfl,?_⟩
  refine CW.ret ?_
  exact Post.one (RV.b rfl (by simp_all [eqLog])) (AOs.a rfl (AOs.a rfl AOs.e))
 ·skip
  refine CW.skip ?_
  refine CW.keep 21 [2,3] rfl ?_;(conv=>whnf);refine ⟨?_⟩
  refine CW.seq ?_
  refine CW.k XK 21 1 [2,3,14] rfl ?_
  (conv=>whnf);refine ⟨rfl,?_⟩
  refine CW.cond rfl (fun h4 => ?_) (fun h4 => ?_)
  ·skip
   refine CW.k XK 21 1 [4] rfl ?_
   (conv=>whnf);refine ⟨rfl,?_⟩
   refine CW.ret ?_
   exact Post.one (RV.b rfl (by simp_all [eqLog])) (AOs.a rfl (AOs.a rfl AOs.e))
  ·skip
   refine CW.skip ?_
   refine CW.keep 21 [2,3] rfl ?_;(conv=>whnf);refine ⟨?_⟩
   refine CW.seq ?_
   refine CW.seq ?_
   refine CW.region ?_
   refine RW.k XK 21 4 rfl ?_
   (conv=>whnf);refine ⟨rfl,?_⟩
   refine RW.call rfl (laws_eqEntryS_fn a.entries b.entries) rfl (.cons (.one (.r .r)) (.cons (.one (.r .r)) (.nil))) fun g5 => ?_
   refine RW.k XK 21 1 rfl ?_
   (conv=>whnf);refine ⟨rfl,?_⟩
   refine RW.nil ?_
   refine CW.keep 21 [20] rfl ?_;(conv=>whnf);refine ⟨?_⟩
   refine CW.cond rfl (fun h6 => ?_) (fun h6 => ?_)
   ·skip
    refine CW.k XK 21 1 [4] rfl ?_
    (conv=>whnf);refine ⟨rfl,?_⟩
    refine CW.ret ?_
    exact Post.one (RV.b rfl (by simp_all [eqLog])) (AOs.a rfl (AOs.a rfl AOs.e))
   ·skip
    refine CW.skip ?_
    refine CW.keep 21 [] rfl ?_;(conv=>whnf);refine ⟨?_⟩
    refine CW.k XK 21 1 [4] rfl ?_
    (conv=>whnf);refine ⟨rfl,?_⟩
    refine CW.ret ?_
    exact Post.one (RV.b rfl (by simp_all [eqLog])) (AOs.a rfl (AOs.a rfl AOs.e))
end Go.Proofs.Ytbiocicogminlaa.Y
