import Derived.Test.YtbiocicogminlaaWProposeG
namespace Go.Proofs.Ytbiocicogminlaa.Y
open Go Go.RowKit Go.Eng Go.Proofs
set_option maxRecDepth 10000
set_option maxHeartbeats 4000000 in
theorem laws_FnExactPropose_fn (n : Node) (kind : Int) (data : ByteArray) (hok : okNode n) : Eng.Fn E.P 7 [.agg ((Node.c n).map .r), .one (.r (.v (.int .i64 kind))), .one (.r (.v (.string data)))] (.one (.one (.w (.v (.bool true))))) [.agg ((Node.c n).map .r), .one (.r (.v (.int .i64 kind))), .one (.r (.v (.string data)))] := by
 refine Eng.Fn.intro (E := E) (rvs := [.tmp 6]) Try.func7 rfl rfl rfl (by simp [outSlots, moved, rvSlot, sl]) ?_
 intro B g bo
 refine CW.keep 167 [0,1,2] rfl ?_;(conv=>whnf);refine ⟨?_⟩
 refine CW.seq ?_
 refine CW.region ?_
 refine RW.k XK 167 1 rfl ?_
 (conv=>whnf);intro b1;(conv=>whnf);refine ⟨rfl,?_⟩
 refine RW.freezeB (ts := (Node.c n)) 3 rfl (DRd.r (DRd.r (DRd.r (DRd.r (DRd.r (DRd.r (DRd.r (DRd.r (DRd.r (DRd.r (DRd.r (DRd.r (DRd.r (DRd.r DRd.e)))))))))))))) ?_
 refine RW.k XK 167 1 rfl ?_
 (conv=>whnf);refine ⟨rfl,?_⟩
 refine RW.nil ?_
 refine CW.keep 167 [1,2,3] rfl ?_;(conv=>whnf);refine ⟨?_⟩
 refine CW.seq ?_
 refine CW.k XK 167 1 [1,2,3,26] rfl ?_
 (conv=>whnf);refine ⟨rfl,?_⟩
 refine CW.cond rfl (fun h2 => ?_) (fun h2 => ?_)
 ·skip
  refine CW.k XK 167 1 [6] rfl ?_
  (conv=>whnf);refine ⟨rfl,?_⟩
  refine CW.ret ?_
  exact Post.one (RV.b rfl (by first | rfl | (exfalso; have p0 := mkVNode_facts hP; have p1 := mkNM_facts (okPropose hP kind hdk).1 (okPropose hP kind hdk).2; simp_all [eqNode_refl, eqS_refl eqMessage_refl]; done) | (exfalso; have p0 := mkVNode_facts hP; have p1 := mkNM_facts (okPropose hP kind hdk).1 (okPropose hP kind hdk).2; simp_all [eqNode_refl, eqS_refl eqMessage_refl]; omega))) (AOs.a rfl (AOs.r (AOs.r AOs.e)))
 ·skip
  have hdk : data.size ≤ 1048576 := by simp at h2; omega
  refine CW.skip ?_
  refine CW.keep 167 [1,2,3] rfl ?_;(conv=>whnf);refine ⟨?_⟩
  refine CW.k XK 167 1 [1,2,3,7] rfl ?_
  (conv=>whnf);refine ⟨rfl,?_⟩
  refine CW.seq ?_
  refine CW.region ?_
  refine RW.k XK 167 2 rfl ?_
  (conv=>whnf);refine ⟨rfl,?_⟩
  refine RW.call rfl (laws_szNode_fn n 1048576) rfl (.cons (.agg (.cons (.r .r) (.cons (.r .r) (.cons (.r .r) (.cons (.r .r) (.cons (.r .r) (.cons (.r .r) (.cons (.r .r) (.cons (.r .r) (.cons (.r .r) (.cons (.r .r) (.cons (.r .r) (.cons (.r .r) (.cons (.r .r) (.cons (.r .r) (.nil)))))))))))))))) (.cons (.one (.r .r)) (.nil))) fun g3 => ?_
  refine RW.k XK 167 1 rfl ?_
  (conv=>whnf);refine ⟨rfl,?_⟩
  refine RW.nil ?_
  refine CW.keep 167 [1,2,3,7] rfl ?_;(conv=>whnf);refine ⟨?_⟩
  refine CW.seq ?_
  refine CW.k XK 167 1 [1,2,3,31] rfl ?_
  (conv=>whnf);refine ⟨rfl,?_⟩
  refine CW.cond rfl (fun h4 => ?_) (fun h4 => ?_)
  ·skip
   refine CW.k XK 167 1 [6] rfl ?_
   (conv=>whnf);refine ⟨rfl,?_⟩
   refine CW.ret ?_
   exact Post.one (RV.b rfl (by first | rfl | (exfalso; have p0 := mkVNode_facts hP; have p1 := mkNM_facts (okPropose hP kind hdk).1 (okPropose hP kind hdk).2; simp_all [eqNode_refl, eqS_refl eqMessage_refl]; done) | (exfalso; have p0 := mkVNode_facts hP; have p1 := mkNM_facts (okPropose hP kind hdk).1 (okPropose hP kind hdk).2; simp_all [eqNode_refl, eqS_refl eqMessage_refl]; omega))) (AOs.a rfl (AOs.r (AOs.r AOs.e)))
  ·skip
   have hP : okToNode n := (szNode_ok n 1048576 hok (by omega) (by omega) (by simpa using h4)).1
   refine CW.skip ?_
   refine CW.keep 167 [1,2,3] rfl ?_;(conv=>whnf);refine ⟨?_⟩
   refine CW.seq ?_
   refine CW.region ?_
   refine RW.k XK 167 1 rfl ?_
   (conv=>whnf);refine ⟨rfl,?_⟩
   refine RW.call rfl (laws_toNode_fn n hP) rfl (.cons (.agg (.cons (.r .r) (.cons (.r .r) (.cons (.r .r) (.cons (.r .r) (.cons (.r .r) (.cons (.r .r) (.cons (.r .r) (.cons (.r .r) (.cons (.r .r) (.cons (.r .r) (.cons (.r .r) (.cons (.r .r) (.cons (.r .r) (.cons (.r .r) (.nil)))))))))))))))) (.nil)) fun g5 => ?_
   refine RW.k XK 167 2 rfl ?_
   (conv=>whnf);refine ⟨rfl,?_⟩
   refine RW.freeze 34 (d' := .agg ((Node.c n).map .r)) rfl rfl ?_
   refine RW.call rfl (spec_Propose_fn n kind data hP hdk) rfl (.cons (.agg (.cons (.r .r) (.cons (.r .r) (.cons (.r .r) (.cons (.r .r) (.cons (.r .r) (.cons (.r .r) (.cons (.r .r) (.cons (.r .r) (.cons (.r .r) (.cons (.r .r) (.cons (.r .r) (.cons (.r .r) (.cons (.r .r) (.cons (.r .r) (.nil)))))))))))))))) (.cons (.one (.r .r)) (.cons (.one (.r .r)) (.nil)))) fun g6 => ?_
   refine RW.k XK 167 7 rfl ?_
   (conv=>whnf);intro b7;(conv=>whnf);refine ⟨rfl,?_⟩
   refine RW.freezeB (ts := (Node.c ((proposeN n kind data).1))) 8 rfl (DRd.r (DRd.r (DRd.r (DRd.r (DRd.r (DRd.r (DRd.r (DRd.r (DRd.r (DRd.r (DRd.r (DRd.r (DRd.r (DRd.r DRd.e)))))))))))))) ?_
   refine RW.assignMove rfl rfl rfl (by decide) (Nat.le_of_ble_eq_true rfl) (Nat.le_of_ble_eq_true rfl) ?_
   refine RW.k XK 167 2 rfl ?_
   (conv=>whnf);refine ⟨rfl,?_⟩
   refine RW.nil ?_
   refine CW.keep 167 [1,2,3,8,9,10,11] rfl ?_;(conv=>whnf);refine ⟨?_⟩
   refine CW.seq ?_
   refine CW.region ?_
   refine RW.k XK 167 1 rfl ?_
   (conv=>whnf);refine ⟨rfl,?_⟩
   refine RW.call rfl (laws_toNode_fn n hP) rfl (.cons (.agg (.cons (.r .r) (.cons (.r .r) (.cons (.r .r) (.cons (.r .r) (.cons (.r .r) (.cons (.r .r) (.cons (.r .r) (.cons (.r .r) (.cons (.r .r) (.cons (.r .r) (.cons (.r .r) (.cons (.r .r) (.cons (.r .r) (.cons (.r .r) (.nil)))))))))))))))) (.nil)) fun g8 => ?_
   refine RW.k XK 167 2 rfl ?_
   (conv=>whnf);intro b9;(conv=>whnf);refine ⟨rfl,?_⟩
   refine RW.keep 167 [1,2,3,8,9,10,11,12,43] rfl ?_;(conv=>whnf);refine ⟨?_⟩
   refine RW.pullA (k := 12) (l := 43) (j := 5) 12 43 5 rfl rfl rfl (by decide) rfl rfl rfl rfl ?_
   refine RW.keep 167 [1,2,3,8,9,10,11,12,43] rfl ?_;(conv=>whnf);refine ⟨?_⟩
   refine RW.pullA (k := 12) (l := 43) (j := 8) 12 43 8 rfl rfl rfl (by decide) rfl rfl rfl rfl ?_
   refine RW.keep 167 [1,2,3,8,9,10,11,12,43] rfl ?_;(conv=>whnf);refine ⟨?_⟩
   refine RW.pullA (k := 12) (l := 43) (j := 12) 12 43 12 rfl rfl rfl (by decide) rfl rfl rfl rfl ?_
   refine RW.keep 167 [1,2,3,8,9,10,11,12,43] rfl ?_;(conv=>whnf);refine ⟨?_⟩
   refine RW.pullA (k := 12) (l := 43) (j := 13) 12 43 13 rfl rfl rfl (by decide) rfl rfl rfl rfl ?_
   refine RW.keep 167 [1,2,3,8,9,10,11,12] rfl ?_;(conv=>whnf);refine ⟨?_⟩
   refine RW.nil ?_
   refine CW.keep 167 [1,2,3,8,9,10,11,12] rfl ?_;(conv=>whnf);refine ⟨?_⟩
   refine CW.seq ?_
   refine CW.region ?_
   refine RW.k XK 167 3 rfl ?_
   (conv=>whnf);refine ⟨rfl,?_⟩
   refine RW.callOwn rfl (impl_Propose_fn n kind data hP hdk) rfl (.cons (.agg (.cons (.r .r) (.cons (.r .r) (.cons (.r .r) (.cons (.r .r) (.cons (.r .r) (.cons (.r (.alo (k := none) (i := 12) (j := 5) (sz := 1) (V := (g8 0 5)) rfl rfl rfl nofun)) (.cons (.r .r) (.cons (.r .r) (.cons (.r (.alo (k := none) (i := 12) (j := 8) (sz := 3) (V := (g8 0 8)) rfl rfl rfl nofun)) (.cons (.r .r) (.cons (.r .r) (.cons (.r .r) (.cons (.r (.alo (k := none) (i := 12) (j := 12) (sz := 1) (V := (g8 0 12)) rfl rfl rfl nofun)) (.cons (.r (.alo (k := none) (i := 12) (j := 13) (sz := 4) (V := (g8 0 13)) rfl rfl rfl nofun)) (.nil)))))))))))))))) (.cons (.one (.r .r)) (.cons (.one (.r .r)) (.nil)))) rfl fun g10 => ?_
   refine RW.k XK 167 7 rfl ?_
   (conv=>whnf);intro b11;(conv=>whnf);refine ⟨rfl,?_⟩
   refine RW.keep 167 [1,2,3,8,9,10,11,12,13,49,50,51,52] rfl ?_;(conv=>whnf);refine ⟨?_⟩
   refine RW.pullA (k := 13) (l := 49) (j := 5) 13 49 5 rfl rfl rfl (by decide) rfl rfl rfl rfl ?_
   refine RW.keep 167 [1,2,3,8,9,10,11,12,13,49,50,51,52] rfl ?_;(conv=>whnf);refine ⟨?_⟩
   refine RW.pullA (k := 13) (l := 49) (j := 8) 13 49 8 rfl rfl rfl (by decide) rfl rfl rfl rfl ?_
   refine RW.keep 167 [1,2,3,8,9,10,11,12,13,49,50,51,52] rfl ?_;(conv=>whnf);refine ⟨?_⟩
   refine RW.pullA (k := 13) (l := 49) (j := 12) 13 49 12 rfl rfl rfl (by decide) rfl rfl rfl rfl ?_
   refine RW.keep 167 [1,2,3,8,9,10,11,12,13,49,50,51,52] rfl ?_;(conv=>whnf);refine ⟨?_⟩
   refine RW.pullA (k := 13) (l := 49) (j := 13) 13 49 13 rfl rfl rfl (by decide) rfl rfl rfl rfl ?_
   refine RW.keep 167 [1,2,3,8,9,10,11,12,13,50,51,52] rfl ?_;(conv=>whnf);refine ⟨?_⟩
   refine RW.assignMove rfl rfl rfl (by decide) (Nat.le_of_ble_eq_true rfl) (Nat.le_of_ble_eq_true rfl) ?_
   refine RW.k XK 167 2 rfl ?_
   (conv=>whnf);refine ⟨rfl,?_⟩
   refine RW.nil ?_
   refine CW.keep 167 [1,2,3,8,9,10,11,12,13,14,15,16] rfl ?_;(conv=>whnf);refine ⟨?_⟩
   refine CW.seq ?_
   refine CW.seqJ 167 (fun (v12 : Bool) => [(1, I kind), (2, S data), (3, .rp (Node.c n)), (8, .rp (Node.c ((proposeN n kind data).1))), (9, .w (sl 12 Message.c ((proposeN n kind data).2.1)) (g6 1 0)), (10, I ((proposeN n kind data).2.2.1)), (11, Bo ((proposeN n kind data).2.2.2)), (12, .obj b9 [I n.id, I n.term_, I n.vote, I n.role, I n.lead, .w (sl 1 cI n.conf) (g8 0 5), I n.log.start, I n.log.startTerm, .w (sl 3 Entry.c n.log.entries) (g8 0 8), I n.commit, I n.clock, I n.limit, .w (sl 1 cI n.votes) (g8 0 12), .w (sl 4 Peer.c n.peers) (g8 0 13)]), (13, .obj b11 [I (((proposeN n kind data).1).id), I (((proposeN n kind data).1).term_), I (((proposeN n kind data).1).vote), I (((proposeN n kind data).1).role), I (((proposeN n kind data).1).lead), .w (sl 1 cI (((proposeN n kind data).1).conf)) (g10 0 5), I ((((proposeN n kind data).1).log).start), I ((((proposeN n kind data).1).log).startTerm), .w (sl 3 Entry.c ((((proposeN n kind data).1).log).entries)) (g10 0 8), I (((proposeN n kind data).1).commit), I (((proposeN n kind data).1).clock), I (((proposeN n kind data).1).limit), .w (sl 1 cI (((proposeN n kind data).1).votes)) (g10 0 12), .w (sl 4 Peer.c (((proposeN n kind data).1).peers)) (g10 0 13)]), (14, .w (sl 12 Message.c ((proposeN n kind data).2.1)) (g10 1 0)), (15, I ((proposeN n kind data).2.2.1)), (16, Bo ((proposeN n kind data).2.2.2)), (72, Bo v12)]) (fun v12 => v12 = ((((!(eqNode ((proposeN n kind data).1) ((proposeN n kind data).1))) || (!(eqS eqMessage ((proposeN n kind data).2.1) ((proposeN n kind data).2.1)))) || (((proposeN n kind data).2.2.1) != ((proposeN n kind data).2.2.1))) || (!(((proposeN n kind data).2.2.2) == ((proposeN n kind data).2.2.2))))) ?_ ?_
   ·refine CW.region ?_
    refine RW.k XK 167 2 rfl ?_
    (conv=>whnf);refine ⟨rfl,?_⟩
    refine RW.callOwn rfl (laws_eqNode_fn ((proposeN n kind data).1) ((proposeN n kind data).1)) rfl (.cons (.agg (.cons (.r .r) (.cons (.r .r) (.cons (.r .r) (.cons (.r .r) (.cons (.r .r) (.cons (.r (.alo (k := none) (i := 13) (j := 5) (sz := 1) (V := (g10 0 5)) rfl rfl rfl nofun)) (.cons (.r .r) (.cons (.r .r) (.cons (.r (.alo (k := none) (i := 13) (j := 8) (sz := 3) (V := (g10 0 8)) rfl rfl rfl nofun)) (.cons (.r .r) (.cons (.r .r) (.cons (.r .r) (.cons (.r (.alo (k := none) (i := 13) (j := 12) (sz := 1) (V := (g10 0 12)) rfl rfl rfl nofun)) (.cons (.r (.alo (k := none) (i := 13) (j := 13) (sz := 4) (V := (g10 0 13)) rfl rfl rfl nofun)) (.nil)))))))))))))))) (.cons (.agg (.cons (.r .r) (.cons (.r .r) (.cons (.r .r) (.cons (.r .r) (.cons (.r .r) (.cons (.r .r) (.cons (.r .r) (.cons (.r .r) (.cons (.r .r) (.cons (.r .r) (.cons (.r .r) (.cons (.r .r) (.cons (.r .r) (.cons (.r .r) (.nil)))))))))))))))) (.nil))) rfl fun g13 => ?_
    refine RW.k XK 167 2 rfl ?_
    (conv=>whnf);refine ⟨rfl,?_⟩
    refine RW.gv rfl rfl rfl rfl (fun h14 => V.mv (d := .al 14 none 12 (((proposeN n kind data).2.1).length) (g10 1 0) 0) rfl rfl) (fun h14 => ?_) (fun h14 => ?_)
    ·skip
     refine RW.k XK 167 1 rfl ?_
     (conv=>whnf);refine ⟨rfl,?_⟩
     refine RW.gcallOwn rfl rfl rfl rfl (laws_eqMessageS_fn ((proposeN n kind data).2.1) ((proposeN n kind data).2.1)) rfl (.cons (.one (.r (.al (k := none) (i := 14) (sz := 12) (V := (g10 1 0)) rfl rfl nofun))) (.cons (.one (.r (.al (k := none) (i := 9) (sz := 12) (V := (g6 1 0)) rfl rfl nofun))) (.nil))) rfl fun g15 => ?_
     refine RW.k XK 167 3 rfl ?_
     (conv=>whnf);refine ⟨rfl,?_⟩
     refine RW.gv rfl rfl rfl rfl (fun h16 => V.mv (d := I ((proposeN n kind data).2.2.1)) rfl rfl) (fun h16 => ?_) (fun h16 => ?_)
     ·skip
      refine RW.k XK 167 4 rfl ?_
      (conv=>whnf);refine ⟨rfl,?_⟩
      refine RW.gv rfl rfl rfl rfl (fun h17 => V.mv (d := Bo ((proposeN n kind data).2.2.2)) rfl rfl) (fun h17 => ?_) (fun h17 => ?_)
      ·skip
       refine RW.k XK 167 1 rfl ?_
       (conv=>whnf);refine ⟨rfl,?_⟩
       refine RW.gt rfl rfl rfl rfl (V.eqBool rfl rfl rfl (by kernel_rfl) (.inr ⟨rfl, rfl⟩)) ?_
       refine RW.k XK 167 1 rfl ?_
       (conv=>whnf);refine ⟨rfl,?_⟩
       refine RW.nil ?_
       exact ⟨_, by first | rfl | (simp_all; done) | (simp_all; omega) | grind, rfl, Le.of rfl⟩
      ·skip
       refine RW.k XK 167 3 rfl ?_
       (conv=>whnf);refine ⟨rfl,?_⟩
       refine RW.nil ?_
       exact ⟨_, by first | rfl | (simp_all; done) | (simp_all; omega) | grind, rfl, Le.of rfl⟩
     ·skip
      refine RW.k XK 167 8 rfl ?_
      (conv=>whnf);refine ⟨rfl,?_⟩
      refine RW.nil ?_
      exact ⟨_, by first | rfl | (simp_all; done) | (simp_all; omega) | grind, rfl, Le.of rfl⟩
    ·skip
     refine RW.k XK 167 14 rfl ?_
     (conv=>whnf);refine ⟨rfl,?_⟩
     refine RW.nil ?_
     exact ⟨_, by first | rfl | (simp_all; done) | (simp_all; omega) | grind, rfl, Le.of rfl⟩
   ·intro v12 hv18
    refine CW.cond rfl (fun h19 => ?_) (fun h19 => ?_)
    ·skip
     refine CW.k XK 167 1 [6] rfl ?_
     (conv=>whnf);refine ⟨rfl,?_⟩
     refine CW.ret ?_
     exact Post.one (RV.b rfl (by first | rfl | (exfalso; have p0 := mkVNode_facts hP; have p1 := mkNM_facts (okPropose hP kind hdk).1 (okPropose hP kind hdk).2; simp_all [eqNode_refl, eqS_refl eqMessage_refl]; done) | (exfalso; have p0 := mkVNode_facts hP; have p1 := mkNM_facts (okPropose hP kind hdk).1 (okPropose hP kind hdk).2; simp_all [eqNode_refl, eqS_refl eqMessage_refl]; omega))) (AOs.a rfl (AOs.r (AOs.r AOs.e)))
    ·skip
     refine CW.skip ?_
     refine CW.keep 167 [1,2,3,8,9,10,11,12,13,14,15,16] rfl ?_;(conv=>whnf);refine ⟨?_⟩
     refine CW.seq ?_
     refine CW.anyJ2 (fc := [(12, b9, [.int .i64 n.id, .int .i64 n.term_, .int .i64 n.vote, .int .i64 n.role, .int .i64 n.lead, (g8 0 5), .int .i64 n.log.start, .int .i64 n.log.startTerm, (g8 0 8), .int .i64 n.commit, .int .i64 n.clock, .int .i64 n.limit, (g8 0 12), (g8 0 13)]), (13, b11, [.int .i64 (((proposeN n kind data).1).id), .int .i64 (((proposeN n kind data).1).term_), .int .i64 (((proposeN n kind data).1).vote), .int .i64 (((proposeN n kind data).1).role), .int .i64 (((proposeN n kind data).1).lead), (g10 0 5), .int .i64 ((((proposeN n kind data).1).log).start), .int .i64 ((((proposeN n kind data).1).log).startTerm), (g10 0 8), .int .i64 (((proposeN n kind data).1).commit), .int .i64 (((proposeN n kind data).1).clock), .int .i64 (((proposeN n kind data).1).limit), (g10 0 12), (g10 0 13)])]) (L0 := [(1, I kind), (2, S data), (3, .rp (Node.c n)), (8, .rp (Node.c ((proposeN n kind data).1))), (9, .w (sl 12 Message.c ((proposeN n kind data).2.1)) (g6 1 0)), (10, I ((proposeN n kind data).2.2.1)), (11, Bo ((proposeN n kind data).2.2.2)), (12, .obj b9 [I n.id, I n.term_, I n.vote, I n.role, I n.lead, .w (sl 1 cI n.conf) (g8 0 5), I n.log.start, I n.log.startTerm, .w (sl 3 Entry.c n.log.entries) (g8 0 8), I n.commit, I n.clock, I n.limit, .w (sl 1 cI n.votes) (g8 0 12), .w (sl 4 Peer.c n.peers) (g8 0 13)]), (13, .obj b11 [I (((proposeN n kind data).1).id), I (((proposeN n kind data).1).term_), I (((proposeN n kind data).1).vote), I (((proposeN n kind data).1).role), I (((proposeN n kind data).1).lead), .w (sl 1 cI (((proposeN n kind data).1).conf)) (g10 0 5), I ((((proposeN n kind data).1).log).start), I ((((proposeN n kind data).1).log).startTerm), .w (sl 3 Entry.c ((((proposeN n kind data).1).log).entries)) (g10 0 8), I (((proposeN n kind data).1).commit), I (((proposeN n kind data).1).clock), I (((proposeN n kind data).1).limit), .w (sl 1 cI (((proposeN n kind data).1).votes)) (g10 0 12), .w (sl 4 Peer.c (((proposeN n kind data).1).peers)) (g10 0 13)]), (14, .w (sl 12 Message.c ((proposeN n kind data).2.1)) (g10 1 0)), (15, I ((proposeN n kind data).2.2.1)), (16, Bo ((proposeN n kind data).2.2.2))]) 167 (fun (zz : (Nat → Nat → Value) × (Nat → Nat → Value)) => match zz with | (go20_2_1, go20_3_1) => [(77, Bo (!(eqNode n n)))]) (fun all hall f hf b0 hb K hK => ?_) ?_
     ·skip
      have ro20_2 : ∀ B, ∀ (go20_2_1 : Nat → Nat → Value), ∀ (go20_3_1 : Nat → Nat → Value), RA f E B all 0 (bt 5 31) ⟨167, [(77, Bo (!(eqNode n n)))] ++ b0⟩ K := by
       intro B go20_2_1 go20_3_1
       exact RA.of2 hall hf hb (RA.finH (Tell.of rfl) (by kernel_rfl) (hK (go20_2_1, go20_3_1) _ rfl (Le.of rfl)))
      have ro20_1 : ∀ B, ∀ (go20_2_1 : Nat → Nat → Value), RA f E B all 2 (bt 5 7) ⟨167, [(73, .agg [I n.id, I n.term_, I n.vote, I n.role, I n.lead, .al 12 (some 5) 1 n.conf.length (g8 0 5) 0, I n.log.start, I n.log.startTerm, .al 12 (some 8) 3 n.log.entries.length (g8 0 8) 0, I n.commit, I n.clock, I n.limit, .al 12 (some 12) 1 n.votes.length (g8 0 12) 0, .al 12 (some 13) 4 n.peers.length (g8 0 13) 0]), (75, .agg [I n.id, I n.term_, I n.vote, I n.role, I n.lead, .w (sl 1 cI n.conf) (go20_2_1 0 5), I n.log.start, I n.log.startTerm, .w (sl 3 Entry.c n.log.entries) (go20_2_1 0 8), I n.commit, I n.clock, I n.limit, .w (sl 1 cI n.votes) (go20_2_1 0 12), .w (sl 4 Peer.c n.peers) (go20_2_1 0 13)])] ++ b0⟩ K := by
       intro B go20_2_1
       refine RA.of2 hall hf hb (RA.stepH (L := [3]) (Tell.of rfl) (by kernel_rfl) (by simp) (RA.each ?_ (RA.each0)))
       ·skip
        refine RO.callOwn rfl rfl (laws_eqNode_fn n n) rfl (.cons (.agg (.cons (.r .r) (.cons (.r .r) (.cons (.r .r) (.cons (.r .r) (.cons (.r .r) (.cons (.r (.alo (k := none) (i := 12) (j := 5) (sz := 1) (V := (g8 0 5)) rfl rfl rfl nofun)) (.cons (.r .r) (.cons (.r .r) (.cons (.r (.alo (k := none) (i := 12) (j := 8) (sz := 3) (V := (g8 0 8)) rfl rfl rfl nofun)) (.cons (.r .r) (.cons (.r .r) (.cons (.r .r) (.cons (.r (.alo (k := none) (i := 12) (j := 12) (sz := 1) (V := (g8 0 12)) rfl rfl rfl nofun)) (.cons (.r (.alo (k := none) (i := 12) (j := 13) (sz := 4) (V := (g8 0 13)) rfl rfl rfl nofun)) (.nil)))))))))))))))) (.cons (.agg (.cons (.r .r) (.cons (.r .r) (.cons (.r .r) (.cons (.r .r) (.cons (.r .r) (.cons (.r (.ala (k := none) (i := 75) (j := 5) (sz := 1) (V := (go20_2_1 0 5)) rfl rfl rfl nofun)) (.cons (.r .r) (.cons (.r .r) (.cons (.r (.ala (k := none) (i := 75) (j := 8) (sz := 3) (V := (go20_2_1 0 8)) rfl rfl rfl nofun)) (.cons (.r .r) (.cons (.r .r) (.cons (.r .r) (.cons (.r (.ala (k := none) (i := 75) (j := 12) (sz := 1) (V := (go20_2_1 0 12)) rfl rfl rfl nofun)) (.cons (.r (.ala (k := none) (i := 75) (j := 13) (sz := 4) (V := (go20_2_1 0 13)) rfl rfl rfl nofun)) (.nil)))))))))))))))) (.nil))) rfl rfl fun go20_3_1 => ?_
        refine RA.fr XK 167 0 [4] (bt 5 31) rfl rfl (by kernel_rfl) (Tell.of rfl) ?_
        (conv=>whnf);refine ⟨rfl,fun B=>?_⟩
        exact RA.to2 hall hf hb (ro20_2 B go20_2_1 go20_3_1) rfl rfl (by kernel_rfl)
      have ro20_0 : ∀ B, RA f E B all 3 (bt 5 3) ⟨167, [(73, .agg [I n.id, I n.term_, I n.vote, I n.role, I n.lead, .al 12 (some 5) 1 n.conf.length (g8 0 5) 0, I n.log.start, I n.log.startTerm, .al 12 (some 8) 3 n.log.entries.length (g8 0 8) 0, I n.commit, I n.clock, I n.limit, .al 12 (some 12) 1 n.votes.length (g8 0 12) 0, .al 12 (some 13) 4 n.peers.length (g8 0 13) 0]), (74, .agg ((Node.c n).map .r))] ++ b0⟩ K := by
       intro B
       refine RA.of2 hall hf hb (RA.stepH (L := [2]) (Tell.of rfl) (by kernel_rfl) (by simp) (RA.each ?_ (RA.each0)))
       ·skip
        refine RO.call rfl rfl (laws_toNode_fn n hP) rfl (.cons (.agg (.cons (.r .r) (.cons (.r .r) (.cons (.r .r) (.cons (.r .r) (.cons (.r .r) (.cons (.r .r) (.cons (.r .r) (.cons (.r .r) (.cons (.r .r) (.cons (.r .r) (.cons (.r .r) (.cons (.r .r) (.cons (.r .r) (.cons (.r .r) (.nil)))))))))))))))) (.nil)) rfl fun go20_2_1 => ?_
        exact RA.to2 hall hf hb (ro20_1 B go20_2_1) rfl rfl (by kernel_rfl)
      refine RA.start (by kernel_rfl) (by kernel_rfl) (m := 5) (ls' := (bt 5 0)) ?_
      refine RA.fr XK 167 3 [0,1] (bt 5 3) rfl rfl (by kernel_rfl) (Tell.of rfl) ?_
      (conv=>whnf);refine ⟨rfl,fun B=>?_⟩
      exact RA.to2 hall hf hb (ro20_0 B) rfl rfl (by kernel_rfl)
     ·rintro ⟨go20_2_1, go20_3_1⟩
      refine CW.cond rfl (fun h21 => ?_) (fun h21 => ?_)
      ·skip
       refine CW.k XK 167 1 [6] rfl ?_
       (conv=>whnf);refine ⟨rfl,?_⟩
       refine CW.ret ?_
       exact Post.one (RV.b rfl (by first | rfl | (exfalso; have p0 := mkVNode_facts hP; have p1 := mkNM_facts (okPropose hP kind hdk).1 (okPropose hP kind hdk).2; simp_all [eqNode_refl, eqS_refl eqMessage_refl]; done) | (exfalso; have p0 := mkVNode_facts hP; have p1 := mkNM_facts (okPropose hP kind hdk).1 (okPropose hP kind hdk).2; simp_all [eqNode_refl, eqS_refl eqMessage_refl]; omega))) (AOs.a rfl (AOs.r (AOs.r AOs.e)))
      ·skip
       refine CW.skip ?_
       refine CW.keep 167 [1,2,3,8,9,10,11,12,13,14,15,16] rfl ?_;(conv=>whnf);refine ⟨?_⟩
       refine CW.k XK 167 1 [1,2,3,8,9,10,11,12,13,14,15,16,17] rfl ?_
       (conv=>whnf);refine ⟨rfl,?_⟩
       refine CW.seq ?_
       refine CW.region ?_
       refine RW.k XK 167 2 rfl ?_
       (conv=>whnf);refine ⟨rfl,?_⟩
       refine RW.callW (k := 12) (laws_markNode_fn n 1 (by decide)) rfl rfl (Nat.le_of_ble_eq_true rfl) (by decide) (.here (AsW.aggO (Hand.v (Hand.v (Hand.v (Hand.v (Hand.v (Hand.w (Hand.v (Hand.v (Hand.w (Hand.v (Hand.v (Hand.v (Hand.w (Hand.w Hand.e))))))))))))))) (.cons (.one (.r .r)) (.nil))) rfl fun g22 q23 => ?_
       refine RW.k XK 167 1 rfl ?_
       (conv=>whnf);refine ⟨rfl,?_⟩
       refine RW.nil ?_
       refine CW.keep 167 [1,2,3,8,9,10,11,13,14,15,16,17] rfl ?_;(conv=>whnf);refine ⟨?_⟩
       refine CW.seq ?_
       refine CW.seqJ 167 (fun (v24 : Bool) => [(1, I kind), (2, S data), (3, .rp (Node.c n)), (8, .rp (Node.c ((proposeN n kind data).1))), (9, .w (sl 12 Message.c ((proposeN n kind data).2.1)) (g6 1 0)), (10, I ((proposeN n kind data).2.2.1)), (11, Bo ((proposeN n kind data).2.2.2)), (13, .obj b11 [I (((proposeN n kind data).1).id), I (((proposeN n kind data).1).term_), I (((proposeN n kind data).1).vote), I (((proposeN n kind data).1).role), I (((proposeN n kind data).1).lead), .w (sl 1 cI (((proposeN n kind data).1).conf)) (g10 0 5), I ((((proposeN n kind data).1).log).start), I ((((proposeN n kind data).1).log).startTerm), .w (sl 3 Entry.c ((((proposeN n kind data).1).log).entries)) (g10 0 8), I (((proposeN n kind data).1).commit), I (((proposeN n kind data).1).clock), I (((proposeN n kind data).1).limit), .w (sl 1 cI (((proposeN n kind data).1).votes)) (g10 0 12), .w (sl 4 Peer.c (((proposeN n kind data).1).peers)) (g10 0 13)]), (14, .w (sl 12 Message.c ((proposeN n kind data).2.1)) (g10 1 0)), (104, Bo v24)]) (fun v24 => v24 = ((((decide (((mkVNode n 1).2) < 0) || (!(eqNode ((proposeN n kind data).1) ((proposeN n kind data).1)))) || (!(eqS eqMessage ((proposeN n kind data).2.1) ((proposeN n kind data).2.1)))) || (((proposeN n kind data).2.2.1) != ((proposeN n kind data).2.2.1))) || (!(((proposeN n kind data).2.2.2) == ((proposeN n kind data).2.2.2))))) ?_ ?_
       ·refine CW.region ?_
        refine RW.k XK 167 3 rfl ?_
        (conv=>whnf);refine ⟨rfl,?_⟩
        refine RW.gv rfl rfl rfl rfl (fun h25 => V.loadAgg rfl rfl rfl rfl rfl (Nat.le_of_ble_eq_true rfl)) (fun h25 => ?_) (fun h25 => ?_)
        ·skip
         refine RW.k XK 167 1 rfl ?_
         (conv=>whnf);refine ⟨rfl,?_⟩
         refine RW.gcallOwn rfl rfl rfl rfl (laws_eqNode_fn ((proposeN n kind data).1) ((proposeN n kind data).1)) rfl (.cons (.agg (.cons (.r .r) (.cons (.r .r) (.cons (.r .r) (.cons (.r .r) (.cons (.r .r) (.cons (.r (.alo (k := none) (i := 13) (j := 5) (sz := 1) (V := (g10 0 5)) rfl rfl rfl nofun)) (.cons (.r .r) (.cons (.r .r) (.cons (.r (.alo (k := none) (i := 13) (j := 8) (sz := 3) (V := (g10 0 8)) rfl rfl rfl nofun)) (.cons (.r .r) (.cons (.r .r) (.cons (.r .r) (.cons (.r (.alo (k := none) (i := 13) (j := 12) (sz := 1) (V := (g10 0 12)) rfl rfl rfl nofun)) (.cons (.r (.alo (k := none) (i := 13) (j := 13) (sz := 4) (V := (g10 0 13)) rfl rfl rfl nofun)) (.nil)))))))))))))))) (.cons (.agg (.cons (.r .r) (.cons (.r .r) (.cons (.r .r) (.cons (.r .r) (.cons (.r .r) (.cons (.r .r) (.cons (.r .r) (.cons (.r .r) (.cons (.r .r) (.cons (.r .r) (.cons (.r .r) (.cons (.r .r) (.cons (.r .r) (.cons (.r .r) (.nil)))))))))))))))) (.nil))) rfl fun g26 => ?_
         refine RW.k XK 167 3 rfl ?_
         (conv=>whnf);refine ⟨rfl,?_⟩
         refine RW.gv rfl rfl rfl rfl (fun h27 => V.mv (d := .al 14 none 12 (((proposeN n kind data).2.1).length) (g10 1 0) 0) rfl rfl) (fun h27 => ?_) (fun h27 => ?_)
         ·skip
          refine RW.k XK 167 1 rfl ?_
          (conv=>whnf);refine ⟨rfl,?_⟩
          refine RW.gcallOwn rfl rfl rfl rfl (laws_eqMessageS_fn ((proposeN n kind data).2.1) ((proposeN n kind data).2.1)) rfl (.cons (.one (.r (.al (k := none) (i := 14) (sz := 12) (V := (g10 1 0)) rfl rfl nofun))) (.cons (.one (.r (.al (k := none) (i := 9) (sz := 12) (V := (g6 1 0)) rfl rfl nofun))) (.nil))) rfl fun g28 => ?_
          refine RW.k XK 167 3 rfl ?_
          (conv=>whnf);refine ⟨rfl,?_⟩
          refine RW.gv rfl rfl rfl rfl (fun h29 => V.mv (d := I ((proposeN n kind data).2.2.1)) rfl rfl) (fun h29 => ?_) (fun h29 => ?_)
          ·skip
           refine RW.k XK 167 4 rfl ?_
           (conv=>whnf);refine ⟨rfl,?_⟩
           refine RW.gv rfl rfl rfl rfl (fun h30 => V.mv (d := Bo ((proposeN n kind data).2.2.2)) rfl rfl) (fun h30 => ?_) (fun h30 => ?_)
           ·skip
            refine RW.k XK 167 1 rfl ?_
            (conv=>whnf);refine ⟨rfl,?_⟩
            refine RW.gt rfl rfl rfl rfl (V.eqBool rfl rfl rfl (by kernel_rfl) (.inr ⟨rfl, rfl⟩)) ?_
            refine RW.k XK 167 1 rfl ?_
            (conv=>whnf);refine ⟨rfl,?_⟩
            refine RW.nil ?_
            exact ⟨_, by first | rfl | (simp_all; done) | (simp_all; omega) | grind, rfl, Le.of rfl⟩
           ·skip
            refine RW.k XK 167 3 rfl ?_
            (conv=>whnf);refine ⟨rfl,?_⟩
            refine RW.nil ?_
            exact ⟨_, by first | rfl | (simp_all; done) | (simp_all; omega) | grind, rfl, Le.of rfl⟩
          ·skip
           refine RW.k XK 167 8 rfl ?_
           (conv=>whnf);refine ⟨rfl,?_⟩
           refine RW.nil ?_
           exact ⟨_, by first | rfl | (simp_all; done) | (simp_all; omega) | grind, rfl, Le.of rfl⟩
         ·skip
          refine RW.k XK 167 14 rfl ?_
          (conv=>whnf);refine ⟨rfl,?_⟩
          refine RW.nil ?_
          exact ⟨_, by first | rfl | (simp_all; done) | (simp_all; omega) | grind, rfl, Le.of rfl⟩
        ·skip
         refine RW.k XK 167 20 rfl ?_
         (conv=>whnf);refine ⟨rfl,?_⟩
         refine RW.nil ?_
         exact ⟨_, by first | rfl | (simp_all; done) | (simp_all; omega) | grind, rfl, Le.of rfl⟩
       ·intro v24 hv31
        refine CW.cond rfl (fun h32 => ?_) (fun h32 => ?_)
        ·skip
         refine CW.k XK 167 1 [6] rfl ?_
         (conv=>whnf);refine ⟨rfl,?_⟩
         refine CW.ret ?_
         exact Post.one (RV.b rfl (by first | rfl | (exfalso; have p0 := mkVNode_facts hP; have p1 := mkNM_facts (okPropose hP kind hdk).1 (okPropose hP kind hdk).2; simp_all [eqNode_refl, eqS_refl eqMessage_refl]; done) | (exfalso; have p0 := mkVNode_facts hP; have p1 := mkNM_facts (okPropose hP kind hdk).1 (okPropose hP kind hdk).2; simp_all [eqNode_refl, eqS_refl eqMessage_refl]; omega))) (AOs.a rfl (AOs.r (AOs.r AOs.e)))
        ·skip
         refine CW.skip ?_
         refine CW.keep 167 [1,2,3,8,9,10,11,13,14] rfl ?_;(conv=>whnf);refine ⟨?_⟩
         refine CW.k XK 167 1 [1,2,3,8,9,10,11,13,14,18] rfl ?_
         (conv=>whnf);refine ⟨rfl,?_⟩
         refine CW.seq ?_
         refine CW.region ?_
         refine RW.k XK 167 2 rfl ?_
         (conv=>whnf);refine ⟨rfl,?_⟩
         refine RW.callW (k := 13) (laws_markNode_fn ((proposeN n kind data).1) 1 (by decide)) rfl rfl (Nat.le_of_ble_eq_true rfl) (by decide) (.here (AsW.aggO (Hand.v (Hand.v (Hand.v (Hand.v (Hand.v (Hand.w (Hand.v (Hand.v (Hand.w (Hand.v (Hand.v (Hand.v (Hand.w (Hand.w Hand.e))))))))))))))) (.cons (.one (.r .r)) (.nil))) rfl fun g33 q34 => ?_
         refine RW.k XK 167 1 rfl ?_
         (conv=>whnf);refine ⟨rfl,?_⟩
         refine RW.nil ?_
         refine CW.keep 167 [1,2,3,8,9,10,11,13,14,18] rfl ?_;(conv=>whnf);refine ⟨?_⟩
         refine CW.seq ?_
         refine CW.region ?_
         refine RW.k XK 167 2 rfl ?_
         (conv=>whnf);refine ⟨rfl,?_⟩
         refine RW.callW (k := 14) (laws_markMessageS_fn ((proposeN n kind data).2.1) ((mkVNode ((proposeN n kind data).1) 1).2) (mkVNode_le _ _ (by decide))) rfl rfl (Nat.le_of_ble_eq_true rfl) (by decide) (.here (AsW.own) (.cons (.one (.r .r)) (.nil))) rfl fun g35 q36 => ?_
         refine RW.k XK 167 1 rfl ?_
         (conv=>whnf);refine ⟨rfl,?_⟩
         refine RW.nil ?_
         refine CW.keep 167 [1,2,3,8,9,10,11,13,14,18] rfl ?_;(conv=>whnf);refine ⟨?_⟩
         refine CW.k XK 167 1 [1,2,3,8,9,10,11,13,14,18,19] rfl ?_
         (conv=>whnf);refine ⟨rfl,?_⟩
         refine CW.seq ?_
         refine CW.region ?_
         refine RW.k XK 167 2 rfl ?_
         (conv=>whnf);refine ⟨rfl,?_⟩
         refine RW.callOwn rfl (laws_heldNode_fn ((mkVNode ((proposeN n kind data).1) 1).1) 1 (by decide)) rfl (.cons (.agg (.cons (.r .r) (.cons (.r .r) (.cons (.r .r) (.cons (.r .r) (.cons (.r .r) (.cons (.r (.alo (k := none) (i := 13) (j := 5) (sz := 1) (V := (g10 0 5)) rfl rfl rfl nofun)) (.cons (.r .r) (.cons (.r .r) (.cons (.r (.alo (k := none) (i := 13) (j := 8) (sz := 3) (V := (g10 0 8)) rfl rfl rfl nofun)) (.cons (.r .r) (.cons (.r .r) (.cons (.r .r) (.cons (.r (.alo (k := none) (i := 13) (j := 12) (sz := 1) (V := (g10 0 12)) rfl rfl rfl nofun)) (.cons (.r (.alo (k := none) (i := 13) (j := 13) (sz := 4) (V := (g10 0 13)) rfl rfl rfl nofun)) (.nil)))))))))))))))) (.cons (.one (.r .r)) (.nil))) rfl fun g37 => ?_
         refine RW.k XK 167 1 rfl ?_
         (conv=>whnf);refine ⟨rfl,?_⟩
         refine RW.nil ?_
         refine CW.keep 167 [1,2,3,8,9,10,11,13,14,18,19] rfl ?_;(conv=>whnf);refine ⟨?_⟩
         refine CW.seq ?_
         refine CW.k XK 167 1 [1,2,3,8,9,10,11,13,14,18,19,115] rfl ?_
         (conv=>whnf);refine ⟨rfl,?_⟩
         refine CW.cond rfl (fun h38 => ?_) (fun h38 => ?_)
         ·skip
          refine CW.k XK 167 1 [6] rfl ?_
          (conv=>whnf);refine ⟨rfl,?_⟩
          refine CW.ret ?_
          exact Post.one (RV.b rfl (by first | rfl | (exfalso; have p0 := mkVNode_facts hP; have p1 := mkNM_facts (okPropose hP kind hdk).1 (okPropose hP kind hdk).2; simp_all [eqNode_refl, eqS_refl eqMessage_refl]; done) | (exfalso; have p0 := mkVNode_facts hP; have p1 := mkNM_facts (okPropose hP kind hdk).1 (okPropose hP kind hdk).2; simp_all [eqNode_refl, eqS_refl eqMessage_refl]; omega))) (AOs.a rfl (AOs.r (AOs.r AOs.e)))
         ·skip
          refine CW.skip ?_
          refine CW.keep 167 [1,2,3,8,9,10,11,13,14,18,19] rfl ?_;(conv=>whnf);refine ⟨?_⟩
          refine CW.seq ?_
          refine CW.region ?_
          refine RW.k XK 167 2 rfl ?_
          (conv=>whnf);refine ⟨rfl,?_⟩
          refine RW.callOwn rfl (laws_heldMessageS_fn ((mkL mkEMessage ((proposeN n kind data).2.1) ((mkVNode ((proposeN n kind data).1) 1).2)).1) ((hdVNode ((mkVNode ((proposeN n kind data).1) 1).1) 1).getD (-1)) (leD hdVNode_le (by decide))) rfl (.cons (.one (.r (.al (k := none) (i := 14) (sz := 12) (V := (g10 1 0)) rfl rfl nofun))) (.cons (.one (.r .r)) (.nil))) rfl fun g39 => ?_
          refine RW.k XK 167 1 rfl ?_
          (conv=>whnf);refine ⟨rfl,?_⟩
          refine RW.nil ?_
          refine CW.keep 167 [1,2,3,8,9,10,11,13,14,18,19] rfl ?_;(conv=>whnf);refine ⟨?_⟩
          refine CW.seq ?_
          refine CW.k XK 167 1 [1,2,3,8,9,10,11,13,14,18,19,120] rfl ?_
          (conv=>whnf);refine ⟨rfl,?_⟩
          refine CW.cond rfl (fun h40 => ?_) (fun h40 => ?_)
          ·skip
           refine CW.k XK 167 1 [6] rfl ?_
           (conv=>whnf);refine ⟨rfl,?_⟩
           refine CW.ret ?_
           exact Post.one (RV.b rfl (by first | rfl | (exfalso; have p0 := mkVNode_facts hP; have p1 := mkNM_facts (okPropose hP kind hdk).1 (okPropose hP kind hdk).2; simp_all [eqNode_refl, eqS_refl eqMessage_refl]; done) | (exfalso; have p0 := mkVNode_facts hP; have p1 := mkNM_facts (okPropose hP kind hdk).1 (okPropose hP kind hdk).2; simp_all [eqNode_refl, eqS_refl eqMessage_refl]; omega))) (AOs.a rfl (AOs.r (AOs.r AOs.e)))
          ·skip
           refine CW.skip ?_
           refine CW.keep 167 [1,2,3,8,9,10,11,13,14,18,19] rfl ?_;(conv=>whnf);refine ⟨?_⟩
           refine CW.seq ?_
           refine CW.k XK 167 1 [1,2,3,8,9,10,11,13,14,18,123] rfl ?_
           (conv=>whnf);refine ⟨rfl,?_⟩
           refine CW.cond rfl (fun h41 => ?_) (fun h41 => ?_)
           ·skip
            refine CW.k XK 167 1 [6] rfl ?_
            (conv=>whnf);refine ⟨rfl,?_⟩
            refine CW.ret ?_
            exact Post.one (RV.b rfl (by first | rfl | (exfalso; have p0 := mkVNode_facts hP; have p1 := mkNM_facts (okPropose hP kind hdk).1 (okPropose hP kind hdk).2; simp_all [eqNode_refl, eqS_refl eqMessage_refl]; done) | (exfalso; have p0 := mkVNode_facts hP; have p1 := mkNM_facts (okPropose hP kind hdk).1 (okPropose hP kind hdk).2; simp_all [eqNode_refl, eqS_refl eqMessage_refl]; omega))) (AOs.a rfl (AOs.r (AOs.r AOs.e)))
           ·skip
            refine CW.skip ?_
            refine CW.keep 167 [1,2,3,8,9,10,11,13,14,18] rfl ?_;(conv=>whnf);refine ⟨?_⟩
            refine CW.seq ?_
            refine CW.region ?_
            refine RW.k XK 167 1 rfl ?_
            (conv=>whnf);refine ⟨rfl,?_⟩
            refine RW.call rfl (laws_toNode_fn n hP) rfl (.cons (.agg (.cons (.r .r) (.cons (.r .r) (.cons (.r .r) (.cons (.r .r) (.cons (.r .r) (.cons (.r .r) (.cons (.r .r) (.cons (.r .r) (.cons (.r .r) (.cons (.r .r) (.cons (.r .r) (.cons (.r .r) (.cons (.r .r) (.cons (.r .r) (.nil)))))))))))))))) (.nil)) fun g42 => ?_
            refine RW.k XK 167 2 rfl ?_
            (conv=>whnf);refine ⟨rfl,?_⟩
            refine RW.callOwn rfl (impl_Propose_fn n kind data hP hdk) rfl (.cons (.agg (.cons (.r .r) (.cons (.r .r) (.cons (.r .r) (.cons (.r .r) (.cons (.r .r) (.cons (.r (.ala (k := none) (i := 126) (j := 5) (sz := 1) (V := (g42 0 5)) rfl rfl rfl nofun)) (.cons (.r .r) (.cons (.r .r) (.cons (.r (.ala (k := none) (i := 126) (j := 8) (sz := 3) (V := (g42 0 8)) rfl rfl rfl nofun)) (.cons (.r .r) (.cons (.r .r) (.cons (.r .r) (.cons (.r (.ala (k := none) (i := 126) (j := 12) (sz := 1) (V := (g42 0 12)) rfl rfl rfl nofun)) (.cons (.r (.ala (k := none) (i := 126) (j := 13) (sz := 4) (V := (g42 0 13)) rfl rfl rfl nofun)) (.nil)))))))))))))))) (.cons (.one (.r .r)) (.cons (.one (.r .r)) (.nil)))) rfl fun g43 => ?_
            refine RW.k XK 167 7 rfl ?_
            (conv=>whnf);intro b44;(conv=>whnf);refine ⟨rfl,?_⟩
            refine RW.keep 167 [8,9,10,11,13,14,18,20,130,131,132,133] rfl ?_;(conv=>whnf);refine ⟨?_⟩
            refine RW.pullA (k := 20) (l := 130) (j := 5) 20 130 5 rfl rfl rfl (by decide) rfl rfl rfl rfl ?_
            refine RW.keep 167 [8,9,10,11,13,14,18,20,130,131,132,133] rfl ?_;(conv=>whnf);refine ⟨?_⟩
            refine RW.pullA (k := 20) (l := 130) (j := 8) 20 130 8 rfl rfl rfl (by decide) rfl rfl rfl rfl ?_
            refine RW.keep 167 [8,9,10,11,13,14,18,20,130,131,132,133] rfl ?_;(conv=>whnf);refine ⟨?_⟩
            refine RW.pullA (k := 20) (l := 130) (j := 12) 20 130 12 rfl rfl rfl (by decide) rfl rfl rfl rfl ?_
            refine RW.keep 167 [8,9,10,11,13,14,18,20,130,131,132,133] rfl ?_;(conv=>whnf);refine ⟨?_⟩
            refine RW.pullA (k := 20) (l := 130) (j := 13) 20 130 13 rfl rfl rfl (by decide) rfl rfl rfl rfl ?_
            refine RW.keep 167 [8,9,10,11,13,14,18,20,131,132,133] rfl ?_;(conv=>whnf);refine ⟨?_⟩
            refine RW.assignMove rfl rfl rfl (by decide) (Nat.le_of_ble_eq_true rfl) (Nat.le_of_ble_eq_true rfl) ?_
            refine RW.k XK 167 2 rfl ?_
            (conv=>whnf);refine ⟨rfl,?_⟩
            refine RW.nil ?_
            refine CW.keep 167 [8,9,10,11,13,14,18,20,21,22,23] rfl ?_;(conv=>whnf);refine ⟨?_⟩
            refine CW.seq ?_
            refine CW.seqJ 167 (fun (v45 : Bool) => [(13, .obj b11 [I (((mkVNode ((proposeN n kind data).1) 1).1).id), I (((mkVNode ((proposeN n kind data).1) 1).1).term_), I (((mkVNode ((proposeN n kind data).1) 1).1).vote), I (((mkVNode ((proposeN n kind data).1) 1).1).role), I (((mkVNode ((proposeN n kind data).1) 1).1).lead), .w (sl 1 cI (((mkVNode ((proposeN n kind data).1) 1).1).conf)) (g10 0 5), I ((((mkVNode ((proposeN n kind data).1) 1).1).log).start), I ((((mkVNode ((proposeN n kind data).1) 1).1).log).startTerm), .w (sl 3 Entry.c ((((mkVNode ((proposeN n kind data).1) 1).1).log).entries)) (g10 0 8), I (((mkVNode ((proposeN n kind data).1) 1).1).commit), I (((mkVNode ((proposeN n kind data).1) 1).1).clock), I (((mkVNode ((proposeN n kind data).1) 1).1).limit), .w (sl 1 cI (((mkVNode ((proposeN n kind data).1) 1).1).votes)) (g10 0 12), .w (sl 4 Peer.c (((mkVNode ((proposeN n kind data).1) 1).1).peers)) (g10 0 13)]), (14, .w (sl 12 Message.c ((mkL mkEMessage ((proposeN n kind data).2.1) ((mkVNode ((proposeN n kind data).1) 1).2)).1)) (g10 1 0)), (18, I ((mkL mkEMessage ((proposeN n kind data).2.1) ((mkVNode ((proposeN n kind data).1) 1).2)).2)), (153, Bo v45)]) (fun v45 => v45 = ((((!(eqNode ((proposeN n kind data).1) ((proposeN n kind data).1))) || (!(eqS eqMessage ((proposeN n kind data).2.1) ((proposeN n kind data).2.1)))) || (((proposeN n kind data).2.2.1) != ((proposeN n kind data).2.2.1))) || (!(((proposeN n kind data).2.2.2) == ((proposeN n kind data).2.2.2))))) ?_ ?_
            ·refine CW.region ?_
             refine RW.k XK 167 2 rfl ?_
             (conv=>whnf);refine ⟨rfl,?_⟩
             refine RW.callOwn rfl (laws_eqNode_fn ((proposeN n kind data).1) ((proposeN n kind data).1)) rfl (.cons (.agg (.cons (.r .r) (.cons (.r .r) (.cons (.r .r) (.cons (.r .r) (.cons (.r .r) (.cons (.r (.alo (k := none) (i := 20) (j := 5) (sz := 1) (V := (g43 0 5)) rfl rfl rfl nofun)) (.cons (.r .r) (.cons (.r .r) (.cons (.r (.alo (k := none) (i := 20) (j := 8) (sz := 3) (V := (g43 0 8)) rfl rfl rfl nofun)) (.cons (.r .r) (.cons (.r .r) (.cons (.r .r) (.cons (.r (.alo (k := none) (i := 20) (j := 12) (sz := 1) (V := (g43 0 12)) rfl rfl rfl nofun)) (.cons (.r (.alo (k := none) (i := 20) (j := 13) (sz := 4) (V := (g43 0 13)) rfl rfl rfl nofun)) (.nil)))))))))))))))) (.cons (.agg (.cons (.r .r) (.cons (.r .r) (.cons (.r .r) (.cons (.r .r) (.cons (.r .r) (.cons (.r .r) (.cons (.r .r) (.cons (.r .r) (.cons (.r .r) (.cons (.r .r) (.cons (.r .r) (.cons (.r .r) (.cons (.r .r) (.cons (.r .r) (.nil)))))))))))))))) (.nil))) rfl fun g46 => ?_
             refine RW.k XK 167 2 rfl ?_
             (conv=>whnf);refine ⟨rfl,?_⟩
             refine RW.gv rfl rfl rfl rfl (fun h47 => V.mv (d := .al 21 none 12 (((proposeN n kind data).2.1).length) (g43 1 0) 0) rfl rfl) (fun h47 => ?_) (fun h47 => ?_)
             ·skip
              refine RW.k XK 167 1 rfl ?_
              (conv=>whnf);refine ⟨rfl,?_⟩
              refine RW.gcallOwn rfl rfl rfl rfl (laws_eqMessageS_fn ((proposeN n kind data).2.1) ((proposeN n kind data).2.1)) rfl (.cons (.one (.r (.al (k := none) (i := 21) (sz := 12) (V := (g43 1 0)) rfl rfl nofun))) (.cons (.one (.r (.al (k := none) (i := 9) (sz := 12) (V := (g6 1 0)) rfl rfl nofun))) (.nil))) rfl fun g48 => ?_
              refine RW.k XK 167 3 rfl ?_
              (conv=>whnf);refine ⟨rfl,?_⟩
              refine RW.gv rfl rfl rfl rfl (fun h49 => V.mv (d := I ((proposeN n kind data).2.2.1)) rfl rfl) (fun h49 => ?_) (fun h49 => ?_)
              ·skip
               refine RW.k XK 167 4 rfl ?_
               (conv=>whnf);refine ⟨rfl,?_⟩
               refine RW.gv rfl rfl rfl rfl (fun h50 => V.mv (d := Bo ((proposeN n kind data).2.2.2)) rfl rfl) (fun h50 => ?_) (fun h50 => ?_)
               ·skip
                refine RW.k XK 167 1 rfl ?_
                (conv=>whnf);refine ⟨rfl,?_⟩
                refine RW.gt rfl rfl rfl rfl (V.eqBool rfl rfl rfl (by kernel_rfl) (.inr ⟨rfl, rfl⟩)) ?_
                refine RW.k XK 167 1 rfl ?_
                (conv=>whnf);refine ⟨rfl,?_⟩
                refine RW.nil ?_
                exact ⟨_, by first | rfl | (simp_all; done) | (simp_all; omega) | grind, rfl, Le.of rfl⟩
               ·skip
                refine RW.k XK 167 3 rfl ?_
                (conv=>whnf);refine ⟨rfl,?_⟩
                refine RW.nil ?_
                exact ⟨_, by first | rfl | (simp_all; done) | (simp_all; omega) | grind, rfl, Le.of rfl⟩
              ·skip
               refine RW.k XK 167 8 rfl ?_
               (conv=>whnf);refine ⟨rfl,?_⟩
               refine RW.nil ?_
               exact ⟨_, by first | rfl | (simp_all; done) | (simp_all; omega) | grind, rfl, Le.of rfl⟩
             ·skip
              refine RW.k XK 167 14 rfl ?_
              (conv=>whnf);refine ⟨rfl,?_⟩
              refine RW.nil ?_
              exact ⟨_, by first | rfl | (simp_all; done) | (simp_all; omega) | grind, rfl, Le.of rfl⟩
            ·intro v45 hv51
             refine CW.cond rfl (fun h52 => ?_) (fun h52 => ?_)
             ·skip
              refine CW.k XK 167 1 [6] rfl ?_
              (conv=>whnf);refine ⟨rfl,?_⟩
              refine CW.ret ?_
              exact Post.one (RV.b rfl (by first | rfl | (exfalso; have p0 := mkVNode_facts hP; have p1 := mkNM_facts (okPropose hP kind hdk).1 (okPropose hP kind hdk).2; simp_all [eqNode_refl, eqS_refl eqMessage_refl]; done) | (exfalso; have p0 := mkVNode_facts hP; have p1 := mkNM_facts (okPropose hP kind hdk).1 (okPropose hP kind hdk).2; simp_all [eqNode_refl, eqS_refl eqMessage_refl]; omega))) (AOs.a rfl (AOs.r (AOs.r AOs.e)))
             ·skip
              refine CW.skip ?_
              refine CW.keep 167 [13,14,18] rfl ?_;(conv=>whnf);refine ⟨?_⟩
              refine CW.k XK 167 1 [13,14,18,19] rfl ?_
              (conv=>whnf);refine ⟨rfl,?_⟩
              refine CW.seq ?_
              refine CW.region ?_
              refine RW.k XK 167 2 rfl ?_
              (conv=>whnf);refine ⟨rfl,?_⟩
              refine RW.callOwn rfl (laws_heldNode_fn ((mkVNode ((proposeN n kind data).1) 1).1) 1 (by decide)) rfl (.cons (.agg (.cons (.r .r) (.cons (.r .r) (.cons (.r .r) (.cons (.r .r) (.cons (.r .r) (.cons (.r (.alo (k := none) (i := 13) (j := 5) (sz := 1) (V := (g10 0 5)) rfl rfl rfl nofun)) (.cons (.r .r) (.cons (.r .r) (.cons (.r (.alo (k := none) (i := 13) (j := 8) (sz := 3) (V := (g10 0 8)) rfl rfl rfl nofun)) (.cons (.r .r) (.cons (.r .r) (.cons (.r .r) (.cons (.r (.alo (k := none) (i := 13) (j := 12) (sz := 1) (V := (g10 0 12)) rfl rfl rfl nofun)) (.cons (.r (.alo (k := none) (i := 13) (j := 13) (sz := 4) (V := (g10 0 13)) rfl rfl rfl nofun)) (.nil)))))))))))))))) (.cons (.one (.r .r)) (.nil))) rfl fun g53 => ?_
              refine RW.k XK 167 1 rfl ?_
              (conv=>whnf);refine ⟨rfl,?_⟩
              refine RW.nil ?_
              refine CW.keep 167 [14,18,19] rfl ?_;(conv=>whnf);refine ⟨?_⟩
              refine CW.seq ?_
              refine CW.k XK 167 1 [14,18,19,158] rfl ?_
              (conv=>whnf);refine ⟨rfl,?_⟩
              refine CW.cond rfl (fun h54 => ?_) (fun h54 => ?_)
              ·skip
               refine CW.k XK 167 1 [6] rfl ?_
               (conv=>whnf);refine ⟨rfl,?_⟩
               refine CW.ret ?_
               exact Post.one (RV.b rfl (by first | rfl | (exfalso; have p0 := mkVNode_facts hP; have p1 := mkNM_facts (okPropose hP kind hdk).1 (okPropose hP kind hdk).2; simp_all [eqNode_refl, eqS_refl eqMessage_refl]; done) | (exfalso; have p0 := mkVNode_facts hP; have p1 := mkNM_facts (okPropose hP kind hdk).1 (okPropose hP kind hdk).2; simp_all [eqNode_refl, eqS_refl eqMessage_refl]; omega))) (AOs.a rfl (AOs.r (AOs.r AOs.e)))
              ·skip
               refine CW.skip ?_
               refine CW.keep 167 [14,18,19] rfl ?_;(conv=>whnf);refine ⟨?_⟩
               refine CW.seq ?_
               refine CW.region ?_
               refine RW.k XK 167 2 rfl ?_
               (conv=>whnf);refine ⟨rfl,?_⟩
               refine RW.callOwn rfl (laws_heldMessageS_fn ((mkL mkEMessage ((proposeN n kind data).2.1) ((mkVNode ((proposeN n kind data).1) 1).2)).1) ((hdVNode ((mkVNode ((proposeN n kind data).1) 1).1) 1).getD (-1)) (leD hdVNode_le (by decide))) rfl (.cons (.one (.r (.al (k := none) (i := 14) (sz := 12) (V := (g10 1 0)) rfl rfl nofun))) (.cons (.one (.r .r)) (.nil))) rfl fun g55 => ?_
               refine RW.k XK 167 1 rfl ?_
               (conv=>whnf);refine ⟨rfl,?_⟩
               refine RW.nil ?_
               refine CW.keep 167 [18,19] rfl ?_;(conv=>whnf);refine ⟨?_⟩
               refine CW.seq ?_
               refine CW.k XK 167 1 [18,19,163] rfl ?_
               (conv=>whnf);refine ⟨rfl,?_⟩
               refine CW.cond rfl (fun h56 => ?_) (fun h56 => ?_)
               ·skip
                refine CW.k XK 167 1 [6] rfl ?_
                (conv=>whnf);refine ⟨rfl,?_⟩
                refine CW.ret ?_
                exact Post.one (RV.b rfl (by first | rfl | (exfalso; have p0 := mkVNode_facts hP; have p1 := mkNM_facts (okPropose hP kind hdk).1 (okPropose hP kind hdk).2; simp_all [eqNode_refl, eqS_refl eqMessage_refl]; done) | (exfalso; have p0 := mkVNode_facts hP; have p1 := mkNM_facts (okPropose hP kind hdk).1 (okPropose hP kind hdk).2; simp_all [eqNode_refl, eqS_refl eqMessage_refl]; omega))) (AOs.a rfl (AOs.r (AOs.r AOs.e)))
               ·skip
                refine CW.skip ?_
                refine CW.keep 167 [18,19] rfl ?_;(conv=>whnf);refine ⟨?_⟩
                refine CW.seq ?_
                refine CW.k XK 167 1 [166] rfl ?_
                (conv=>whnf);refine ⟨rfl,?_⟩
                refine CW.cond rfl (fun h57 => ?_) (fun h57 => ?_)
                ·skip
                 refine CW.k XK 167 1 [6] rfl ?_
                 (conv=>whnf);refine ⟨rfl,?_⟩
                 refine CW.ret ?_
                 exact Post.one (RV.b rfl (by first | rfl | (exfalso; have p0 := mkVNode_facts hP; have p1 := mkNM_facts (okPropose hP kind hdk).1 (okPropose hP kind hdk).2; simp_all [eqNode_refl, eqS_refl eqMessage_refl]; done) | (exfalso; have p0 := mkVNode_facts hP; have p1 := mkNM_facts (okPropose hP kind hdk).1 (okPropose hP kind hdk).2; simp_all [eqNode_refl, eqS_refl eqMessage_refl]; omega))) (AOs.a rfl (AOs.r (AOs.r AOs.e)))
                ·skip
                 refine CW.skip ?_
                 refine CW.keep 167 [] rfl ?_;(conv=>whnf);refine ⟨?_⟩
                 refine CW.k XK 167 1 [6] rfl ?_
                 (conv=>whnf);refine ⟨rfl,?_⟩
                 refine CW.ret ?_
                 exact Post.one (RV.b rfl (by first | rfl | (exfalso; have p0 := mkVNode_facts hP; have p1 := mkNM_facts (okPropose hP kind hdk).1 (okPropose hP kind hdk).2; simp_all [eqNode_refl, eqS_refl eqMessage_refl]; done) | (exfalso; have p0 := mkVNode_facts hP; have p1 := mkNM_facts (okPropose hP kind hdk).1 (okPropose hP kind hdk).2; simp_all [eqNode_refl, eqS_refl eqMessage_refl]; omega))) (AOs.a rfl (AOs.r (AOs.r AOs.e)))
end Go.Proofs.Ytbiocicogminlaa.Y
