import Derived.Test.YtbiocicogminlaaWTickH
namespace Go.Proofs.Ytbiocicogminlaa.Y
open Go Go.RowKit Go.Eng Go.Proofs
set_option maxRecDepth 10000
set_option maxHeartbeats 4000000 in
theorem laws_FnExactTick_fn (n : Node) (limit : Int) (hok : okNode n) : Eng.Fn E.P 8 [.agg ((Node.c n).map .r), .one (.r (.v (.int .i64 limit)))] (.one (.one (.w (.v (.bool true))))) [.agg ((Node.c n).map .r), .one (.r (.v (.int .i64 limit)))] := by
 refine Eng.Fn.intro (E := E) (rvs := [.tmp 4]) Try.func8 rfl rfl rfl (by simp [outSlots, moved, rvSlot, sl]) ?_
 intro B g bo
 refine CW.keep 138 [0,1] rfl ?_;(conv=>whnf);refine ⟨?_⟩
 refine CW.seq ?_
 refine CW.region ?_
 refine RW.k XK 138 1 rfl ?_
 (conv=>whnf);intro b1;(conv=>whnf);refine ⟨rfl,?_⟩
 refine RW.freezeB (ts := (Node.c n)) 2 rfl (DRd.r (DRd.r (DRd.r (DRd.r (DRd.r (DRd.r (DRd.r (DRd.r (DRd.r (DRd.r (DRd.r (DRd.r (DRd.r (DRd.r DRd.e)))))))))))))) ?_
 refine RW.k XK 138 1 rfl ?_
 (conv=>whnf);refine ⟨rfl,?_⟩
 refine RW.nil ?_
 refine CW.keep 138 [1,2] rfl ?_;(conv=>whnf);refine ⟨?_⟩
 refine CW.k XK 138 1 [1,2,5] rfl ?_
 (conv=>whnf);refine ⟨rfl,?_⟩
 refine CW.seq ?_
 refine CW.region ?_
 refine RW.k XK 138 2 rfl ?_
 (conv=>whnf);refine ⟨rfl,?_⟩
 refine RW.call rfl (laws_szNode_fn n 1048576) rfl (.cons (.agg (.cons (.r .r) (.cons (.r .r) (.cons (.r .r) (.cons (.r .r) (.cons (.r .r) (.cons (.r .r) (.cons (.r .r) (.cons (.r .r) (.cons (.r .r) (.cons (.r .r) (.cons (.r .r) (.cons (.r .r) (.cons (.r .r) (.cons (.r .r) (.nil)))))))))))))))) (.cons (.one (.r .r)) (.nil))) fun g2 => ?_
 refine RW.k XK 138 1 rfl ?_
 (conv=>whnf);refine ⟨rfl,?_⟩
 refine RW.nil ?_
 refine CW.keep 138 [1,2,5] rfl ?_;(conv=>whnf);refine ⟨?_⟩
 refine CW.seq ?_
 refine CW.k XK 138 1 [1,2,23] rfl ?_
 (conv=>whnf);refine ⟨rfl,?_⟩
 refine CW.cond rfl (fun h3 => ?_) (fun h3 => ?_)
 ·skip
  refine CW.k XK 138 1 [4] rfl ?_
  (conv=>whnf);refine ⟨rfl,?_⟩
  refine CW.ret ?_
  exact Post.one (RV.b rfl (by first | rfl | (exfalso; have p0 := mkVNode_facts hP; have p1 := mkNM_facts (okTick hP limit).1 (okTick hP limit).2; simp_all [eqNode_refl, eqS_refl eqMessage_refl]; done) | (exfalso; have p0 := mkVNode_facts hP; have p1 := mkNM_facts (okTick hP limit).1 (okTick hP limit).2; simp_all [eqNode_refl, eqS_refl eqMessage_refl]; omega))) (AOs.a rfl (AOs.r AOs.e))
 ·skip
  have hP : okToNode n := (szNode_ok n 1048576 hok (by omega) (by omega) (by simpa using h3)).1
  refine CW.skip ?_
  refine CW.keep 138 [1,2] rfl ?_;(conv=>whnf);refine ⟨?_⟩
  refine CW.seq ?_
  refine CW.region ?_
  refine RW.k XK 138 1 rfl ?_
  (conv=>whnf);refine ⟨rfl,?_⟩
  refine RW.call rfl (laws_toNode_fn n hP) rfl (.cons (.agg (.cons (.r .r) (.cons (.r .r) (.cons (.r .r) (.cons (.r .r) (.cons (.r .r) (.cons (.r .r) (.cons (.r .r) (.cons (.r .r) (.cons (.r .r) (.cons (.r .r) (.cons (.r .r) (.cons (.r .r) (.cons (.r .r) (.cons (.r .r) (.nil)))))))))))))))) (.nil)) fun g4 => ?_
  refine RW.k XK 138 1 rfl ?_
  (conv=>whnf);refine ⟨rfl,?_⟩
  refine RW.freeze 26 (d' := .agg ((Node.c n).map .r)) rfl rfl ?_
  refine RW.call rfl (spec_Tick_fn n limit hP) rfl (.cons (.agg (.cons (.r .r) (.cons (.r .r) (.cons (.r .r) (.cons (.r .r) (.cons (.r .r) (.cons (.r .r) (.cons (.r .r) (.cons (.r .r) (.cons (.r .r) (.cons (.r .r) (.cons (.r .r) (.cons (.r .r) (.cons (.r .r) (.cons (.r .r) (.nil)))))))))))))))) (.cons (.one (.r .r)) (.nil))) fun g5 => ?_
  refine RW.k XK 138 6 rfl ?_
  (conv=>whnf);intro b6;(conv=>whnf);refine ⟨rfl,?_⟩
  refine RW.freezeB (ts := (Node.c ((tickN n limit).1))) 6 rfl (DRd.r (DRd.r (DRd.r (DRd.r (DRd.r (DRd.r (DRd.r (DRd.r (DRd.r (DRd.r (DRd.r (DRd.r (DRd.r (DRd.r DRd.e)))))))))))))) ?_
  refine RW.assignMove rfl rfl rfl (by decide) (Nat.le_of_ble_eq_true rfl) (Nat.le_of_ble_eq_true rfl) ?_
  refine RW.k XK 138 1 rfl ?_
  (conv=>whnf);refine ⟨rfl,?_⟩
  refine RW.nil ?_
  refine CW.keep 138 [1,2,6,7,8] rfl ?_;(conv=>whnf);refine ⟨?_⟩
  refine CW.seq ?_
  refine CW.region ?_
  refine RW.k XK 138 1 rfl ?_
  (conv=>whnf);refine ⟨rfl,?_⟩
  refine RW.call rfl (laws_toNode_fn n hP) rfl (.cons (.agg (.cons (.r .r) (.cons (.r .r) (.cons (.r .r) (.cons (.r .r) (.cons (.r .r) (.cons (.r .r) (.cons (.r .r) (.cons (.r .r) (.cons (.r .r) (.cons (.r .r) (.cons (.r .r) (.cons (.r .r) (.cons (.r .r) (.cons (.r .r) (.nil)))))))))))))))) (.nil)) fun g7 => ?_
  refine RW.k XK 138 2 rfl ?_
  (conv=>whnf);intro b8;(conv=>whnf);refine ⟨rfl,?_⟩
  refine RW.keep 138 [1,2,6,7,8,9,33] rfl ?_;(conv=>whnf);refine ⟨?_⟩
  refine RW.pullA (k := 9) (l := 33) (j := 5) 9 33 5 rfl rfl rfl (by decide) rfl rfl rfl rfl ?_
  refine RW.keep 138 [1,2,6,7,8,9,33] rfl ?_;(conv=>whnf);refine ⟨?_⟩
  refine RW.pullA (k := 9) (l := 33) (j := 8) 9 33 8 rfl rfl rfl (by decide) rfl rfl rfl rfl ?_
  refine RW.keep 138 [1,2,6,7,8,9,33] rfl ?_;(conv=>whnf);refine ⟨?_⟩
  refine RW.pullA (k := 9) (l := 33) (j := 12) 9 33 12 rfl rfl rfl (by decide) rfl rfl rfl rfl ?_
  refine RW.keep 138 [1,2,6,7,8,9,33] rfl ?_;(conv=>whnf);refine ⟨?_⟩
  refine RW.pullA (k := 9) (l := 33) (j := 13) 9 33 13 rfl rfl rfl (by decide) rfl rfl rfl rfl ?_
  refine RW.keep 138 [1,2,6,7,8,9] rfl ?_;(conv=>whnf);refine ⟨?_⟩
  refine RW.nil ?_
  refine CW.keep 138 [1,2,6,7,8,9] rfl ?_;(conv=>whnf);refine ⟨?_⟩
  refine CW.seq ?_
  refine CW.region ?_
  refine RW.k XK 138 2 rfl ?_
  (conv=>whnf);refine ⟨rfl,?_⟩
  refine RW.callOwn rfl (impl_Tick_fn n limit hP) rfl (.cons (.agg (.cons (.r .r) (.cons (.r .r) (.cons (.r .r) (.cons (.r .r) (.cons (.r .r) (.cons (.r (.alo (k := none) (i := 9) (j := 5) (sz := 1) (V := (g7 0 5)) rfl rfl rfl nofun)) (.cons (.r .r) (.cons (.r .r) (.cons (.r (.alo (k := none) (i := 9) (j := 8) (sz := 3) (V := (g7 0 8)) rfl rfl rfl nofun)) (.cons (.r .r) (.cons (.r .r) (.cons (.r .r) (.cons (.r (.alo (k := none) (i := 9) (j := 12) (sz := 1) (V := (g7 0 12)) rfl rfl rfl nofun)) (.cons (.r (.alo (k := none) (i := 9) (j := 13) (sz := 4) (V := (g7 0 13)) rfl rfl rfl nofun)) (.nil)))))))))))))))) (.cons (.one (.r .r)) (.nil))) rfl fun g9 => ?_
  refine RW.k XK 138 6 rfl ?_
  (conv=>whnf);intro b10;(conv=>whnf);refine ⟨rfl,?_⟩
  refine RW.keep 138 [1,2,6,7,8,9,10,38,39,40] rfl ?_;(conv=>whnf);refine ⟨?_⟩
  refine RW.pullA (k := 10) (l := 38) (j := 5) 10 38 5 rfl rfl rfl (by decide) rfl rfl rfl rfl ?_
  refine RW.keep 138 [1,2,6,7,8,9,10,38,39,40] rfl ?_;(conv=>whnf);refine ⟨?_⟩
  refine RW.pullA (k := 10) (l := 38) (j := 8) 10 38 8 rfl rfl rfl (by decide) rfl rfl rfl rfl ?_
  refine RW.keep 138 [1,2,6,7,8,9,10,38,39,40] rfl ?_;(conv=>whnf);refine ⟨?_⟩
  refine RW.pullA (k := 10) (l := 38) (j := 12) 10 38 12 rfl rfl rfl (by decide) rfl rfl rfl rfl ?_
  refine RW.keep 138 [1,2,6,7,8,9,10,38,39,40] rfl ?_;(conv=>whnf);refine ⟨?_⟩
  refine RW.pullA (k := 10) (l := 38) (j := 13) 10 38 13 rfl rfl rfl (by decide) rfl rfl rfl rfl ?_
  refine RW.keep 138 [1,2,6,7,8,9,10,39,40] rfl ?_;(conv=>whnf);refine ⟨?_⟩
  refine RW.assignMove rfl rfl rfl (by decide) (Nat.le_of_ble_eq_true rfl) (Nat.le_of_ble_eq_true rfl) ?_
  refine RW.k XK 138 1 rfl ?_
  (conv=>whnf);refine ⟨rfl,?_⟩
  refine RW.nil ?_
  refine CW.keep 138 [1,2,6,7,8,9,10,11,12] rfl ?_;(conv=>whnf);refine ⟨?_⟩
  refine CW.seq ?_
  refine CW.seqJ 138 (fun (v11 : Bool) => [(1, I limit), (2, .rp (Node.c n)), (6, .rp (Node.c ((tickN n limit).1))), (7, .w (sl 12 Message.c ((tickN n limit).2.1)) (g5 1 0)), (8, Bo ((tickN n limit).2.2)), (9, .obj b8 [I n.id, I n.term_, I n.vote, I n.role, I n.lead, .w (sl 1 cI n.conf) (g7 0 5), I n.log.start, I n.log.startTerm, .w (sl 3 Entry.c n.log.entries) (g7 0 8), I n.commit, I n.clock, I n.limit, .w (sl 1 cI n.votes) (g7 0 12), .w (sl 4 Peer.c n.peers) (g7 0 13)]), (10, .obj b10 [I (((tickN n limit).1).id), I (((tickN n limit).1).term_), I (((tickN n limit).1).vote), I (((tickN n limit).1).role), I (((tickN n limit).1).lead), .w (sl 1 cI (((tickN n limit).1).conf)) (g9 0 5), I ((((tickN n limit).1).log).start), I ((((tickN n limit).1).log).startTerm), .w (sl 3 Entry.c ((((tickN n limit).1).log).entries)) (g9 0 8), I (((tickN n limit).1).commit), I (((tickN n limit).1).clock), I (((tickN n limit).1).limit), .w (sl 1 cI (((tickN n limit).1).votes)) (g9 0 12), .w (sl 4 Peer.c (((tickN n limit).1).peers)) (g9 0 13)]), (11, .w (sl 12 Message.c ((tickN n limit).2.1)) (g9 1 0)), (12, Bo ((tickN n limit).2.2)), (55, Bo v11)]) (fun v11 => v11 = (((!(eqNode ((tickN n limit).1) ((tickN n limit).1))) || (!(eqS eqMessage ((tickN n limit).2.1) ((tickN n limit).2.1)))) || (!(((tickN n limit).2.2) == ((tickN n limit).2.2))))) ?_ ?_
  ·refine CW.region ?_
   refine RW.k XK 138 2 rfl ?_
   (conv=>whnf);refine ⟨rfl,?_⟩
   refine RW.callOwn rfl (laws_eqNode_fn ((tickN n limit).1) ((tickN n limit).1)) rfl (.cons (.agg (.cons (.r .r) (.cons (.r .r) (.cons (.r .r) (.cons (.r .r) (.cons (.r .r) (.cons (.r (.alo (k := none) (i := 10) (j := 5) (sz := 1) (V := (g9 0 5)) rfl rfl rfl nofun)) (.cons (.r .r) (.cons (.r .r) (.cons (.r (.alo (k := none) (i := 10) (j := 8) (sz := 3) (V := (g9 0 8)) rfl rfl rfl nofun)) (.cons (.r .r) (.cons (.r .r) (.cons (.r .r) (.cons (.r (.alo (k := none) (i := 10) (j := 12) (sz := 1) (V := (g9 0 12)) rfl rfl rfl nofun)) (.cons (.r (.alo (k := none) (i := 10) (j := 13) (sz := 4) (V := (g9 0 13)) rfl rfl rfl nofun)) (.nil)))))))))))))))) (.cons (.agg (.cons (.r .r) (.cons (.r .r) (.cons (.r .r) (.cons (.r .r) (.cons (.r .r) (.cons (.r .r) (.cons (.r .r) (.cons (.r .r) (.cons (.r .r) (.cons (.r .r) (.cons (.r .r) (.cons (.r .r) (.cons (.r .r) (.cons (.r .r) (.nil)))))))))))))))) (.nil))) rfl fun g12 => ?_
   refine RW.k XK 138 2 rfl ?_
   (conv=>whnf);refine ⟨rfl,?_⟩
   refine RW.gv rfl rfl rfl rfl (fun h13 => V.mv (d := .al 11 none 12 (((tickN n limit).2.1).length) (g9 1 0) 0) rfl rfl) (fun h13 => ?_) (fun h13 => ?_)
   ·skip
    refine RW.k XK 138 1 rfl ?_
    (conv=>whnf);refine ⟨rfl,?_⟩
    refine RW.gcallOwn rfl rfl rfl rfl (laws_eqMessageS_fn ((tickN n limit).2.1) ((tickN n limit).2.1)) rfl (.cons (.one (.r (.al (k := none) (i := 11) (sz := 12) (V := (g9 1 0)) rfl rfl nofun))) (.cons (.one (.r (.al (k := none) (i := 7) (sz := 12) (V := (g5 1 0)) rfl rfl nofun))) (.nil))) rfl fun g14 => ?_
    refine RW.k XK 138 3 rfl ?_
    (conv=>whnf);refine ⟨rfl,?_⟩
    refine RW.gv rfl rfl rfl rfl (fun h15 => V.mv (d := Bo ((tickN n limit).2.2)) rfl rfl) (fun h15 => ?_) (fun h15 => ?_)
    ·skip
     refine RW.k XK 138 1 rfl ?_
     (conv=>whnf);refine ⟨rfl,?_⟩
     refine RW.gt rfl rfl rfl rfl (V.eqBool rfl rfl rfl (by kernel_rfl) (.inr ⟨rfl, rfl⟩)) ?_
     refine RW.k XK 138 1 rfl ?_
     (conv=>whnf);refine ⟨rfl,?_⟩
     refine RW.nil ?_
     exact ⟨_, by first | rfl | (simp_all; done) | (simp_all; omega) | grind, rfl, Le.of rfl⟩
    ·skip
     refine RW.k XK 138 3 rfl ?_
     (conv=>whnf);refine ⟨rfl,?_⟩
     refine RW.nil ?_
     exact ⟨_, by first | rfl | (simp_all; done) | (simp_all; omega) | grind, rfl, Le.of rfl⟩
   ·skip
    refine RW.k XK 138 9 rfl ?_
    (conv=>whnf);refine ⟨rfl,?_⟩
    refine RW.nil ?_
    exact ⟨_, by first | rfl | (simp_all; done) | (simp_all; omega) | grind, rfl, Le.of rfl⟩
  ·intro v11 hv16
   refine CW.cond rfl (fun h17 => ?_) (fun h17 => ?_)
   ·skip
    refine CW.k XK 138 1 [4] rfl ?_
    (conv=>whnf);refine ⟨rfl,?_⟩
    refine CW.ret ?_
    exact Post.one (RV.b rfl (by first | rfl | (exfalso; have p0 := mkVNode_facts hP; have p1 := mkNM_facts (okTick hP limit).1 (okTick hP limit).2; simp_all [eqNode_refl, eqS_refl eqMessage_refl]; done) | (exfalso; have p0 := mkVNode_facts hP; have p1 := mkNM_facts (okTick hP limit).1 (okTick hP limit).2; simp_all [eqNode_refl, eqS_refl eqMessage_refl]; omega))) (AOs.a rfl (AOs.r AOs.e))
   ·skip
    refine CW.skip ?_
    refine CW.keep 138 [1,2,6,7,8,9,10,11,12] rfl ?_;(conv=>whnf);refine ⟨?_⟩
    refine CW.seq ?_
    refine CW.anyJ2 (fc := [(9, b8, [.int .i64 n.id, .int .i64 n.term_, .int .i64 n.vote, .int .i64 n.role, .int .i64 n.lead, (g7 0 5), .int .i64 n.log.start, .int .i64 n.log.startTerm, (g7 0 8), .int .i64 n.commit, .int .i64 n.clock, .int .i64 n.limit, (g7 0 12), (g7 0 13)]), (10, b10, [.int .i64 (((tickN n limit).1).id), .int .i64 (((tickN n limit).1).term_), .int .i64 (((tickN n limit).1).vote), .int .i64 (((tickN n limit).1).role), .int .i64 (((tickN n limit).1).lead), (g9 0 5), .int .i64 ((((tickN n limit).1).log).start), .int .i64 ((((tickN n limit).1).log).startTerm), (g9 0 8), .int .i64 (((tickN n limit).1).commit), .int .i64 (((tickN n limit).1).clock), .int .i64 (((tickN n limit).1).limit), (g9 0 12), (g9 0 13)])]) (L0 := [(1, I limit), (2, .rp (Node.c n)), (6, .rp (Node.c ((tickN n limit).1))), (7, .w (sl 12 Message.c ((tickN n limit).2.1)) (g5 1 0)), (8, Bo ((tickN n limit).2.2)), (9, .obj b8 [I n.id, I n.term_, I n.vote, I n.role, I n.lead, .w (sl 1 cI n.conf) (g7 0 5), I n.log.start, I n.log.startTerm, .w (sl 3 Entry.c n.log.entries) (g7 0 8), I n.commit, I n.clock, I n.limit, .w (sl 1 cI n.votes) (g7 0 12), .w (sl 4 Peer.c n.peers) (g7 0 13)]), (10, .obj b10 [I (((tickN n limit).1).id), I (((tickN n limit).1).term_), I (((tickN n limit).1).vote), I (((tickN n limit).1).role), I (((tickN n limit).1).lead), .w (sl 1 cI (((tickN n limit).1).conf)) (g9 0 5), I ((((tickN n limit).1).log).start), I ((((tickN n limit).1).log).startTerm), .w (sl 3 Entry.c ((((tickN n limit).1).log).entries)) (g9 0 8), I (((tickN n limit).1).commit), I (((tickN n limit).1).clock), I (((tickN n limit).1).limit), .w (sl 1 cI (((tickN n limit).1).votes)) (g9 0 12), .w (sl 4 Peer.c (((tickN n limit).1).peers)) (g9 0 13)]), (11, .w (sl 12 Message.c ((tickN n limit).2.1)) (g9 1 0)), (12, Bo ((tickN n limit).2.2))]) 138 (fun (zz : (Nat → Nat → Value) × (Nat → Nat → Value)) => match zz with | (go18_2_1, go18_3_1) => [(60, Bo (!(eqNode n n)))]) (fun all hall f hf b0 hb K hK => ?_) ?_
    ·skip
     have ro18_2 : ∀ B, ∀ (go18_2_1 : Nat → Nat → Value), ∀ (go18_3_1 : Nat → Nat → Value), RA f E B all 0 (bt 5 31) ⟨138, [(60, Bo (!(eqNode n n)))] ++ b0⟩ K := by
      intro B go18_2_1 go18_3_1
      exact RA.of2 hall hf hb (RA.finH (Tell.of rfl) (by kernel_rfl) (hK (go18_2_1, go18_3_1) _ rfl (Le.of rfl)))
     have ro18_1 : ∀ B, ∀ (go18_2_1 : Nat → Nat → Value), RA f E B all 2 (bt 5 7) ⟨138, [(56, .agg [I n.id, I n.term_, I n.vote, I n.role, I n.lead, .al 9 (some 5) 1 n.conf.length (g7 0 5) 0, I n.log.start, I n.log.startTerm, .al 9 (some 8) 3 n.log.entries.length (g7 0 8) 0, I n.commit, I n.clock, I n.limit, .al 9 (some 12) 1 n.votes.length (g7 0 12) 0, .al 9 (some 13) 4 n.peers.length (g7 0 13) 0]), (58, .agg [I n.id, I n.term_, I n.vote, I n.role, I n.lead, .w (sl 1 cI n.conf) (go18_2_1 0 5), I n.log.start, I n.log.startTerm, .w (sl 3 Entry.c n.log.entries) (go18_2_1 0 8), I n.commit, I n.clock, I n.limit, .w (sl 1 cI n.votes) (go18_2_1 0 12), .w (sl 4 Peer.c n.peers) (go18_2_1 0 13)])] ++ b0⟩ K := by
      intro B go18_2_1
      refine RA.of2 hall hf hb (RA.stepH (L := [3]) (Tell.of rfl) (by kernel_rfl) (by simp) (RA.each ?_ (RA.each0)))
      ·skip
       refine RO.callOwn rfl rfl (laws_eqNode_fn n n) rfl (.cons (.agg (.cons (.r .r) (.cons (.r .r) (.cons (.r .r) (.cons (.r .r) (.cons (.r .r) (.cons (.r (.alo (k := none) (i := 9) (j := 5) (sz := 1) (V := (g7 0 5)) rfl rfl rfl nofun)) (.cons (.r .r) (.cons (.r .r) (.cons (.r (.alo (k := none) (i := 9) (j := 8) (sz := 3) (V := (g7 0 8)) rfl rfl rfl nofun)) (.cons (.r .r) (.cons (.r .r) (.cons (.r .r) (.cons (.r (.alo (k := none) (i := 9) (j := 12) (sz := 1) (V := (g7 0 12)) rfl rfl rfl nofun)) (.cons (.r (.alo (k := none) (i := 9) (j := 13) (sz := 4) (V := (g7 0 13)) rfl rfl rfl nofun)) (.nil)))))))))))))))) (.cons (.agg (.cons (.r .r) (.cons (.r .r) (.cons (.r .r) (.cons (.r .r) (.cons (.r .r) (.cons (.r (.ala (k := none) (i := 58) (j := 5) (sz := 1) (V := (go18_2_1 0 5)) rfl rfl rfl nofun)) (.cons (.r .r) (.cons (.r .r) (.cons (.r (.ala (k := none) (i := 58) (j := 8) (sz := 3) (V := (go18_2_1 0 8)) rfl rfl rfl nofun)) (.cons (.r .r) (.cons (.r .r) (.cons (.r .r) (.cons (.r (.ala (k := none) (i := 58) (j := 12) (sz := 1) (V := (go18_2_1 0 12)) rfl rfl rfl nofun)) (.cons (.r (.ala (k := none) (i := 58) (j := 13) (sz := 4) (V := (go18_2_1 0 13)) rfl rfl rfl nofun)) (.nil)))))))))))))))) (.nil))) rfl rfl fun go18_3_1 => ?_
       refine RA.fr XK 138 0 [4] (bt 5 31) rfl rfl (by kernel_rfl) (Tell.of rfl) ?_
       (conv=>whnf);refine ⟨rfl,fun B=>?_⟩
       exact RA.to2 hall hf hb (ro18_2 B go18_2_1 go18_3_1) rfl rfl (by kernel_rfl)
     have ro18_0 : ∀ B, RA f E B all 3 (bt 5 3) ⟨138, [(56, .agg [I n.id, I n.term_, I n.vote, I n.role, I n.lead, .al 9 (some 5) 1 n.conf.length (g7 0 5) 0, I n.log.start, I n.log.startTerm, .al 9 (some 8) 3 n.log.entries.length (g7 0 8) 0, I n.commit, I n.clock, I n.limit, .al 9 (some 12) 1 n.votes.length (g7 0 12) 0, .al 9 (some 13) 4 n.peers.length (g7 0 13) 0]), (57, .agg ((Node.c n).map .r))] ++ b0⟩ K := by
      intro B
      refine RA.of2 hall hf hb (RA.stepH (L := [2]) (Tell.of rfl) (by kernel_rfl) (by simp) (RA.each ?_ (RA.each0)))
      ·skip
       refine RO.call rfl rfl (laws_toNode_fn n hP) rfl (.cons (.agg (.cons (.r .r) (.cons (.r .r) (.cons (.r .r) (.cons (.r .r) (.cons (.r .r) (.cons (.r .r) (.cons (.r .r) (.cons (.r .r) (.cons (.r .r) (.cons (.r .r) (.cons (.r .r) (.cons (.r .r) (.cons (.r .r) (.cons (.r .r) (.nil)))))))))))))))) (.nil)) rfl fun go18_2_1 => ?_
       exact RA.to2 hall hf hb (ro18_1 B go18_2_1) rfl rfl (by kernel_rfl)
     refine RA.start (by kernel_rfl) (by kernel_rfl) (m := 5) (ls' := (bt 5 0)) ?_
     refine RA.fr XK 138 3 [0,1] (bt 5 3) rfl rfl (by kernel_rfl) (Tell.of rfl) ?_
     (conv=>whnf);refine ⟨rfl,fun B=>?_⟩
     exact RA.to2 hall hf hb (ro18_0 B) rfl rfl (by kernel_rfl)
    ·rintro ⟨go18_2_1, go18_3_1⟩
     refine CW.cond rfl (fun h19 => ?_) (fun h19 => ?_)
     ·skip
      refine CW.k XK 138 1 [4] rfl ?_
      (conv=>whnf);refine ⟨rfl,?_⟩
      refine CW.ret ?_
      exact Post.one (RV.b rfl (by first | rfl | (exfalso; have p0 := mkVNode_facts hP; have p1 := mkNM_facts (okTick hP limit).1 (okTick hP limit).2; simp_all [eqNode_refl, eqS_refl eqMessage_refl]; done) | (exfalso; have p0 := mkVNode_facts hP; have p1 := mkNM_facts (okTick hP limit).1 (okTick hP limit).2; simp_all [eqNode_refl, eqS_refl eqMessage_refl]; omega))) (AOs.a rfl (AOs.r AOs.e))
     ·skip
      refine CW.skip ?_
      refine CW.keep 138 [1,2,6,7,8,9,10,11,12] rfl ?_;(conv=>whnf);refine ⟨?_⟩
      refine CW.k XK 138 1 [1,2,6,7,8,9,10,11,12,13] rfl ?_
      (conv=>whnf);refine ⟨rfl,?_⟩
      refine CW.seq ?_
      refine CW.region ?_
      refine RW.k XK 138 2 rfl ?_
      (conv=>whnf);refine ⟨rfl,?_⟩
      refine RW.callW (k := 9) (laws_markNode_fn n 1 (by decide)) rfl rfl (Nat.le_of_ble_eq_true rfl) (by decide) (.here (AsW.aggO (Hand.v (Hand.v (Hand.v (Hand.v (Hand.v (Hand.w (Hand.v (Hand.v (Hand.w (Hand.v (Hand.v (Hand.v (Hand.w (Hand.w Hand.e))))))))))))))) (.cons (.one (.r .r)) (.nil))) rfl fun g20 q21 => ?_
      refine RW.k XK 138 1 rfl ?_
      (conv=>whnf);refine ⟨rfl,?_⟩
      refine RW.nil ?_
      refine CW.keep 138 [1,2,6,7,8,10,11,12,13] rfl ?_;(conv=>whnf);refine ⟨?_⟩
      refine CW.seq ?_
      refine CW.seqJ 138 (fun (v22 : Bool) => [(1, I limit), (2, .rp (Node.c n)), (6, .rp (Node.c ((tickN n limit).1))), (7, .w (sl 12 Message.c ((tickN n limit).2.1)) (g5 1 0)), (8, Bo ((tickN n limit).2.2)), (10, .obj b10 [I (((tickN n limit).1).id), I (((tickN n limit).1).term_), I (((tickN n limit).1).vote), I (((tickN n limit).1).role), I (((tickN n limit).1).lead), .w (sl 1 cI (((tickN n limit).1).conf)) (g9 0 5), I ((((tickN n limit).1).log).start), I ((((tickN n limit).1).log).startTerm), .w (sl 3 Entry.c ((((tickN n limit).1).log).entries)) (g9 0 8), I (((tickN n limit).1).commit), I (((tickN n limit).1).clock), I (((tickN n limit).1).limit), .w (sl 1 cI (((tickN n limit).1).votes)) (g9 0 12), .w (sl 4 Peer.c (((tickN n limit).1).peers)) (g9 0 13)]), (11, .w (sl 12 Message.c ((tickN n limit).2.1)) (g9 1 0)), (82, Bo v22)]) (fun v22 => v22 = (((decide (((mkVNode n 1).2) < 0) || (!(eqNode ((tickN n limit).1) ((tickN n limit).1)))) || (!(eqS eqMessage ((tickN n limit).2.1) ((tickN n limit).2.1)))) || (!(((tickN n limit).2.2) == ((tickN n limit).2.2))))) ?_ ?_
      ·refine CW.region ?_
       refine RW.k XK 138 3 rfl ?_
       (conv=>whnf);refine ⟨rfl,?_⟩
       refine RW.gv rfl rfl rfl rfl (fun h23 => V.loadAgg rfl rfl rfl rfl rfl (Nat.le_of_ble_eq_true rfl)) (fun h23 => ?_) (fun h23 => ?_)
       ·skip
        refine RW.k XK 138 1 rfl ?_
        (conv=>whnf);refine ⟨rfl,?_⟩
        refine RW.gcallOwn rfl rfl rfl rfl (laws_eqNode_fn ((tickN n limit).1) ((tickN n limit).1)) rfl (.cons (.agg (.cons (.r .r) (.cons (.r .r) (.cons (.r .r) (.cons (.r .r) (.cons (.r .r) (.cons (.r (.alo (k := none) (i := 10) (j := 5) (sz := 1) (V := (g9 0 5)) rfl rfl rfl nofun)) (.cons (.r .r) (.cons (.r .r) (.cons (.r (.alo (k := none) (i := 10) (j := 8) (sz := 3) (V := (g9 0 8)) rfl rfl rfl nofun)) (.cons (.r .r) (.cons (.r .r) (.cons (.r .r) (.cons (.r (.alo (k := none) (i := 10) (j := 12) (sz := 1) (V := (g9 0 12)) rfl rfl rfl nofun)) (.cons (.r (.alo (k := none) (i := 10) (j := 13) (sz := 4) (V := (g9 0 13)) rfl rfl rfl nofun)) (.nil)))))))))))))))) (.cons (.agg (.cons (.r .r) (.cons (.r .r) (.cons (.r .r) (.cons (.r .r) (.cons (.r .r) (.cons (.r .r) (.cons (.r .r) (.cons (.r .r) (.cons (.r .r) (.cons (.r .r) (.cons (.r .r) (.cons (.r .r) (.cons (.r .r) (.cons (.r .r) (.nil)))))))))))))))) (.nil))) rfl fun g24 => ?_
        refine RW.k XK 138 3 rfl ?_
        (conv=>whnf);refine ⟨rfl,?_⟩
        refine RW.gv rfl rfl rfl rfl (fun h25 => V.mv (d := .al 11 none 12 (((tickN n limit).2.1).length) (g9 1 0) 0) rfl rfl) (fun h25 => ?_) (fun h25 => ?_)
        ·skip
         refine RW.k XK 138 1 rfl ?_
         (conv=>whnf);refine ⟨rfl,?_⟩
         refine RW.gcallOwn rfl rfl rfl rfl (laws_eqMessageS_fn ((tickN n limit).2.1) ((tickN n limit).2.1)) rfl (.cons (.one (.r (.al (k := none) (i := 11) (sz := 12) (V := (g9 1 0)) rfl rfl nofun))) (.cons (.one (.r (.al (k := none) (i := 7) (sz := 12) (V := (g5 1 0)) rfl rfl nofun))) (.nil))) rfl fun g26 => ?_
         refine RW.k XK 138 3 rfl ?_
         (conv=>whnf);refine ⟨rfl,?_⟩
         refine RW.gv rfl rfl rfl rfl (fun h27 => V.mv (d := Bo ((tickN n limit).2.2)) rfl rfl) (fun h27 => ?_) (fun h27 => ?_)
         ·skip
          refine RW.k XK 138 1 rfl ?_
          (conv=>whnf);refine ⟨rfl,?_⟩
          refine RW.gt rfl rfl rfl rfl (V.eqBool rfl rfl rfl (by kernel_rfl) (.inr ⟨rfl, rfl⟩)) ?_
          refine RW.k XK 138 1 rfl ?_
          (conv=>whnf);refine ⟨rfl,?_⟩
          refine RW.nil ?_
          exact ⟨_, by first | rfl | (simp_all; done) | (simp_all; omega) | grind, rfl, Le.of rfl⟩
         ·skip
          refine RW.k XK 138 3 rfl ?_
          (conv=>whnf);refine ⟨rfl,?_⟩
          refine RW.nil ?_
          exact ⟨_, by first | rfl | (simp_all; done) | (simp_all; omega) | grind, rfl, Le.of rfl⟩
        ·skip
         refine RW.k XK 138 9 rfl ?_
         (conv=>whnf);refine ⟨rfl,?_⟩
         refine RW.nil ?_
         exact ⟨_, by first | rfl | (simp_all; done) | (simp_all; omega) | grind, rfl, Le.of rfl⟩
       ·skip
        refine RW.k XK 138 15 rfl ?_
        (conv=>whnf);refine ⟨rfl,?_⟩
        refine RW.nil ?_
        exact ⟨_, by first | rfl | (simp_all; done) | (simp_all; omega) | grind, rfl, Le.of rfl⟩
      ·intro v22 hv28
       refine CW.cond rfl (fun h29 => ?_) (fun h29 => ?_)
       ·skip
        refine CW.k XK 138 1 [4] rfl ?_
        (conv=>whnf);refine ⟨rfl,?_⟩
        refine CW.ret ?_
        exact Post.one (RV.b rfl (by first | rfl | (exfalso; have p0 := mkVNode_facts hP; have p1 := mkNM_facts (okTick hP limit).1 (okTick hP limit).2; simp_all [eqNode_refl, eqS_refl eqMessage_refl]; done) | (exfalso; have p0 := mkVNode_facts hP; have p1 := mkNM_facts (okTick hP limit).1 (okTick hP limit).2; simp_all [eqNode_refl, eqS_refl eqMessage_refl]; omega))) (AOs.a rfl (AOs.r AOs.e))
       ·skip
        refine CW.skip ?_
        refine CW.keep 138 [1,2,6,7,8,10,11] rfl ?_;(conv=>whnf);refine ⟨?_⟩
        refine CW.k XK 138 1 [1,2,6,7,8,10,11,14] rfl ?_
        (conv=>whnf);refine ⟨rfl,?_⟩
        refine CW.seq ?_
        refine CW.region ?_
        refine RW.k XK 138 2 rfl ?_
        (conv=>whnf);refine ⟨rfl,?_⟩
        refine RW.callW (k := 10) (laws_markNode_fn ((tickN n limit).1) 1 (by decide)) rfl rfl (Nat.le_of_ble_eq_true rfl) (by decide) (.here (AsW.aggO (Hand.v (Hand.v (Hand.v (Hand.v (Hand.v (Hand.w (Hand.v (Hand.v (Hand.w (Hand.v (Hand.v (Hand.v (Hand.w (Hand.w Hand.e))))))))))))))) (.cons (.one (.r .r)) (.nil))) rfl fun g30 q31 => ?_
        refine RW.k XK 138 1 rfl ?_
        (conv=>whnf);refine ⟨rfl,?_⟩
        refine RW.nil ?_
        refine CW.keep 138 [1,2,6,7,8,10,11,14] rfl ?_;(conv=>whnf);refine ⟨?_⟩
        refine CW.seq ?_
        refine CW.region ?_
        refine RW.k XK 138 2 rfl ?_
        (conv=>whnf);refine ⟨rfl,?_⟩
        refine RW.callW (k := 11) (laws_markMessageS_fn ((tickN n limit).2.1) ((mkVNode ((tickN n limit).1) 1).2) (mkVNode_le _ _ (by decide))) rfl rfl (Nat.le_of_ble_eq_true rfl) (by decide) (.here (AsW.own) (.cons (.one (.r .r)) (.nil))) rfl fun g32 q33 => ?_
        refine RW.k XK 138 1 rfl ?_
        (conv=>whnf);refine ⟨rfl,?_⟩
        refine RW.nil ?_
        refine CW.keep 138 [1,2,6,7,8,10,11,14] rfl ?_;(conv=>whnf);refine ⟨?_⟩
        refine CW.k XK 138 1 [1,2,6,7,8,10,11,14,15] rfl ?_
        (conv=>whnf);refine ⟨rfl,?_⟩
        refine CW.seq ?_
        refine CW.region ?_
        refine RW.k XK 138 2 rfl ?_
        (conv=>whnf);refine ⟨rfl,?_⟩
        refine RW.callOwn rfl (laws_heldNode_fn ((mkVNode ((tickN n limit).1) 1).1) 1 (by decide)) rfl (.cons (.agg (.cons (.r .r) (.cons (.r .r) (.cons (.r .r) (.cons (.r .r) (.cons (.r .r) (.cons (.r (.alo (k := none) (i := 10) (j := 5) (sz := 1) (V := (g9 0 5)) rfl rfl rfl nofun)) (.cons (.r .r) (.cons (.r .r) (.cons (.r (.alo (k := none) (i := 10) (j := 8) (sz := 3) (V := (g9 0 8)) rfl rfl rfl nofun)) (.cons (.r .r) (.cons (.r .r) (.cons (.r .r) (.cons (.r (.alo (k := none) (i := 10) (j := 12) (sz := 1) (V := (g9 0 12)) rfl rfl rfl nofun)) (.cons (.r (.alo (k := none) (i := 10) (j := 13) (sz := 4) (V := (g9 0 13)) rfl rfl rfl nofun)) (.nil)))))))))))))))) (.cons (.one (.r .r)) (.nil))) rfl fun g34 => ?_
        refine RW.k XK 138 1 rfl ?_
        (conv=>whnf);refine ⟨rfl,?_⟩
        refine RW.nil ?_
        refine CW.keep 138 [1,2,6,7,8,10,11,14,15] rfl ?_;(conv=>whnf);refine ⟨?_⟩
        refine CW.seq ?_
        refine CW.k XK 138 1 [1,2,6,7,8,10,11,14,15,93] rfl ?_
        (conv=>whnf);refine ⟨rfl,?_⟩
        refine CW.cond rfl (fun h35 => ?_) (fun h35 => ?_)
        ·skip
         refine CW.k XK 138 1 [4] rfl ?_
         (conv=>whnf);refine ⟨rfl,?_⟩
         refine CW.ret ?_
         exact Post.one (RV.b rfl (by first | rfl | (exfalso; have p0 := mkVNode_facts hP; have p1 := mkNM_facts (okTick hP limit).1 (okTick hP limit).2; simp_all [eqNode_refl, eqS_refl eqMessage_refl]; done) | (exfalso; have p0 := mkVNode_facts hP; have p1 := mkNM_facts (okTick hP limit).1 (okTick hP limit).2; simp_all [eqNode_refl, eqS_refl eqMessage_refl]; omega))) (AOs.a rfl (AOs.r AOs.e))
        ·skip
         refine CW.skip ?_
         refine CW.keep 138 [1,2,6,7,8,10,11,14,15] rfl ?_;(conv=>whnf);refine ⟨?_⟩
         refine CW.seq ?_
         refine CW.region ?_
         refine RW.k XK 138 2 rfl ?_
         (conv=>whnf);refine ⟨rfl,?_⟩
         refine RW.callOwn rfl (laws_heldMessageS_fn ((mkL mkEMessage ((tickN n limit).2.1) ((mkVNode ((tickN n limit).1) 1).2)).1) ((hdVNode ((mkVNode ((tickN n limit).1) 1).1) 1).getD (-1)) (leD hdVNode_le (by decide))) rfl (.cons (.one (.r (.al (k := none) (i := 11) (sz := 12) (V := (g9 1 0)) rfl rfl nofun))) (.cons (.one (.r .r)) (.nil))) rfl fun g36 => ?_
         refine RW.k XK 138 1 rfl ?_
         (conv=>whnf);refine ⟨rfl,?_⟩
         refine RW.nil ?_
         refine CW.keep 138 [1,2,6,7,8,10,11,14,15] rfl ?_;(conv=>whnf);refine ⟨?_⟩
         refine CW.seq ?_
         refine CW.k XK 138 1 [1,2,6,7,8,10,11,14,15,98] rfl ?_
         (conv=>whnf);refine ⟨rfl,?_⟩
         refine CW.cond rfl (fun h37 => ?_) (fun h37 => ?_)
         ·skip
          refine CW.k XK 138 1 [4] rfl ?_
          (conv=>whnf);refine ⟨rfl,?_⟩
          refine CW.ret ?_
          exact Post.one (RV.b rfl (by first | rfl | (exfalso; have p0 := mkVNode_facts hP; have p1 := mkNM_facts (okTick hP limit).1 (okTick hP limit).2; simp_all [eqNode_refl, eqS_refl eqMessage_refl]; done) | (exfalso; have p0 := mkVNode_facts hP; have p1 := mkNM_facts (okTick hP limit).1 (okTick hP limit).2; simp_all [eqNode_refl, eqS_refl eqMessage_refl]; omega))) (AOs.a rfl (AOs.r AOs.e))
         ·skip
          refine CW.skip ?_
          refine CW.keep 138 [1,2,6,7,8,10,11,14,15] rfl ?_;(conv=>whnf);refine ⟨?_⟩
          refine CW.seq ?_
          refine CW.k XK 138 1 [1,2,6,7,8,10,11,14,101] rfl ?_
          (conv=>whnf);refine ⟨rfl,?_⟩
          refine CW.cond rfl (fun h38 => ?_) (fun h38 => ?_)
          ·skip
           refine CW.k XK 138 1 [4] rfl ?_
           (conv=>whnf);refine ⟨rfl,?_⟩
           refine CW.ret ?_
           exact Post.one (RV.b rfl (by first | rfl | (exfalso; have p0 := mkVNode_facts hP; have p1 := mkNM_facts (okTick hP limit).1 (okTick hP limit).2; simp_all [eqNode_refl, eqS_refl eqMessage_refl]; done) | (exfalso; have p0 := mkVNode_facts hP; have p1 := mkNM_facts (okTick hP limit).1 (okTick hP limit).2; simp_all [eqNode_refl, eqS_refl eqMessage_refl]; omega))) (AOs.a rfl (AOs.r AOs.e))
          ·skip
           refine CW.skip ?_
           refine CW.keep 138 [1,2,6,7,8,10,11,14] rfl ?_;(conv=>whnf);refine ⟨?_⟩
           refine CW.seq ?_
           refine CW.region ?_
           refine RW.k XK 138 1 rfl ?_
           (conv=>whnf);refine ⟨rfl,?_⟩
           refine RW.call rfl (laws_toNode_fn n hP) rfl (.cons (.agg (.cons (.r .r) (.cons (.r .r) (.cons (.r .r) (.cons (.r .r) (.cons (.r .r) (.cons (.r .r) (.cons (.r .r) (.cons (.r .r) (.cons (.r .r) (.cons (.r .r) (.cons (.r .r) (.cons (.r .r) (.cons (.r .r) (.cons (.r .r) (.nil)))))))))))))))) (.nil)) fun g39 => ?_
           refine RW.k XK 138 1 rfl ?_
           (conv=>whnf);refine ⟨rfl,?_⟩
           refine RW.callOwn rfl (impl_Tick_fn n limit hP) rfl (.cons (.agg (.cons (.r .r) (.cons (.r .r) (.cons (.r .r) (.cons (.r .r) (.cons (.r .r) (.cons (.r (.ala (k := none) (i := 104) (j := 5) (sz := 1) (V := (g39 0 5)) rfl rfl rfl nofun)) (.cons (.r .r) (.cons (.r .r) (.cons (.r (.ala (k := none) (i := 104) (j := 8) (sz := 3) (V := (g39 0 8)) rfl rfl rfl nofun)) (.cons (.r .r) (.cons (.r .r) (.cons (.r .r) (.cons (.r (.ala (k := none) (i := 104) (j := 12) (sz := 1) (V := (g39 0 12)) rfl rfl rfl nofun)) (.cons (.r (.ala (k := none) (i := 104) (j := 13) (sz := 4) (V := (g39 0 13)) rfl rfl rfl nofun)) (.nil)))))))))))))))) (.cons (.one (.r .r)) (.nil))) rfl fun g40 => ?_
           refine RW.k XK 138 6 rfl ?_
           (conv=>whnf);intro b41;(conv=>whnf);refine ⟨rfl,?_⟩
           refine RW.keep 138 [6,7,8,10,11,14,16,107,108,109] rfl ?_;(conv=>whnf);refine ⟨?_⟩
           refine RW.pullA (k := 16) (l := 107) (j := 5) 16 107 5 rfl rfl rfl (by decide) rfl rfl rfl rfl ?_
           refine RW.keep 138 [6,7,8,10,11,14,16,107,108,109] rfl ?_;(conv=>whnf);refine ⟨?_⟩
           refine RW.pullA (k := 16) (l := 107) (j := 8) 16 107 8 rfl rfl rfl (by decide) rfl rfl rfl rfl ?_
           refine RW.keep 138 [6,7,8,10,11,14,16,107,108,109] rfl ?_;(conv=>whnf);refine ⟨?_⟩
           refine RW.pullA (k := 16) (l := 107) (j := 12) 16 107 12 rfl rfl rfl (by decide) rfl rfl rfl rfl ?_
           refine RW.keep 138 [6,7,8,10,11,14,16,107,108,109] rfl ?_;(conv=>whnf);refine ⟨?_⟩
           refine RW.pullA (k := 16) (l := 107) (j := 13) 16 107 13 rfl rfl rfl (by decide) rfl rfl rfl rfl ?_
           refine RW.keep 138 [6,7,8,10,11,14,16,108,109] rfl ?_;(conv=>whnf);refine ⟨?_⟩
           refine RW.assignMove rfl rfl rfl (by decide) (Nat.le_of_ble_eq_true rfl) (Nat.le_of_ble_eq_true rfl) ?_
           refine RW.k XK 138 1 rfl ?_
           (conv=>whnf);refine ⟨rfl,?_⟩
           refine RW.nil ?_
           refine CW.keep 138 [6,7,8,10,11,14,16,17,18] rfl ?_;(conv=>whnf);refine ⟨?_⟩
           refine CW.seq ?_
           refine CW.seqJ 138 (fun (v42 : Bool) => [(10, .obj b10 [I (((mkVNode ((tickN n limit).1) 1).1).id), I (((mkVNode ((tickN n limit).1) 1).1).term_), I (((mkVNode ((tickN n limit).1) 1).1).vote), I (((mkVNode ((tickN n limit).1) 1).1).role), I (((mkVNode ((tickN n limit).1) 1).1).lead), .w (sl 1 cI (((mkVNode ((tickN n limit).1) 1).1).conf)) (g9 0 5), I ((((mkVNode ((tickN n limit).1) 1).1).log).start), I ((((mkVNode ((tickN n limit).1) 1).1).log).startTerm), .w (sl 3 Entry.c ((((mkVNode ((tickN n limit).1) 1).1).log).entries)) (g9 0 8), I (((mkVNode ((tickN n limit).1) 1).1).commit), I (((mkVNode ((tickN n limit).1) 1).1).clock), I (((mkVNode ((tickN n limit).1) 1).1).limit), .w (sl 1 cI (((mkVNode ((tickN n limit).1) 1).1).votes)) (g9 0 12), .w (sl 4 Peer.c (((mkVNode ((tickN n limit).1) 1).1).peers)) (g9 0 13)]), (11, .w (sl 12 Message.c ((mkL mkEMessage ((tickN n limit).2.1) ((mkVNode ((tickN n limit).1) 1).2)).1)) (g9 1 0)), (14, I ((mkL mkEMessage ((tickN n limit).2.1) ((mkVNode ((tickN n limit).1) 1).2)).2)), (124, Bo v42)]) (fun v42 => v42 = (((!(eqNode ((tickN n limit).1) ((tickN n limit).1))) || (!(eqS eqMessage ((tickN n limit).2.1) ((tickN n limit).2.1)))) || (!(((tickN n limit).2.2) == ((tickN n limit).2.2))))) ?_ ?_
           ·refine CW.region ?_
            refine RW.k XK 138 2 rfl ?_
            (conv=>whnf);refine ⟨rfl,?_⟩
            refine RW.callOwn rfl (laws_eqNode_fn ((tickN n limit).1) ((tickN n limit).1)) rfl (.cons (.agg (.cons (.r .r) (.cons (.r .r) (.cons (.r .r) (.cons (.r .r) (.cons (.r .r) (.cons (.r (.alo (k := none) (i := 16) (j := 5) (sz := 1) (V := (g40 0 5)) rfl rfl rfl nofun)) (.cons (.r .r) (.cons (.r .r) (.cons (.r (.alo (k := none) (i := 16) (j := 8) (sz := 3) (V := (g40 0 8)) rfl rfl rfl nofun)) (.cons (.r .r) (.cons (.r .r) (.cons (.r .r) (.cons (.r (.alo (k := none) (i := 16) (j := 12) (sz := 1) (V := (g40 0 12)) rfl rfl rfl nofun)) (.cons (.r (.alo (k := none) (i := 16) (j := 13) (sz := 4) (V := (g40 0 13)) rfl rfl rfl nofun)) (.nil)))))))))))))))) (.cons (.agg (.cons (.r .r) (.cons (.r .r) (.cons (.r .r) (.cons (.r .r) (.cons (.r .r) (.cons (.r .r) (.cons (.r .r) (.cons (.r .r) (.cons (.r .r) (.cons (.r .r) (.cons (.r .r) (.cons (.r .r) (.cons (.r .r) (.cons (.r .r) (.nil)))))))))))))))) (.nil))) rfl fun g43 => ?_
            refine RW.k XK 138 2 rfl ?_
            (conv=>whnf);refine ⟨rfl,?_⟩
            refine RW.gv rfl rfl rfl rfl (fun h44 => V.mv (d := .al 17 none 12 (((tickN n limit).2.1).length) (g40 1 0) 0) rfl rfl) (fun h44 => ?_) (fun h44 => ?_)
            ·skip
             refine RW.k XK 138 1 rfl ?_
             (conv=>whnf);refine ⟨rfl,?_⟩
             refine RW.gcallOwn rfl rfl rfl rfl (laws_eqMessageS_fn ((tickN n limit).2.1) ((tickN n limit).2.1)) rfl (.cons (.one (.r (.al (k := none) (i := 17) (sz := 12) (V := (g40 1 0)) rfl rfl nofun))) (.cons (.one (.r (.al (k := none) (i := 7) (sz := 12) (V := (g5 1 0)) rfl rfl nofun))) (.nil))) rfl fun g45 => ?_
             refine RW.k XK 138 3 rfl ?_
             (conv=>whnf);refine ⟨rfl,?_⟩
             refine RW.gv rfl rfl rfl rfl (fun h46 => V.mv (d := Bo ((tickN n limit).2.2)) rfl rfl) (fun h46 => ?_) (fun h46 => ?_)
             ·skip
              refine RW.k XK 138 1 rfl ?_
              (conv=>whnf);refine ⟨rfl,?_⟩
              refine RW.gt rfl rfl rfl rfl (V.eqBool rfl rfl rfl (by kernel_rfl) (.inr ⟨rfl, rfl⟩)) ?_
              refine RW.k XK 138 1 rfl ?_
              (conv=>whnf);refine ⟨rfl,?_⟩
              refine RW.nil ?_
              exact ⟨_, by first | rfl | (simp_all; done) | (simp_all; omega) | grind, rfl, Le.of rfl⟩
             ·skip
              refine RW.k XK 138 3 rfl ?_
              (conv=>whnf);refine ⟨rfl,?_⟩
              refine RW.nil ?_
              exact ⟨_, by first | rfl | (simp_all; done) | (simp_all; omega) | grind, rfl, Le.of rfl⟩
            ·skip
             refine RW.k XK 138 9 rfl ?_
             (conv=>whnf);refine ⟨rfl,?_⟩
             refine RW.nil ?_
             exact ⟨_, by first | rfl | (simp_all; done) | (simp_all; omega) | grind, rfl, Le.of rfl⟩
           ·intro v42 hv47
            refine CW.cond rfl (fun h48 => ?_) (fun h48 => ?_)
            ·skip
             refine CW.k XK 138 1 [4] rfl ?_
             (conv=>whnf);refine ⟨rfl,?_⟩
             refine CW.ret ?_
             exact Post.one (RV.b rfl (by first | rfl | (exfalso; have p0 := mkVNode_facts hP; have p1 := mkNM_facts (okTick hP limit).1 (okTick hP limit).2; simp_all [eqNode_refl, eqS_refl eqMessage_refl]; done) | (exfalso; have p0 := mkVNode_facts hP; have p1 := mkNM_facts (okTick hP limit).1 (okTick hP limit).2; simp_all [eqNode_refl, eqS_refl eqMessage_refl]; omega))) (AOs.a rfl (AOs.r AOs.e))
            ·skip
             refine CW.skip ?_
             refine CW.keep 138 [10,11,14] rfl ?_;(conv=>whnf);refine ⟨?_⟩
             refine CW.k XK 138 1 [10,11,14,15] rfl ?_
             (conv=>whnf);refine ⟨rfl,?_⟩
             refine CW.seq ?_
             refine CW.region ?_
             refine RW.k XK 138 2 rfl ?_
             (conv=>whnf);refine ⟨rfl,?_⟩
             refine RW.callOwn rfl (laws_heldNode_fn ((mkVNode ((tickN n limit).1) 1).1) 1 (by decide)) rfl (.cons (.agg (.cons (.r .r) (.cons (.r .r) (.cons (.r .r) (.cons (.r .r) (.cons (.r .r) (.cons (.r (.alo (k := none) (i := 10) (j := 5) (sz := 1) (V := (g9 0 5)) rfl rfl rfl nofun)) (.cons (.r .r) (.cons (.r .r) (.cons (.r (.alo (k := none) (i := 10) (j := 8) (sz := 3) (V := (g9 0 8)) rfl rfl rfl nofun)) (.cons (.r .r) (.cons (.r .r) (.cons (.r .r) (.cons (.r (.alo (k := none) (i := 10) (j := 12) (sz := 1) (V := (g9 0 12)) rfl rfl rfl nofun)) (.cons (.r (.alo (k := none) (i := 10) (j := 13) (sz := 4) (V := (g9 0 13)) rfl rfl rfl nofun)) (.nil)))))))))))))))) (.cons (.one (.r .r)) (.nil))) rfl fun g49 => ?_
             refine RW.k XK 138 1 rfl ?_
             (conv=>whnf);refine ⟨rfl,?_⟩
             refine RW.nil ?_
             refine CW.keep 138 [11,14,15] rfl ?_;(conv=>whnf);refine ⟨?_⟩
             refine CW.seq ?_
             refine CW.k XK 138 1 [11,14,15,129] rfl ?_
             (conv=>whnf);refine ⟨rfl,?_⟩
             refine CW.cond rfl (fun h50 => ?_) (fun h50 => ?_)
             ·skip
              refine CW.k XK 138 1 [4] rfl ?_
              (conv=>whnf);refine ⟨rfl,?_⟩
              refine CW.ret ?_
              exact Post.one (RV.b rfl (by first | rfl | (exfalso; have p0 := mkVNode_facts hP; have p1 := mkNM_facts (okTick hP limit).1 (okTick hP limit).2; simp_all [eqNode_refl, eqS_refl eqMessage_refl]; done) | (exfalso; have p0 := mkVNode_facts hP; have p1 := mkNM_facts (okTick hP limit).1 (okTick hP limit).2; simp_all [eqNode_refl, eqS_refl eqMessage_refl]; omega))) (AOs.a rfl (AOs.r AOs.e))
             ·skip
              refine CW.skip ?_
              refine CW.keep 138 [11,14,15] rfl ?_;(conv=>whnf);refine ⟨?_⟩
              refine CW.seq ?_
              refine CW.region ?_
              refine RW.k XK 138 2 rfl ?_
              (conv=>whnf);refine ⟨rfl,?_⟩
              refine RW.callOwn rfl (laws_heldMessageS_fn ((mkL mkEMessage ((tickN n limit).2.1) ((mkVNode ((tickN n limit).1) 1).2)).1) ((hdVNode ((mkVNode ((tickN n limit).1) 1).1) 1).getD (-1)) (leD hdVNode_le (by decide))) rfl (.cons (.one (.r (.al (k := none) (i := 11) (sz := 12) (V := (g9 1 0)) rfl rfl nofun))) (.cons (.one (.r .r)) (.nil))) rfl fun g51 => ?_
              refine RW.k XK 138 1 rfl ?_
              (conv=>whnf);refine ⟨rfl,?_⟩
              refine RW.nil ?_
              refine CW.keep 138 [14,15] rfl ?_;(conv=>whnf);refine ⟨?_⟩
              refine CW.seq ?_
              refine CW.k XK 138 1 [14,15,134] rfl ?_
              (conv=>whnf);refine ⟨rfl,?_⟩
              refine CW.cond rfl (fun h52 => ?_) (fun h52 => ?_)
              ·skip
               refine CW.k XK 138 1 [4] rfl ?_
               (conv=>whnf);refine ⟨rfl,?_⟩
               refine CW.ret ?_
               exact Post.one (RV.b rfl (by first | rfl | (exfalso; have p0 := mkVNode_facts hP; have p1 := mkNM_facts (okTick hP limit).1 (okTick hP limit).2; simp_all [eqNode_refl, eqS_refl eqMessage_refl]; done) | (exfalso; have p0 := mkVNode_facts hP; have p1 := mkNM_facts (okTick hP limit).1 (okTick hP limit).2; simp_all [eqNode_refl, eqS_refl eqMessage_refl]; omega))) (AOs.a rfl (AOs.r AOs.e))
              ·skip
               refine CW.skip ?_
               refine CW.keep 138 [14,15] rfl ?_;(conv=>whnf);refine ⟨?_⟩
               refine CW.seq ?_
               refine CW.k XK 138 1 [137] rfl ?_
               (conv=>whnf);refine ⟨rfl,?_⟩
               refine CW.cond rfl (fun h53 => ?_) (fun h53 => ?_)
               ·skip
                refine CW.k XK 138 1 [4] rfl ?_
                (conv=>whnf);refine ⟨rfl,?_⟩
                refine CW.ret ?_
                exact Post.one (RV.b rfl (by first | rfl | (exfalso; have p0 := mkVNode_facts hP; have p1 := mkNM_facts (okTick hP limit).1 (okTick hP limit).2; simp_all [eqNode_refl, eqS_refl eqMessage_refl]; done) | (exfalso; have p0 := mkVNode_facts hP; have p1 := mkNM_facts (okTick hP limit).1 (okTick hP limit).2; simp_all [eqNode_refl, eqS_refl eqMessage_refl]; omega))) (AOs.a rfl (AOs.r AOs.e))
               ·skip
                refine CW.skip ?_
                refine CW.keep 138 [] rfl ?_;(conv=>whnf);refine ⟨?_⟩
                refine CW.k XK 138 1 [4] rfl ?_
                (conv=>whnf);refine ⟨rfl,?_⟩
                refine CW.ret ?_
                exact Post.one (RV.b rfl (by first | rfl | (exfalso; have p0 := mkVNode_facts hP; have p1 := mkNM_facts (okTick hP limit).1 (okTick hP limit).2; simp_all [eqNode_refl, eqS_refl eqMessage_refl]; done) | (exfalso; have p0 := mkVNode_facts hP; have p1 := mkNM_facts (okTick hP limit).1 (okTick hP limit).2; simp_all [eqNode_refl, eqS_refl eqMessage_refl]; omega))) (AOs.a rfl (AOs.r AOs.e))
end Go.Proofs.Ytbiocicogminlaa.Y
