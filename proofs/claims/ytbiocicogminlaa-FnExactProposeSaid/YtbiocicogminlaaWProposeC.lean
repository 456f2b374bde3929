import Derived.Test.YtbiocicogminlaaWProposeB
namespace Go.Proofs.Ytbiocicogminlaa.Y
open Go Go.RowKit Go.Eng Go.Proofs
set_option maxRecDepth 10000
theorem prop_v (n : Node) (kind : Int) (data : ByteArray) : (!(nodeOk n) || (n.role != 2) || !(entOk ⟨n.term_, kind, data⟩) || decide ((n.log.entries.length : Int) ≥ 60) || decide ((logLast n.log).1 ≥ 1000000)) = !(nodeOk n && n.role == 2 && entOk ⟨n.term_, kind, data⟩ && room n.log) := by
  have e1 : decide ((n.log.entries.length : Int) ≥ 60) = !decide ((n.log.entries.length : Int) < 60) := by by_cases h : (n.log.entries.length : Int) < 60 <;> simp [h] <;> omega
  have e2 : decide ((logLast n.log).1 ≥ 1000000) = !decide ((logLast n.log).1 < 1000000) := by by_cases h : (logLast n.log).1 < 1000000 <;> simp [h] <;> omega
  unfold room
  rw [e1, e2]
  cases nodeOk n <;> cases h : (n.role == 2) <;> cases entOk ⟨n.term_, kind, data⟩ <;> cases decide ((n.log.entries.length : Int) < 60) <;> cases decide ((logLast n.log).1 < 1000000) <;> simp [bne, h]
set_option maxHeartbeats 4000000 in
theorem impl_Propose_fn (n : Node) (kind : Int) (data : ByteArray) (hok : okToNode n) (hd : data.size ≤ 1048576) : Eng.Fn E.P 34 [.agg ((Node.c n).map .r), .one (.r (.v (.int .i64 kind))), .one (.r (.v (.string data)))] (.tup [.agg ((Node.c ((proposeN n kind data).1)).map .w), .one (.w (sl 12 Message.c ((proposeN n kind data).2.1))), .one (.w (.v (.int .i64 ((proposeN n kind data).2.2.1)))), .one (.w (.v (.bool ((proposeN n kind data).2.2.2))))]) [.agg ((Node.c n).map .r), .one (.r (.v (.int .i64 kind))), .one (.r (.v (.string data)))] := by
 refine Eng.Fn.intro (E := E) (rvs := [.cell 6 47, .tmp 7, .tmp 8, .tmp 9]) Try.func34 rfl rfl rfl (by simp [outSlots, moved, rvSlot, sl]) ?_
 intro B g bo
 refine CW.keep 115 [0,1,2] rfl ?_;(conv=>whnf);refine ⟨?_⟩
 refine CW.seq ?_
 refine CW.region ?_
 refine RW.k XK 115 1 rfl ?_
 (conv=>whnf);intro b1;(conv=>whnf);refine ⟨rfl,?_⟩
 refine RW.freezeB (ts := (Node.c n)) 3 rfl (DRd.r (DRd.r (DRd.r (DRd.r (DRd.r (DRd.r (DRd.r (DRd.r (DRd.r (DRd.r (DRd.r (DRd.r (DRd.r (DRd.r DRd.e)))))))))))))) ?_
 refine RW.k XK 115 4 rfl ?_
 (conv=>whnf);intro b2;(conv=>whnf);refine ⟨rfl,?_⟩
 refine RW.nil ?_
 refine CW.keep 115 [1,2,3,6] rfl ?_;(conv=>whnf);refine ⟨?_⟩
 refine CW.seq ?_
 refine CW.region ?_
 refine RW.k XK 115 2 rfl ?_
 (conv=>whnf);refine ⟨rfl,?_⟩
 refine RW.call rfl (impl_LogLast_fn n.log (hok.2.1)) rfl (.cons (.agg (.cons (.r .r) (.cons (.r .r) (.cons (.r .r) (.nil))))) (.nil)) fun g3 => ?_
 refine RW.k XK 115 5 rfl ?_
 (conv=>whnf);refine ⟨rfl,?_⟩
 refine RW.nil ?_
 refine CW.keep 115 [1,2,3,6,10] rfl ?_;(conv=>whnf);refine ⟨?_⟩
 refine CW.seq ?_
 refine CW.region ?_
 refine RW.k XK 115 7 rfl ?_
 (conv=>whnf);intro b4;(conv=>whnf);refine ⟨rfl,?_⟩
 refine RW.freezeB (ts := [.v (.int .i64 n.term_), .v (.int .i64 kind), .v (.string data)]) 12 rfl (DRd.r (DRd.r (DRd.r DRd.e))) ?_
 refine RW.nil ?_
 refine CW.keep 115 [1,2,3,6,10,12] rfl ?_;(conv=>whnf);refine ⟨?_⟩
 refine CW.seq ?_
 refine CW.seqJ 115 (fun (v5 : Bool) => [(1, I kind), (2, S data), (3, .rp (Node.c n)), (6, .obj b2 [I 0, I 0, I 0, I 0, I 0, .r (.v (.slice none 0 0)), I 0, I 0, .r (.v (.slice none 0 0)), I 0, I 0, I 0, .r (.v (.slice none 0 0)), .r (.v (.slice none 0 0))]), (10, I ((logLast n.log).1)), (12, .rp [.v (.int .i64 n.term_), .v (.int .i64 kind), .v (.string data)]), (52, Bo v5)]) (fun v5 => v5 = (((((!(nodeOk n)) || (n.role != 2)) || (!(entOk (⟨n.term_, kind, data⟩ : Entry)))) || decide ((n.log.entries.length : Int) ≥ 60)) || decide (((logLast n.log).1) ≥ 1000000))) ?_ ?_
 ·refine CW.region ?_
  refine RW.k XK 115 1 rfl ?_
  (conv=>whnf);refine ⟨rfl,?_⟩
  refine RW.call rfl (impl_NodeOk_fn n hok) rfl (.cons (.agg (.cons (.r .r) (.cons (.r .r) (.cons (.r .r) (.cons (.r .r) (.cons (.r .r) (.cons (.r .r) (.cons (.r .r) (.cons (.r .r) (.cons (.r .r) (.cons (.r .r) (.cons (.r .r) (.cons (.r .r) (.cons (.r .r) (.cons (.r .r) (.nil)))))))))))))))) (.nil)) fun g6 => ?_
  refine RW.k XK 115 2 rfl ?_
  (conv=>whnf);refine ⟨rfl,?_⟩
  refine RW.gv rfl rfl rfl rfl (fun h7 => V.fieldR rfl rfl rfl rfl (by decide) rfl (Nat.le_of_ble_eq_true rfl)) (fun h7 => ?_) (fun h7 => ?_)
  ·skip
   refine RW.k XK 115 4 rfl ?_
   (conv=>whnf);refine ⟨rfl,?_⟩
   refine RW.gv rfl rfl rfl rfl (fun h8 => V.loadAggR rfl rfl rfl rfl (Nat.le_of_ble_eq_true rfl)) (fun h8 => ?_) (fun h8 => ?_)
   ·skip
    refine RW.gcall rfl rfl rfl rfl (impl_EntryOk_fn (⟨n.term_, kind, data⟩ : Entry) hd) rfl (.cons (.agg (.cons (.r .r) (.cons (.r .r) (.cons (.r .r) (.nil))))) (.nil)) fun g9 => ?_
    refine RW.k XK 115 3 rfl ?_
    (conv=>whnf);refine ⟨rfl,?_⟩
    refine RW.gv rfl rfl rfl rfl (fun h10 => V.fieldR rfl rfl rfl rfl (by decide) rfl (Nat.le_of_ble_eq_true rfl)) (fun h10 => ?_) (fun h10 => ?_)
    ·skip
     refine RW.k XK 115 6 rfl ?_
     (conv=>whnf);refine ⟨rfl,?_⟩
     refine RW.gv rfl rfl rfl rfl (fun h11 => V.mv (d := I ((logLast n.log).1)) rfl rfl) (fun h11 => ?_) (fun h11 => ?_)
     ·skip
      refine RW.k XK 115 2 rfl ?_
      (conv=>whnf);refine ⟨rfl,?_⟩
      refine RW.nil ?_
      exact ⟨_, by first | rfl | (simp_all; done) | (simp_all; omega) | grind, rfl, Le.of rfl⟩
     ·skip
      refine RW.k XK 115 2 rfl ?_
      (conv=>whnf);refine ⟨rfl,?_⟩
      refine RW.nil ?_
      exact ⟨_, by first | rfl | (simp_all; done) | (simp_all; omega) | grind, rfl, Le.of rfl⟩
    ·skip
     refine RW.k XK 115 9 rfl ?_
     (conv=>whnf);refine ⟨rfl,?_⟩
     refine RW.nil ?_
     exact ⟨_, by first | rfl | (simp_all; done) | (simp_all; omega) | grind, rfl, Le.of rfl⟩
   ·skip
    refine RW.k XK 115 14 rfl ?_
    (conv=>whnf);refine ⟨rfl,?_⟩
    refine RW.nil ?_
    exact ⟨_, by first | rfl | (simp_all; done) | (simp_all; omega) | grind, rfl, Le.of rfl⟩
  ·skip
   refine RW.k XK 115 19 rfl ?_
   (conv=>whnf);refine ⟨rfl,?_⟩
   refine RW.nil ?_
   exact ⟨_, by first | rfl | (simp_all; done) | (simp_all; omega) | grind, rfl, Le.of rfl⟩
 ·intro v5 hv12
  refine CW.cond rfl (fun h13 => ?_) (fun h13 => ?_)
  ·skip
   have hbad : (nodeOk n && n.role == 2 && entOk ⟨n.term_, kind, data⟩ && room n.log) = false := by have h9 := (prop_v n kind data).symm.trans (hv12.symm.trans h13); rwa [Bool.not_eq_true'] at h9
   refine CW.k XK 115 1 [6,7,8,9] rfl ?_
   (conv=>whnf);refine ⟨rfl,?_⟩
   refine CW.ret ?_
   exact Post.tup (by decide) (RVs.c (RV.c (f := fun e => (Node.c e).map .w) (e' := (⟨0, 0, 0, 0, 0, [], (⟨0, 0, []⟩ : Log), 0, 0, 0, [], []⟩ : Node)) rfl rfl rfl rfl (DT.v (DT.v (DT.v (DT.v (DT.v (DT.n (DT.v (DT.v (DT.n (DT.v (DT.v (DT.v (DT.n (DT.n DT.e)))))))))))))) (by first | (rw [prop_bad hbad]; done) | (rw [prop_bad hbad]; rfl))) (RVs.c (RV.n rfl (by first | (rw [prop_bad hbad]; done) | (rw [prop_bad hbad]; rfl))) (RVs.c (RV.i rfl (by first | (rw [prop_bad hbad]; done) | (rw [prop_bad hbad]; rfl))) (RVs.c (RV.b rfl (by first | (rw [prop_bad hbad]; done) | (rw [prop_bad hbad]; rfl))) RVs.e)))) (AOs.a rfl (AOs.r (AOs.r AOs.e)))
  ·skip
   have hgd : (nodeOk n && n.role == 2 && entOk ⟨n.term_, kind, data⟩ && room n.log) = true := by have h9 := (prop_v n kind data).symm.trans (hv12.symm.trans h13); simpa using h9
   have hgd2 := hgd
   simp only [Bool.and_eq_true] at hgd2
   have hn := hgd2.1.1.1
   have hr2 : n.role = 2 := by simpa using hgd2.1.1.2
   have hl : logB n.log := logOk_hs (nodeOk_in hn).1
   have htm : 0 ≤ n.term_ := by have h9 := (nodeOk_in hn).2.1; unfold inR at h9; simp at h9; omega
   have hr60 : n.log.entries.length < 60 := by have h9 := hgd2.2; unfold room at h9; simp at h9; omega
   have hcm : n.commit ≤ 9223372036854775807 := by have h9 := (nodeOk_facts hn).2.2.1; rw [logLast_1 hl] at h9; unfold inR at h9; simp at h9; have h8 := hl.2.1; omega
   have hps := nodeOk_peers hn hl hr2
   have hOut : okToNode (outP n kind data) := outP_ok hok hr60 hd
   refine CW.skip ?_
   refine CW.keep 115 [1,2,3,6,10,12] rfl ?_;(conv=>whnf);refine ⟨?_⟩
   refine CW.seq ?_
   refine CW.seqJ 115 (fun (v14 : Bool) => [(1, I kind), (3, .rp (Node.c n)), (6, .obj b2 [I 0, I 0, I 0, I 0, I 0, .r (.v (.slice none 0 0)), I 0, I 0, .r (.v (.slice none 0 0)), I 0, I 0, I 0, .r (.v (.slice none 0 0)), .r (.v (.slice none 0 0))]), (10, I ((logLast n.log).1)), (12, .rp [.v (.int .i64 n.term_), .v (.int .i64 kind), .v (.string data)]), (61, Bo v14)]) (fun v14 => v14 = ((kind == 2) && (!(mayTurn n data)))) ?_ ?_
   ·refine CW.region ?_
    refine RW.k XK 115 3 rfl ?_
    (conv=>whnf);refine ⟨rfl,?_⟩
    refine RW.gv rfl rfl rfl rfl (fun h15 => V.loadAggR rfl rfl rfl rfl (Nat.le_of_ble_eq_true rfl)) (fun h15 => ?_) (fun h15 => ?_)
    ·skip
     refine RW.k XK 115 1 rfl ?_
     (conv=>whnf);refine ⟨rfl,?_⟩
     refine RW.gcall rfl rfl rfl rfl (impl_mayTurn_fn n data hok hl hcm hd) rfl (.cons (.agg (.cons (.r .r) (.cons (.r .r) (.cons (.r .r) (.cons (.r .r) (.cons (.r .r) (.cons (.r .r) (.cons (.r .r) (.cons (.r .r) (.cons (.r .r) (.cons (.r .r) (.cons (.r .r) (.cons (.r .r) (.cons (.r .r) (.cons (.r .r) (.nil)))))))))))))))) (.cons (.one (.r .r)) (.nil))) fun g16 => ?_
     refine RW.k XK 115 2 rfl ?_
     (conv=>whnf);refine ⟨rfl,?_⟩
     refine RW.nil ?_
     exact ⟨_, by first | rfl | (simp_all; done) | (simp_all; omega) | grind, rfl, Le.of rfl⟩
    ·skip
     refine RW.k XK 115 4 rfl ?_
     (conv=>whnf);refine ⟨rfl,?_⟩
     refine RW.nil ?_
     exact ⟨_, by first | rfl | (simp_all; done) | (simp_all; omega) | grind, rfl, Le.of rfl⟩
   ·intro v14 hv17
    refine CW.cond rfl (fun h18 => ?_) (fun h18 => ?_)
    ·skip
     have hno : (kind == 2 && !mayTurn n data) = true := hv17.symm.trans h18
     refine CW.k XK 115 1 [6,7,8,9] rfl ?_
     (conv=>whnf);refine ⟨rfl,?_⟩
     refine CW.ret ?_
     exact Post.tup (by decide) (RVs.c (RV.c (f := fun e => (Node.c e).map .w) (e' := (⟨0, 0, 0, 0, 0, [], (⟨0, 0, []⟩ : Log), 0, 0, 0, [], []⟩ : Node)) rfl rfl rfl rfl (DT.v (DT.v (DT.v (DT.v (DT.v (DT.n (DT.v (DT.v (DT.n (DT.v (DT.v (DT.v (DT.n (DT.n DT.e)))))))))))))) (by first | (rw [prop_no hgd hno]; done) | (rw [prop_no hgd hno]; rfl))) (RVs.c (RV.n rfl (by first | (rw [prop_no hgd hno]; done) | (rw [prop_no hgd hno]; rfl))) (RVs.c (RV.i rfl (by first | (rw [prop_no hgd hno]; done) | (rw [prop_no hgd hno]; rfl))) (RVs.c (RV.b rfl (by first | (rw [prop_no hgd hno]; done) | (rw [prop_no hgd hno]; rfl))) RVs.e)))) (AOs.a rfl (AOs.r (AOs.r AOs.e)))
    ·skip
     have hyes : (kind == 2 && !mayTurn n data) = false := hv17.symm.trans h18
     refine CW.skip ?_
     refine CW.keep 115 [1,3,6,10,12] rfl ?_;(conv=>whnf);refine ⟨?_⟩
     refine CW.seq ?_
     refine CW.region ?_
     refine RW.k XK 115 1 rfl ?_
     (conv=>whnf);refine ⟨rfl,?_⟩
     refine RW.call rfl (impl_copyNode_fn n hok) rfl (.cons (.agg (.cons (.r .r) (.cons (.r .r) (.cons (.r .r) (.cons (.r .r) (.cons (.r .r) (.cons (.r .r) (.cons (.r .r) (.cons (.r .r) (.cons (.r .r) (.cons (.r .r) (.cons (.r .r) (.cons (.r .r) (.cons (.r .r) (.cons (.r .r) (.nil)))))))))))))))) (.nil)) fun g19 => ?_
     refine RW.k XK 115 2 rfl ?_
     (conv=>whnf);intro b20;(conv=>whnf);refine ⟨rfl,?_⟩
     refine RW.keep 115 [1,3,6,10,12,13,64] rfl ?_;(conv=>whnf);refine ⟨?_⟩
     refine RW.pullA (k := 13) (l := 64) (j := 5) 13 64 5 rfl rfl rfl (by decide) rfl rfl rfl rfl ?_
     refine RW.keep 115 [1,3,6,10,12,13,64] rfl ?_;(conv=>whnf);refine ⟨?_⟩
     refine RW.pullA (k := 13) (l := 64) (j := 8) 13 64 8 rfl rfl rfl (by decide) rfl rfl rfl rfl ?_
     refine RW.keep 115 [1,3,6,10,12,13,64] rfl ?_;(conv=>whnf);refine ⟨?_⟩
     refine RW.pullA (k := 13) (l := 64) (j := 12) 13 64 12 rfl rfl rfl (by decide) rfl rfl rfl rfl ?_
     refine RW.keep 115 [1,3,6,10,12,13,64] rfl ?_;(conv=>whnf);refine ⟨?_⟩
     refine RW.pullA (k := 13) (l := 64) (j := 13) 13 64 13 rfl rfl rfl (by decide) rfl rfl rfl rfl ?_
     refine RW.keep 115 [1,3,6,10,12,13] rfl ?_;(conv=>whnf);refine ⟨?_⟩
     refine RW.nil ?_
     refine CW.keep 115 [1,3,6,10,12,13] rfl ?_;(conv=>whnf);refine ⟨?_⟩
     refine CW.seq ?_
     refine CW.region ?_
     refine RW.k XK 115 4 rfl ?_
     (conv=>whnf);refine ⟨rfl,?_⟩
     refine RW.build1 (c := Entry.c) (v := (⟨n.term_, kind, data⟩ : Entry)) rfl rfl rfl rfl rfl rfl (DW.v (DW.v (DW.v DW.e))) Entry.len (by decide) (by decide) fun X21 => ?_
     refine RW.takeO 67 13 8 (by decide) rfl rfl rfl ?_
     refine RW.appendSR (c := Entry.c) (l1 := n.log.entries) (l2 := [(⟨n.term_, kind, data⟩ : Entry)]) rfl rfl rfl rfl rfl rfl rfl rfl (.al (k := none) (i := 69) (sz := 3) (V := X21) rfl rfl nofun) (by decide) (Nat.le_of_ble_eq_true rfl) Entry.len (fun _ => rfl) rfl (by first | (simp only [maxLen, List.length_singleton]; omega) | (simp only [maxLen, List.length_append, List.length_map, List.length_take, List.length_singleton]; omega)) (by first | (simp only [maxLen, List.length_singleton]; omega) | (simp only [maxLen, List.length_append, List.length_map, List.length_take, List.length_singleton]; omega)) fun X22 => ?_
     refine RW.k XK 115 3 rfl ?_
     (conv=>whnf);refine ⟨rfl,?_⟩
     refine RW.keep 115 [1,3,6,10,13,70] rfl ?_;(conv=>whnf);refine ⟨?_⟩
     refine RW.pullT (k := 13) (l := 70) (j := 8) 13 70 8 rfl rfl rfl (by decide) rfl rfl rfl ?_
     refine RW.keep 115 [1,3,6,10,13] rfl ?_;(conv=>whnf);refine ⟨?_⟩
     refine RW.nil ?_
     refine CW.keep 115 [1,3,6,10,13] rfl ?_;(conv=>whnf);refine ⟨?_⟩
     refine CW.seq ?_
     refine CW.k XK 115 1 [3,6,10,13,74] rfl ?_
     (conv=>whnf);refine ⟨rfl,?_⟩
     refine CW.cond rfl (fun h23 => ?_) (fun h23 => ?_)
     ·skip
      refine CW.seq ?_
      refine CW.region ?_
      refine RW.build0 Peer.c rfl rfl rfl rfl rfl fun X24 => ?_
      refine RW.assignMove rfl rfl rfl (by decide) (Nat.le_of_ble_eq_true rfl) (Nat.le_of_ble_eq_true rfl) ?_
      refine RW.nil ?_
      refine CW.keep 115 [3,6,10,13,14] rfl ?_;(conv=>whnf);refine ⟨?_⟩
      refine CW.seq ?_
      refine CW.anyJ2 (fc := [(6, b2, [.int .i64 0, .int .i64 0, .int .i64 0, .int .i64 0, .int .i64 0, .slice none 0 0, .int .i64 0, .int .i64 0, .slice none 0 0, .int .i64 0, .int .i64 0, .int .i64 0, .slice none 0 0, .slice none 0 0]), (13, b20, [.int .i64 n.id, .int .i64 n.term_, .int .i64 n.vote, .int .i64 n.role, .int .i64 n.lead, (g19 0 5), .int .i64 n.log.start, .int .i64 n.log.startTerm, X22, .int .i64 n.commit, .int .i64 n.clock, .int .i64 n.limit, (g19 0 12), (g19 0 13)])]) (L0 := [(3, .rp (Node.c n)), (6, .obj b2 [I 0, I 0, I 0, I 0, I 0, .r (.v (.slice none 0 0)), I 0, I 0, .r (.v (.slice none 0 0)), I 0, I 0, I 0, .r (.v (.slice none 0 0)), .r (.v (.slice none 0 0))]), (10, I ((logLast n.log).1)), (13, .obj b20 [I n.id, I n.term_, I n.vote, I n.role, I n.lead, .w (sl 1 cI n.conf) (g19 0 5), I n.log.start, I n.log.startTerm, .w (sl 3 Entry.c (n.log.entries ++ ([(⟨n.term_, kind, data⟩ : Entry)]))) X22, I n.commit, I n.clock, I n.limit, .w (sl 1 cI n.votes) (g19 0 12), .w (sl 4 Peer.c n.peers) (g19 0 13)]), (14, .w (sl 4 Peer.c ([] : List Peer)) X24)]) 115 (fun (zz : (Nat → Nat → Value) × (Nat → Nat → Value)) => match zz with | (go25_1_1, go25_4_1) => [(80, .w (sl 1 cI (others ((lastC (⟨n.id, n.term_, n.vote, n.role, n.lead, n.conf, (⟨n.log.start, n.log.startTerm, (n.log.entries ++ ([(⟨n.term_, kind, data⟩ : Entry)]))⟩ : Log), n.commit, n.clock, n.limit, n.votes, n.peers⟩ : Node) (logLast (⟨n.id, n.term_, n.vote, n.role, n.lead, n.conf, (⟨n.log.start, n.log.startTerm, (n.log.entries ++ ([(⟨n.term_, kind, data⟩ : Entry)]))⟩ : Log), n.commit, n.clock, n.limit, n.votes, n.peers⟩ : Node).log).1).2) n.id)) (go25_4_1 0 0)), (81, I ((others ((lastC (⟨n.id, n.term_, n.vote, n.role, n.lead, n.conf, (⟨n.log.start, n.log.startTerm, (n.log.entries ++ ([(⟨n.term_, kind, data⟩ : Entry)]))⟩ : Log), n.commit, n.clock, n.limit, n.votes, n.peers⟩ : Node) (logLast (⟨n.id, n.term_, n.vote, n.role, n.lead, n.conf, (⟨n.log.start, n.log.startTerm, (n.log.entries ++ ([(⟨n.term_, kind, data⟩ : Entry)]))⟩ : Log), n.commit, n.clock, n.limit, n.votes, n.peers⟩ : Node).log).1).2) n.id).length : Int)), (82, I 0)]) (fun all hall f hf b0 hb K hK => ?_) ?_
      ·skip
       have ro25_2 : ∀ B, ∀ (go25_1_1 : Nat → Nat → Value), ∀ (go25_4_1 : Nat → Nat → Value), RA f E B all 0 (bt 7 127) ⟨115, [(80, .w (sl 1 cI (others ((lastC (⟨n.id, n.term_, n.vote, n.role, n.lead, n.conf, (⟨n.log.start, n.log.startTerm, (n.log.entries ++ ([(⟨n.term_, kind, data⟩ : Entry)]))⟩ : Log), n.commit, n.clock, n.limit, n.votes, n.peers⟩ : Node) (logLast (⟨n.id, n.term_, n.vote, n.role, n.lead, n.conf, (⟨n.log.start, n.log.startTerm, (n.log.entries ++ ([(⟨n.term_, kind, data⟩ : Entry)]))⟩ : Log), n.commit, n.clock, n.limit, n.votes, n.peers⟩ : Node).log).1).2) n.id)) (go25_4_1 0 0)), (81, I ((others ((lastC (⟨n.id, n.term_, n.vote, n.role, n.lead, n.conf, (⟨n.log.start, n.log.startTerm, (n.log.entries ++ ([(⟨n.term_, kind, data⟩ : Entry)]))⟩ : Log), n.commit, n.clock, n.limit, n.votes, n.peers⟩ : Node) (logLast (⟨n.id, n.term_, n.vote, n.role, n.lead, n.conf, (⟨n.log.start, n.log.startTerm, (n.log.entries ++ ([(⟨n.term_, kind, data⟩ : Entry)]))⟩ : Log), n.commit, n.clock, n.limit, n.votes, n.peers⟩ : Node).log).1).2) n.id).length : Int)), (82, I 0)] ++ b0⟩ K := by
        intro B go25_1_1 go25_4_1
        exact RA.of2 hall hf hb (RA.finH (Tell.of rfl) (by kernel_rfl) (hK (go25_1_1, go25_4_1) _ rfl (Le.of rfl)))
       have ro25_1 : ∀ B, ∀ (go25_1_1 : Nat → Nat → Value), RA f E B all 2 (bt 7 79) ⟨115, [(77, .w (sl 1 cI ((lastC (⟨n.id, n.term_, n.vote, n.role, n.lead, n.conf, (⟨n.log.start, n.log.startTerm, (n.log.entries ++ ([(⟨n.term_, kind, data⟩ : Entry)]))⟩ : Log), n.commit, n.clock, n.limit, n.votes, n.peers⟩ : Node) (logLast (⟨n.id, n.term_, n.vote, n.role, n.lead, n.conf, (⟨n.log.start, n.log.startTerm, (n.log.entries ++ ([(⟨n.term_, kind, data⟩ : Entry)]))⟩ : Log), n.commit, n.clock, n.limit, n.votes, n.peers⟩ : Node).log).1).2)) (go25_1_1 0 0)), (79, I n.id), (82, I 0)] ++ b0⟩ K := by
        intro B go25_1_1
        refine RA.of2 hall hf hb (RA.stepH (L := [4]) (Tell.of rfl) (by kernel_rfl) (by simp) (RA.each ?_ (RA.each0)))
        ·skip
         refine RO.callOwn rfl rfl (impl_without_fn ((lastC (⟨n.id, n.term_, n.vote, n.role, n.lead, n.conf, (⟨n.log.start, n.log.startTerm, (n.log.entries ++ ([(⟨n.term_, kind, data⟩ : Entry)]))⟩ : Log), n.commit, n.clock, n.limit, n.votes, n.peers⟩ : Node) (logLast (⟨n.id, n.term_, n.vote, n.role, n.lead, n.conf, (⟨n.log.start, n.log.startTerm, (n.log.entries ++ ([(⟨n.term_, kind, data⟩ : Entry)]))⟩ : Log), n.commit, n.clock, n.limit, n.votes, n.peers⟩ : Node).log).1).2) n.id (lastC_len hOut _)) rfl (.cons (.one (.r (.al (k := none) (i := 77) (sz := 1) (V := (go25_1_1 0 0)) rfl rfl nofun))) (.cons (.one (.r .r)) (.nil))) rfl rfl fun go25_4_1 => ?_
         refine RA.fr XK 115 0 [5] (bt 7 127) rfl rfl (by kernel_rfl) (Tell.of rfl) ?_
         (conv=>whnf);refine ⟨rfl,fun B=>?_⟩
         exact RA.to2 hall hf hb (ro25_2 B go25_1_1 go25_4_1) rfl rfl (by kernel_rfl)
       have ro25_0 : ∀ B, RA f E B all 3 (bt 7 77) ⟨115, [(76, .agg [I n.id, I n.term_, I n.vote, I n.role, I n.lead, .al 13 (some 5) 1 n.conf.length (g19 0 5) 0, I n.log.start, I n.log.startTerm, .al 13 (some 8) 3 ((n.log.entries ++ ([(⟨n.term_, kind, data⟩ : Entry)])).length) X22 0, I n.commit, I n.clock, I n.limit, .al 13 (some 12) 1 n.votes.length (g19 0 12) 0, .al 13 (some 13) 4 n.peers.length (g19 0 13) 0]), (79, I n.id), (82, I 0)] ++ b0⟩ K := by
        intro B
        refine RA.of2 hall hf hb (RA.stepH (L := [1]) (Tell.of rfl) (by kernel_rfl) (by simp) (RA.each ?_ (RA.each0)))
        ·skip
         refine RO.callOwn rfl rfl (impl_ConfOf_fn (⟨n.id, n.term_, n.vote, n.role, n.lead, n.conf, (⟨n.log.start, n.log.startTerm, (n.log.entries ++ ([(⟨n.term_, kind, data⟩ : Entry)]))⟩ : Log), n.commit, n.clock, n.limit, n.votes, n.peers⟩ : Node) hOut) rfl (.cons (.agg (.cons (.r .r) (.cons (.r .r) (.cons (.r .r) (.cons (.r .r) (.cons (.r .r) (.cons (.r (.alo (k := none) (i := 13) (j := 5) (sz := 1) (V := (g19 0 5)) rfl rfl rfl nofun)) (.cons (.r .r) (.cons (.r .r) (.cons (.r (.alo (k := none) (i := 13) (j := 8) (sz := 3) (V := X22) rfl rfl rfl nofun)) (.cons (.r .r) (.cons (.r .r) (.cons (.r .r) (.cons (.r (.alo (k := none) (i := 13) (j := 12) (sz := 1) (V := (g19 0 12)) rfl rfl rfl nofun)) (.cons (.r (.alo (k := none) (i := 13) (j := 13) (sz := 4) (V := (g19 0 13)) rfl rfl rfl nofun)) (.nil)))))))))))))))) (.nil)) rfl rfl fun go25_1_1 => ?_
         exact RA.to2 hall hf hb (ro25_1 B go25_1_1) rfl rfl (by kernel_rfl)
       refine RA.start (by kernel_rfl) (by kernel_rfl) (m := 7) (ls' := (bt 7 0)) ?_
       refine RA.fr XK 115 3 [0,2,3,6] (bt 7 77) rfl rfl (by kernel_rfl) (Tell.of rfl) ?_
       (conv=>whnf);refine ⟨rfl,fun B=>?_⟩
       exact RA.to2 hall hf hb (ro25_0 B) rfl rfl (by kernel_rfl)
      ·rintro ⟨go25_1_1, go25_4_1⟩
       obtain ⟨L26, hn27⟩ : ∃ z : List Int, z = others ((lastC (⟨n.id, n.term_, n.vote, n.role, n.lead, n.conf, (⟨n.log.start, n.log.startTerm, (n.log.entries ++ ([(⟨n.term_, kind, data⟩ : Entry)]))⟩ : Log), n.commit, n.clock, n.limit, n.votes, n.peers⟩ : Node) (logLast (⟨n.id, n.term_, n.vote, n.role, n.lead, n.conf, (⟨n.log.start, n.log.startTerm, (n.log.entries ++ ([(⟨n.term_, kind, data⟩ : Entry)]))⟩ : Log), n.commit, n.clock, n.limit, n.votes, n.peers⟩ : Node).log).1).2) n.id := ⟨_, rfl⟩
       refine CW.le [(3, .rp (Node.c n)), (6, .obj b2 [I 0, I 0, I 0, I 0, I 0, .r (.v (.slice none 0 0)), I 0, I 0, .r (.v (.slice none 0 0)), I 0, I 0, I 0, .r (.v (.slice none 0 0)), .r (.v (.slice none 0 0))]), (10, I ((logLast n.log).1)), (13, .obj b20 [I n.id, I n.term_, I n.vote, I n.role, I n.lead, .w (sl 1 cI n.conf) (g19 0 5), I n.log.start, I n.log.startTerm, .w (sl 3 Entry.c (n.log.entries ++ ([(⟨n.term_, kind, data⟩ : Entry)]))) X22, I n.commit, I n.clock, I n.limit, .w (sl 1 cI n.votes) (g19 0 12), .w (sl 4 Peer.c n.peers) (g19 0 13)]), (14, .w (sl 4 Peer.c ([] : List Peer)) X24), (80, .w (sl 1 cI L26) (go25_4_1 0 0)), (81, I (L26.length : Int)), (82, I 0)] rfl (Le.c rfl <| Le.c rfl <| Le.c rfl <| Le.c rfl <| Le.c rfl <| Le.c (by subst hn27; rfl) <| Le.c (by subst hn27; rfl) <| Le.c rfl <| Le.e) ?_
       refine CW.block ?_
       refine CW.loopI 115 (fun (zz : Nat × Value) => match zz with | (i, X) => [(3, .rp (Node.c n)), (6, .obj b2 [I 0, I 0, I 0, I 0, I 0, .r (.v (.slice none 0 0)), I 0, I 0, .r (.v (.slice none 0 0)), I 0, I 0, I 0, .r (.v (.slice none 0 0)), .r (.v (.slice none 0 0))]), (10, I ((logLast n.log).1)), (13, .obj b20 [I n.id, I n.term_, I n.vote, I n.role, I n.lead, .w (sl 1 cI n.conf) (g19 0 5), I n.log.start, I n.log.startTerm, .w (sl 3 Entry.c (n.log.entries ++ ([(⟨n.term_, kind, data⟩ : Entry)]))) X22, I n.commit, I n.clock, I n.limit, .w (sl 1 cI n.votes) (g19 0 12), .w (sl 4 Peer.c n.peers) (g19 0 13)]), (14, .w (sl 4 Peer.c ((L26.take i).map (pickP n))) X), (80, .w (sl 1 cI L26) (go25_4_1 0 0)), (81, I (L26.length : Int)), (82, I (i : Int))]) (fun (zz : Nat × Value) => match zz with | (i, X) => i ≤ L26.length) (fun (zz : Nat × Value) => match zz with | (i, X) => L26.length - i) (0, _) rfl (Le.c rfl <| Le.c rfl <| Le.c rfl <| Le.c rfl <| Le.c rfl <| Le.c rfl <| Le.c rfl <| Le.c rfl <| Le.e) (by omega) ?_
       rintro ⟨i, X⟩ hb
       have hlL : L26.length ≤ 1048576 := by rw [hn27]; exact Nat.le_trans (others_len _ _) (lastC_len hOut _)
       have hl0 : L26.length ≤ maxLen := Nat.le_trans hlL (by decide)
       refine CW.k XK 115 1 [3,6,10,13,14,80,81,82,83] rfl ?_
       (conv=>whnf);refine ⟨rfl,?_⟩
       refine CW.seq ?_
       refine CW.cond rfl (fun h28 => ?_) (fun h28 => ?_)
       ·skip
        have hii : i < L26.length := by have := h28; simp at this; first | exact this | omega | (simp; done) | (simp; omega)
        obtain ⟨ei, hei⟩ : ∃ e, L26[i]? = some e := ⟨_, List.getElem?_eq_getElem hii⟩
        have hdi := drop_get hei
        refine CW.skip ?_
        refine CW.keep 115 [3,6,10,13,14,80,81,82] rfl ?_;(conv=>whnf);refine ⟨?_⟩
        refine CW.seq ?_
        refine CW.block ?_
        refine CW.seq ?_
        refine CW.region ?_
        refine RW.v rfl (V.indexW rfl rfl rfl rfl rfl rfl rfl hii) ?_
        refine RW.v rfl (V.loadF (m := i) (off := 0) rfl rfl (.inl rfl) rfl rfl cI.len hei (by decide) rfl) ?_
        refine RW.k XK 115 2 rfl ?_
        (conv=>whnf);intro b29;(conv=>whnf);refine ⟨rfl,?_⟩
        refine RW.nil ?_
        refine CW.keep 115 [3,6,10,13,14,16,80,81,82] rfl ?_;(conv=>whnf);refine ⟨?_⟩
        refine CW.seq ?_
        refine CW.region ?_
        refine RW.k XK 115 2 rfl ?_
        (conv=>whnf);refine ⟨rfl,?_⟩
        refine RW.freezeB (ts := [.v (.int .i64 ei)]) 16 rfl (DRd.r DRd.e) ?_
        refine RW.v rfl (V.mkFunc rfl rfl) ?_
        refine RW.call rfl (impl_Peer__fn n.peers 100 ([.v (.int .i64 ei)]) (fun p => p.id == ei) (fun p => impl_Propose_1_fn p ei)) rfl (.cons (.one (.r .r)) (.cons (.one (.r .r)) (.nil))) fun g30 => ?_
        refine RW.k XK 115 1 rfl ?_
        (conv=>whnf);refine ⟨rfl,?_⟩
        refine RW.nil ?_
        refine CW.keep 115 [3,6,10,13,14,16,17,80,81,82] rfl ?_;(conv=>whnf);refine ⟨?_⟩
        refine CW.k XK 115 1 [3,6,10,13,14,16,17,80,81,82,91] rfl ?_
        (conv=>whnf);refine ⟨rfl,?_⟩
        refine CW.cond rfl (fun h31 => ?_) (fun h31 => ?_)
        ·skip
         have hfd := idxF_neg (p := fun p : Peer => p.id == ei) (a := n.peers) (by simpa using h31)
         refine CW.region ?_
         refine RW.k XK 115 5 rfl ?_
         (conv=>whnf);refine ⟨rfl,?_⟩
         refine RW.build1 (c := Peer.c) (v := (⟨ei, (IntKind.i64.wrap (((logLast n.log).1) + 1)), 0, 0⟩ : Peer)) rfl rfl rfl rfl rfl rfl (DW.v (DW.v (DW.v (DW.v DW.e)))) Peer.len (by decide) (by decide) fun X32 => ?_
         refine RW.appendSR (c := Peer.c) (l1 := ((L26.take i).map (pickP n))) (l2 := [(⟨ei, (IntKind.i64.wrap (((logLast n.log).1) + 1)), 0, 0⟩ : Peer)]) rfl rfl rfl rfl rfl rfl rfl rfl (.al (k := none) (i := 97) (sz := 4) (V := X32) rfl rfl nofun) (by decide) (Nat.le_of_ble_eq_true rfl) Peer.len (fun _ => rfl) rfl (by first | (simp only [maxLen, List.length_singleton]; omega) | (simp only [maxLen, List.length_append, List.length_map, List.length_take, List.length_singleton]; omega)) (by first | (simp only [maxLen, List.length_singleton]; omega) | (simp only [maxLen, List.length_append, List.length_map, List.length_take, List.length_singleton]; omega)) fun X33 => ?_
         refine RW.assignMove rfl rfl rfl (by decide) (Nat.le_of_ble_eq_true rfl) (Nat.le_of_ble_eq_true rfl) ?_
         refine RW.nil ?_
         refine CW.keep 115 [3,6,10,13,14,80,81,82] rfl ?_;(conv=>whnf);refine ⟨?_⟩
         refine CW.region ?_
         refine RW.v rfl (V.inc rfl rfl rfl hii hl0) ?_
         refine RW.k XK 115 1 rfl ?_
         (conv=>whnf);refine ⟨rfl,?_⟩
         refine RW.nil ?_
         exact ⟨(i + 1, _), by show L26.length - (i + 1) < L26.length - i; omega, (by omega), rfl, Le.c rfl <| Le.c rfl <| Le.c rfl <| Le.c rfl <| Le.c (Dw_congr (by rw [take_snoc hei, List.map_append]; simp only [List.map_cons, List.map_nil, pickP, hfd])) <| Le.c rfl <| Le.c rfl <| Le.c rfl <| Le.e⟩
        ·skip
         obtain ⟨q, eq_, hq1, hq2, hfd⟩ := idxF_find (p := fun p : Peer => p.id == ei) (a := n.peers) (by simpa using h31)
         refine CW.region ?_
         refine RW.k XK 115 4 rfl ?_
         (conv=>whnf);refine ⟨rfl,?_⟩
         refine RW.v rfl (V.indexZ (m := q) (v := eq_) rfl rfl rfl rfl rfl rfl hq1 Peer.len hq2) ?_
         refine RW.k XK 115 1 rfl ?_
         (conv=>whnf);refine ⟨rfl,?_⟩
         refine RW.build1 (c := Peer.c) (v := eq_) rfl rfl rfl rfl rfl rfl (DW.v (DW.v (DW.v (DW.v DW.e)))) Peer.len (by decide) (by decide) fun X34 => ?_
         refine RW.appendSR (c := Peer.c) (l1 := ((L26.take i).map (pickP n))) (l2 := [eq_]) rfl rfl rfl rfl rfl rfl rfl rfl (.al (k := none) (i := 105) (sz := 4) (V := X34) rfl rfl nofun) (by decide) (Nat.le_of_ble_eq_true rfl) Peer.len (fun _ => rfl) rfl (by first | (simp only [maxLen, List.length_singleton]; omega) | (simp only [maxLen, List.length_append, List.length_map, List.length_take, List.length_singleton]; omega)) (by first | (simp only [maxLen, List.length_singleton]; omega) | (simp only [maxLen, List.length_append, List.length_map, List.length_take, List.length_singleton]; omega)) fun X35 => ?_
         refine RW.assignMove rfl rfl rfl (by decide) (Nat.le_of_ble_eq_true rfl) (Nat.le_of_ble_eq_true rfl) ?_
         refine RW.nil ?_
         refine CW.keep 115 [3,6,10,13,14,80,81,82] rfl ?_;(conv=>whnf);refine ⟨?_⟩
         refine CW.region ?_
         refine RW.v rfl (V.inc rfl rfl rfl hii hl0) ?_
         refine RW.k XK 115 1 rfl ?_
         (conv=>whnf);refine ⟨rfl,?_⟩
         refine RW.nil ?_
         exact ⟨(i + 1, _), by show L26.length - (i + 1) < L26.length - i; omega, (by omega), rfl, Le.c rfl <| Le.c rfl <| Le.c rfl <| Le.c rfl <| Le.c (Dw_congr (by rw [take_snoc hei, List.map_append]; simp only [List.map_cons, List.map_nil, pickP, hfd])) <| Le.c rfl <| Le.c rfl <| Le.c rfl <| Le.e⟩
       ·skip
        have hii : L26.length ≤ i := by have := h28; simp at this; first | exact this | omega | (simp; done) | (simp; omega)
        have hdi : L26.drop i = [] := List.drop_eq_nil_of_le hii
        have hLe : ((L26.take i).map (pickP n)) = newPeers n (confN (outP n kind data)) := by rw [List.take_of_length_le hii, hn27]; rfl
        have hLO := prop_ok2 (k := kind) (d := data) hl hok hr60 hd hps
        rw [← hLe] at hLO
        refine CW.exit ?_
        refine CW.keep 115 [6,10,13,14] rfl ?_;(conv=>whnf);refine ⟨?_⟩
        refine CW.region ?_
        refine RW.k XK 115 3 rfl ?_
        (conv=>whnf);refine ⟨rfl,?_⟩
        refine RW.keep 115 [6,10,13,14] rfl ?_;(conv=>whnf);refine ⟨?_⟩
        refine RW.pullT (k := 13) (l := 14) (j := 13) 13 14 13 rfl rfl rfl (by decide) rfl rfl rfl ?_
        refine RW.keep 115 [6,10,13] rfl ?_;(conv=>whnf);refine ⟨?_⟩
        refine RW.nil ?_
        refine CW.keep 115 [6,10,13] rfl ?_;(conv=>whnf);refine ⟨?_⟩
        refine CW.seq ?_
        refine CW.region ?_
        refine RW.callW (k := 13) (__impl_Node__commit_fn (⟨n.id, n.term_, n.vote, n.role, n.lead, n.conf, (⟨n.log.start, n.log.startTerm, (n.log.entries ++ ([(⟨n.term_, kind, data⟩ : Entry)]))⟩ : Log), n.commit, n.clock, n.limit, n.votes, ((L26.take i).map (pickP n))⟩ : Node) hLO.log hLO.ok htm) rfl rfl (Nat.le_of_ble_eq_true rfl) (by decide) (.here (AsW.ob (DT.v (DT.v (DT.v (DT.v (DT.v (DT.w (DT.v (DT.v (DT.w (DT.v (DT.v (DT.v (DT.w (DT.w DT.e)))))))))))))) rfl) (.nil)) rfl fun g36 q37 => ?_
        refine RW.nil ?_
        obtain ⟨m38, hn39⟩ : ∃ z : Node, z = commitN (⟨n.id, n.term_, n.vote, n.role, n.lead, n.conf, (⟨n.log.start, n.log.startTerm, (n.log.entries ++ ([(⟨n.term_, kind, data⟩ : Entry)]))⟩ : Log), n.commit, n.clock, n.limit, n.votes, ((L26.take i).map (pickP n))⟩ : Node) := ⟨_, rfl⟩
        have hSn : logB m38.log ∧ (∀ p ∈ m38.peers, peerB m38.log p) ∧ m38.conf.length ≤ 1048576 ∧ m38.peers.length ≤ 1048576 := by subst hn39; exact hLO.send
        refine CW.le [(6, .obj b2 [I 0, I 0, I 0, I 0, I 0, .r (.v (.slice none 0 0)), I 0, I 0, .r (.v (.slice none 0 0)), I 0, I 0, I 0, .r (.v (.slice none 0 0)), .r (.v (.slice none 0 0))]), (10, I ((logLast n.log).1)), (13, .obj b20 [I m38.id, I m38.term_, I m38.vote, I m38.role, I m38.lead, .w (sl 1 cI m38.conf) (q37 5), I ((m38.log).start), I ((m38.log).startTerm), .w (sl 3 Entry.c ((m38.log).entries)) (q37 8), I m38.commit, I m38.clock, I m38.limit, .w (sl 1 cI m38.votes) (q37 12), .w (sl 4 Peer.c m38.peers) (q37 13)])] rfl (Le.c rfl <| Le.c rfl <| Le.c (by subst hn39; rfl) <| Le.e) ?_
        refine CW.keep 115 [6,10,13] rfl ?_;(conv=>whnf);refine ⟨?_⟩
        refine CW.anyJ2 (fc := []) (L0 := []) 115 (fun (go40_1_1 : (Nat → Nat → Value)) => [(6, .obj b2 [I m38.id, I m38.term_, I m38.vote, I m38.role, I m38.lead, .w (sl 1 cI m38.conf) (q37 5), I ((m38.log).start), I ((m38.log).startTerm), .w (sl 3 Entry.c ((m38.log).entries)) (q37 8), I m38.commit, I m38.clock, I m38.limit, .w (sl 1 cI m38.votes) (q37 12), .w (sl 4 Peer.c m38.peers) (q37 13)]), (7, .w (sl 12 Message.c ((⟨m38.id, m38.term_, m38.vote, m38.role, m38.lead, m38.conf, (m38.log), m38.commit, m38.clock, m38.limit, m38.votes, m38.peers⟩ : Node).peers.map (sendN (⟨m38.id, m38.term_, m38.vote, m38.role, m38.lead, m38.conf, (m38.log), m38.commit, m38.clock, m38.limit, m38.votes, m38.peers⟩ : Node)))) (go40_1_1 0 0)), (8, I (IntKind.i64.wrap (((logLast n.log).1) + 1))), (9, Bo true)]) (fun all hall f hf b0 hb K hK => ?_) ?_
        ·skip
         have ro40_5 : ∀ B, ∀ (go40_1_1 : Nat → Nat → Value), RA f E B all 0 (bt 8 255) ⟨115, [(6, .obj b2 [I m38.id, I m38.term_, I m38.vote, I m38.role, I m38.lead, .w (sl 1 cI m38.conf) (q37 5), I ((m38.log).start), I ((m38.log).startTerm), .w (sl 3 Entry.c ((m38.log).entries)) (q37 8), I m38.commit, I m38.clock, I m38.limit, .w (sl 1 cI m38.votes) (q37 12), .w (sl 4 Peer.c m38.peers) (q37 13)]), (7, .w (sl 12 Message.c ((⟨m38.id, m38.term_, m38.vote, m38.role, m38.lead, m38.conf, (m38.log), m38.commit, m38.clock, m38.limit, m38.votes, m38.peers⟩ : Node).peers.map (sendN (⟨m38.id, m38.term_, m38.vote, m38.role, m38.lead, m38.conf, (m38.log), m38.commit, m38.clock, m38.limit, m38.votes, m38.peers⟩ : Node)))) (go40_1_1 0 0)), (8, I (IntKind.i64.wrap (((logLast n.log).1) + 1))), (9, Bo true)] ++ b0⟩ K := by
          intro B go40_1_1
          exact RA.of2 hall hf hb (RA.finH (Tell.of rfl) (by kernel_rfl) (hK go40_1_1 _ rfl (Le.of rfl)))
         have ro40_4 : ∀ B, ∀ (go40_1_1 : Nat → Nat → Value), RA f E B all 3 (bt 8 31) ⟨115, [(6, .obj b2 [I m38.id, I m38.term_, I m38.vote, I m38.role, I m38.lead, .w (sl 1 cI m38.conf) (q37 5), I ((m38.log).start), I ((m38.log).startTerm), .w (sl 3 Entry.c ((m38.log).entries)) (q37 8), I m38.commit, I m38.clock, I m38.limit, .w (sl 1 cI m38.votes) (q37 12), .w (sl 4 Peer.c m38.peers) (q37 13)]), (112, .w (sl 12 Message.c ((⟨m38.id, m38.term_, m38.vote, m38.role, m38.lead, m38.conf, (m38.log), m38.commit, m38.clock, m38.limit, m38.votes, m38.peers⟩ : Node).peers.map (sendN (⟨m38.id, m38.term_, m38.vote, m38.role, m38.lead, m38.conf, (m38.log), m38.commit, m38.clock, m38.limit, m38.votes, m38.peers⟩ : Node)))) (go40_1_1 0 0)), (114, I (IntKind.i64.wrap (((logLast n.log).1) + 1)))] ++ b0⟩ K := by
          intro B go40_1_1
          refine RA.of2 hall hf hb (RA.stepH (L := [5]) (Tell.of rfl) (by kernel_rfl) (by simp) (RA.each ?_ (RA.each0)))
          ·skip
           refine RO.assignMove rfl rfl rfl rfl rfl (by decide) (Nat.le_of_ble_eq_true rfl) (Nat.le_of_ble_eq_true rfl) ?_
           refine RA.fr XK 115 0 [6,7] (bt 8 255) rfl rfl (by kernel_rfl) (Tell.of rfl) ?_
           (conv=>whnf);refine ⟨rfl,fun B=>?_⟩
           exact RA.to2 hall hf hb (ro40_5 B go40_1_1) rfl rfl (by kernel_rfl)
         have ro40_3 : ∀ B, ∀ (go40_1_1 : Nat → Nat → Value), RA f E B all 4 (bt 8 15) ⟨115, [(6, .obj b2 [I 0, I 0, I 0, I 0, I 0, .r (.v (.slice none 0 0)), I 0, I 0, .r (.v (.slice none 0 0)), I 0, I 0, I 0, .r (.v (.slice none 0 0)), .r (.v (.slice none 0 0))]), (13, .obj b20 [I m38.id, I m38.term_, I m38.vote, I m38.role, I m38.lead, .w (sl 1 cI m38.conf) (q37 5), I ((m38.log).start), I ((m38.log).startTerm), .w (sl 3 Entry.c ((m38.log).entries)) (q37 8), I m38.commit, I m38.clock, I m38.limit, .w (sl 1 cI m38.votes) (q37 12), .w (sl 4 Peer.c m38.peers) (q37 13)]), (111, .agg [I m38.id, I m38.term_, I m38.vote, I m38.role, I m38.lead, .al 13 (some 5) 1 m38.conf.length (q37 5) 0, I ((m38.log).start), I ((m38.log).startTerm), .al 13 (some 8) 3 (((m38.log).entries).length) (q37 8) 0, I m38.commit, I m38.clock, I m38.limit, .al 13 (some 12) 1 m38.votes.length (q37 12) 0, .al 13 (some 13) 4 m38.peers.length (q37 13) 0]), (112, .w (sl 12 Message.c ((⟨m38.id, m38.term_, m38.vote, m38.role, m38.lead, m38.conf, (m38.log), m38.commit, m38.clock, m38.limit, m38.votes, m38.peers⟩ : Node).peers.map (sendN (⟨m38.id, m38.term_, m38.vote, m38.role, m38.lead, m38.conf, (m38.log), m38.commit, m38.clock, m38.limit, m38.votes, m38.peers⟩ : Node)))) (go40_1_1 0 0)), (114, I (IntKind.i64.wrap (((logLast n.log).1) + 1)))] ++ b0⟩ K := by
          intro B go40_1_1
          refine RA.of2 hall hf hb (RA.stepH (L := [4]) (Tell.of rfl) (by kernel_rfl) (by simp) (RA.each ?_ (RA.each0)))
          ·skip
           refine RO.storeAgg (es := [I m38.id, I m38.term_, I m38.vote, I m38.role, I m38.lead, .al 13 (some 5) 1 m38.conf.length (q37 5) 0, I ((m38.log).start), I ((m38.log).startTerm), .al 13 (some 8) 3 (((m38.log).entries).length) (q37 8) 0, I m38.commit, I m38.clock, I m38.limit, .al 13 (some 12) 1 m38.votes.length (q37 12) 0, .al 13 (some 13) 4 m38.peers.length (q37 13) 0]) rfl rfl rfl rfl rfl rfl rfl rfl rfl rfl (Nat.le_of_ble_eq_true rfl) rfl ?_
           refine RA.keep 115 [6,13,112,114] rfl ?_;(conv=>whnf);refine ⟨?_⟩
           refine RA.pullO (k := 6) (l := 13) (j := 5) 6 13 5 rfl rfl rfl (by decide) rfl rfl rfl rfl ?_
           refine RA.keep 115 [6,13,112,114] rfl ?_;(conv=>whnf);refine ⟨?_⟩
           refine RA.pullO (k := 6) (l := 13) (j := 8) 6 13 8 rfl rfl rfl (by decide) rfl rfl rfl rfl ?_
           refine RA.keep 115 [6,13,112,114] rfl ?_;(conv=>whnf);refine ⟨?_⟩
           refine RA.pullO (k := 6) (l := 13) (j := 12) 6 13 12 rfl rfl rfl (by decide) rfl rfl rfl rfl ?_
           refine RA.keep 115 [6,13,112,114] rfl ?_;(conv=>whnf);refine ⟨?_⟩
           refine RA.pullO (k := 6) (l := 13) (j := 13) 6 13 13 rfl rfl rfl (by decide) rfl rfl rfl rfl ?_
           refine RA.keep 115 [6,112,114] rfl ?_;(conv=>whnf);refine ⟨?_⟩
           exact RA.to2 hall hf hb (ro40_4 B go40_1_1) rfl rfl (by kernel_rfl)
         have ro40_2 : ∀ B, ∀ (go40_1_1 : Nat → Nat → Value), RA f E B all 5 (bt 8 14) ⟨115, [(6, .obj b2 [I 0, I 0, I 0, I 0, I 0, .r (.v (.slice none 0 0)), I 0, I 0, .r (.v (.slice none 0 0)), I 0, I 0, I 0, .r (.v (.slice none 0 0)), .r (.v (.slice none 0 0))]), (13, .obj b20 [I m38.id, I m38.term_, I m38.vote, I m38.role, I m38.lead, .w (sl 1 cI m38.conf) (q37 5), I ((m38.log).start), I ((m38.log).startTerm), .w (sl 3 Entry.c ((m38.log).entries)) (q37 8), I m38.commit, I m38.clock, I m38.limit, .w (sl 1 cI m38.votes) (q37 12), .w (sl 4 Peer.c m38.peers) (q37 13)]), (112, .w (sl 12 Message.c ((⟨m38.id, m38.term_, m38.vote, m38.role, m38.lead, m38.conf, (m38.log), m38.commit, m38.clock, m38.limit, m38.votes, m38.peers⟩ : Node).peers.map (sendN (⟨m38.id, m38.term_, m38.vote, m38.role, m38.lead, m38.conf, (m38.log), m38.commit, m38.clock, m38.limit, m38.votes, m38.peers⟩ : Node)))) (go40_1_1 0 0)), (114, I (IntKind.i64.wrap (((logLast n.log).1) + 1)))] ++ b0⟩ K := by
          intro B go40_1_1
          refine RA.of2 hall hf hb (RA.stepH (L := [0]) (Tell.of rfl) (by kernel_rfl) (by simp) (RA.each ?_ (RA.each0)))
          ·skip
           refine RO.v rfl rfl (V.loadAgg rfl rfl rfl rfl rfl (Nat.le_of_ble_eq_true rfl)) rfl ?_
           exact RA.to2 hall hf hb (ro40_3 B go40_1_1) rfl rfl (by kernel_rfl)
         have ro40_1 : ∀ B, RA f E B all 5 (bt 8 13) ⟨115, [(6, .obj b2 [I 0, I 0, I 0, I 0, I 0, .r (.v (.slice none 0 0)), I 0, I 0, .r (.v (.slice none 0 0)), I 0, I 0, I 0, .r (.v (.slice none 0 0)), .r (.v (.slice none 0 0))]), (13, .obj b20 [I m38.id, I m38.term_, I m38.vote, I m38.role, I m38.lead, .w (sl 1 cI m38.conf) (q37 5), I ((m38.log).start), I ((m38.log).startTerm), .w (sl 3 Entry.c ((m38.log).entries)) (q37 8), I m38.commit, I m38.clock, I m38.limit, .w (sl 1 cI m38.votes) (q37 12), .w (sl 4 Peer.c m38.peers) (q37 13)]), (111, .agg [I m38.id, I m38.term_, I m38.vote, I m38.role, I m38.lead, .al 13 (some 5) 1 m38.conf.length (q37 5) 0, I ((m38.log).start), I ((m38.log).startTerm), .al 13 (some 8) 3 (((m38.log).entries).length) (q37 8) 0, I m38.commit, I m38.clock, I m38.limit, .al 13 (some 12) 1 m38.votes.length (q37 12) 0, .al 13 (some 13) 4 m38.peers.length (q37 13) 0]), (114, I (IntKind.i64.wrap (((logLast n.log).1) + 1)))] ++ b0⟩ K := by
          intro B
          refine RA.of2 hall hf hb (RA.stepH (L := [1]) (Tell.of rfl) (by kernel_rfl) (by simp) (RA.each ?_ (RA.each0)))
          ·skip
           refine RO.callOwn rfl rfl (__impl_Node__sendAll_fn (⟨m38.id, m38.term_, m38.vote, m38.role, m38.lead, m38.conf, (m38.log), m38.commit, m38.clock, m38.limit, m38.votes, m38.peers⟩ : Node) hSn.1 hSn.2.1 hSn.2.2.1 hSn.2.2.2) rfl (.cons (.one (.r (.pt rfl rfl (DRd.r (DRd.r (DRd.r (DRd.r (DRd.r (DRd.ow (DRd.r (DRd.r (DRd.ow (DRd.r (DRd.r (DRd.r (DRd.ow (DRd.ow DRd.e)))))))))))))) nofun))) (.nil)) rfl rfl fun go40_1_1 => ?_
           exact RA.to2 hall hf hb (ro40_3 B go40_1_1) rfl rfl (by kernel_rfl)
         have ro40_0 : ∀ B, RA f E B all 6 (bt 8 12) ⟨115, [(6, .obj b2 [I 0, I 0, I 0, I 0, I 0, .r (.v (.slice none 0 0)), I 0, I 0, .r (.v (.slice none 0 0)), I 0, I 0, I 0, .r (.v (.slice none 0 0)), .r (.v (.slice none 0 0))]), (13, .obj b20 [I m38.id, I m38.term_, I m38.vote, I m38.role, I m38.lead, .w (sl 1 cI m38.conf) (q37 5), I ((m38.log).start), I ((m38.log).startTerm), .w (sl 3 Entry.c ((m38.log).entries)) (q37 8), I m38.commit, I m38.clock, I m38.limit, .w (sl 1 cI m38.votes) (q37 12), .w (sl 4 Peer.c m38.peers) (q37 13)]), (114, I (IntKind.i64.wrap (((logLast n.log).1) + 1)))] ++ b0⟩ K := by
          intro B
          refine RA.of2 hall hf hb (RA.stepH (L := [0, 1]) (Tell.of rfl) (by kernel_rfl) (by simp) (RA.each ?_ (RA.each ?_ (RA.each0))))
          ·skip
           refine RO.v rfl rfl (V.loadAgg rfl rfl rfl rfl rfl (Nat.le_of_ble_eq_true rfl)) rfl ?_
           exact RA.to2 hall hf hb (ro40_1 B) rfl rfl (by kernel_rfl)
          ·skip
           refine RO.callOwn rfl rfl (__impl_Node__sendAll_fn (⟨m38.id, m38.term_, m38.vote, m38.role, m38.lead, m38.conf, (m38.log), m38.commit, m38.clock, m38.limit, m38.votes, m38.peers⟩ : Node) hSn.1 hSn.2.1 hSn.2.2.1 hSn.2.2.2) rfl (.cons (.one (.r (.pt rfl rfl (DRd.r (DRd.r (DRd.r (DRd.r (DRd.r (DRd.ow (DRd.r (DRd.r (DRd.ow (DRd.r (DRd.r (DRd.r (DRd.ow (DRd.ow DRd.e)))))))))))))) nofun))) (.nil)) rfl rfl fun go40_1_1 => ?_
           exact RA.to2 hall hf hb (ro40_2 B go40_1_1) rfl rfl (by kernel_rfl)
         refine RA.start (by kernel_rfl) (by kernel_rfl) (m := 8) (ls' := (bt 8 0)) ?_
         refine RA.fr XK 115 6 [2,3] (bt 8 12) rfl rfl (by kernel_rfl) (Tell.of rfl) ?_
         (conv=>whnf);refine ⟨rfl,fun B=>?_⟩
         exact RA.to2 hall hf hb (ro40_0 B) rfl rfl (by kernel_rfl)
        ·rintro go40_1_1
         refine CW.ret ?_
         exact Post.tup (by decide) (RVs.c (RV.c (f := fun e => (Node.c e).map .w) (e' := (⟨m38.id, m38.term_, m38.vote, m38.role, m38.lead, m38.conf, (m38.log), m38.commit, m38.clock, m38.limit, m38.votes, m38.peers⟩ : Node)) rfl rfl rfl rfl (DT.v (DT.v (DT.v (DT.v (DT.v (DT.w (DT.v (DT.v (DT.w (DT.v (DT.v (DT.v (DT.w (DT.w DT.e)))))))))))))) (by subst hn39; first | (rw [prop_yes hgd hyes, propS_conf h23, ← hLe]; done) | (rw [prop_yes hgd hyes, propS_conf h23, ← hLe]; rfl))) (RVs.c (RV.w rfl (by subst hn39; first | (rw [prop_yes hgd hyes, propS_conf h23, ← hLe]; done) | (rw [prop_yes hgd hyes, propS_conf h23, ← hLe]; rfl))) (RVs.c (RV.i rfl (by subst hn39; first | (rw [prop_yes hgd hyes, propS_conf h23, ← hLe]; done) | (rw [prop_yes hgd hyes, propS_conf h23, ← hLe]; rfl))) (RVs.c (RV.b rfl (by subst hn39; first | (rw [prop_yes hgd hyes, propS_conf h23, ← hLe]; done) | (rw [prop_yes hgd hyes, propS_conf h23, ← hLe]; rfl))) RVs.e)))) (AOs.a rfl (AOs.r (AOs.r AOs.e)))
     ·skip
      have hLO := prop_ok1 (k := kind) (d := data) hl hok hr60 hd hps
      refine CW.skip ?_
      refine CW.keep 115 [6,10,13] rfl ?_;(conv=>whnf);refine ⟨?_⟩
      refine CW.seq ?_
      refine CW.region ?_
      refine RW.callW (k := 13) (__impl_Node__commit_fn (⟨n.id, n.term_, n.vote, n.role, n.lead, n.conf, (⟨n.log.start, n.log.startTerm, (n.log.entries ++ ([(⟨n.term_, kind, data⟩ : Entry)]))⟩ : Log), n.commit, n.clock, n.limit, n.votes, n.peers⟩ : Node) hLO.log hLO.ok htm) rfl rfl (Nat.le_of_ble_eq_true rfl) (by decide) (.here (AsW.ob (DT.v (DT.v (DT.v (DT.v (DT.v (DT.w (DT.v (DT.v (DT.w (DT.v (DT.v (DT.v (DT.w (DT.w DT.e)))))))))))))) rfl) (.nil)) rfl fun g41 q42 => ?_
      refine RW.nil ?_
      obtain ⟨m43, hn44⟩ : ∃ z : Node, z = commitN (⟨n.id, n.term_, n.vote, n.role, n.lead, n.conf, (⟨n.log.start, n.log.startTerm, (n.log.entries ++ ([(⟨n.term_, kind, data⟩ : Entry)]))⟩ : Log), n.commit, n.clock, n.limit, n.votes, n.peers⟩ : Node) := ⟨_, rfl⟩
      have hSn : logB m43.log ∧ (∀ p ∈ m43.peers, peerB m43.log p) ∧ m43.conf.length ≤ 1048576 ∧ m43.peers.length ≤ 1048576 := by subst hn44; exact hLO.send
      refine CW.le [(6, .obj b2 [I 0, I 0, I 0, I 0, I 0, .r (.v (.slice none 0 0)), I 0, I 0, .r (.v (.slice none 0 0)), I 0, I 0, I 0, .r (.v (.slice none 0 0)), .r (.v (.slice none 0 0))]), (10, I ((logLast n.log).1)), (13, .obj b20 [I m43.id, I m43.term_, I m43.vote, I m43.role, I m43.lead, .w (sl 1 cI m43.conf) (q42 5), I ((m43.log).start), I ((m43.log).startTerm), .w (sl 3 Entry.c ((m43.log).entries)) (q42 8), I m43.commit, I m43.clock, I m43.limit, .w (sl 1 cI m43.votes) (q42 12), .w (sl 4 Peer.c m43.peers) (q42 13)])] rfl (Le.c rfl <| Le.c rfl <| Le.c (by subst hn44; rfl) <| Le.e) ?_
      refine CW.keep 115 [6,10,13] rfl ?_;(conv=>whnf);refine ⟨?_⟩
      refine CW.anyJ2 (fc := []) (L0 := []) 115 (fun (go45_1_1 : (Nat → Nat → Value)) => [(6, .obj b2 [I m43.id, I m43.term_, I m43.vote, I m43.role, I m43.lead, .w (sl 1 cI m43.conf) (q42 5), I ((m43.log).start), I ((m43.log).startTerm), .w (sl 3 Entry.c ((m43.log).entries)) (q42 8), I m43.commit, I m43.clock, I m43.limit, .w (sl 1 cI m43.votes) (q42 12), .w (sl 4 Peer.c m43.peers) (q42 13)]), (7, .w (sl 12 Message.c ((⟨m43.id, m43.term_, m43.vote, m43.role, m43.lead, m43.conf, (m43.log), m43.commit, m43.clock, m43.limit, m43.votes, m43.peers⟩ : Node).peers.map (sendN (⟨m43.id, m43.term_, m43.vote, m43.role, m43.lead, m43.conf, (m43.log), m43.commit, m43.clock, m43.limit, m43.votes, m43.peers⟩ : Node)))) (go45_1_1 0 0)), (8, I (IntKind.i64.wrap (((logLast n.log).1) + 1))), (9, Bo true)]) (fun all hall f hf b0 hb K hK => ?_) ?_
      ·skip
       have ro45_5 : ∀ B, ∀ (go45_1_1 : Nat → Nat → Value), RA f E B all 0 (bt 8 255) ⟨115, [(6, .obj b2 [I m43.id, I m43.term_, I m43.vote, I m43.role, I m43.lead, .w (sl 1 cI m43.conf) (q42 5), I ((m43.log).start), I ((m43.log).startTerm), .w (sl 3 Entry.c ((m43.log).entries)) (q42 8), I m43.commit, I m43.clock, I m43.limit, .w (sl 1 cI m43.votes) (q42 12), .w (sl 4 Peer.c m43.peers) (q42 13)]), (7, .w (sl 12 Message.c ((⟨m43.id, m43.term_, m43.vote, m43.role, m43.lead, m43.conf, (m43.log), m43.commit, m43.clock, m43.limit, m43.votes, m43.peers⟩ : Node).peers.map (sendN (⟨m43.id, m43.term_, m43.vote, m43.role, m43.lead, m43.conf, (m43.log), m43.commit, m43.clock, m43.limit, m43.votes, m43.peers⟩ : Node)))) (go45_1_1 0 0)), (8, I (IntKind.i64.wrap (((logLast n.log).1) + 1))), (9, Bo true)] ++ b0⟩ K := by
        intro B go45_1_1
        exact RA.of2 hall hf hb (RA.finH (Tell.of rfl) (by kernel_rfl) (hK go45_1_1 _ rfl (Le.of rfl)))
       have ro45_4 : ∀ B, ∀ (go45_1_1 : Nat → Nat → Value), RA f E B all 3 (bt 8 31) ⟨115, [(6, .obj b2 [I m43.id, I m43.term_, I m43.vote, I m43.role, I m43.lead, .w (sl 1 cI m43.conf) (q42 5), I ((m43.log).start), I ((m43.log).startTerm), .w (sl 3 Entry.c ((m43.log).entries)) (q42 8), I m43.commit, I m43.clock, I m43.limit, .w (sl 1 cI m43.votes) (q42 12), .w (sl 4 Peer.c m43.peers) (q42 13)]), (112, .w (sl 12 Message.c ((⟨m43.id, m43.term_, m43.vote, m43.role, m43.lead, m43.conf, (m43.log), m43.commit, m43.clock, m43.limit, m43.votes, m43.peers⟩ : Node).peers.map (sendN (⟨m43.id, m43.term_, m43.vote, m43.role, m43.lead, m43.conf, (m43.log), m43.commit, m43.clock, m43.limit, m43.votes, m43.peers⟩ : Node)))) (go45_1_1 0 0)), (114, I (IntKind.i64.wrap (((logLast n.log).1) + 1)))] ++ b0⟩ K := by
        intro B go45_1_1
        refine RA.of2 hall hf hb (RA.stepH (L := [5]) (Tell.of rfl) (by kernel_rfl) (by simp) (RA.each ?_ (RA.each0)))
        ·skip
         refine RO.assignMove rfl rfl rfl rfl rfl (by decide) (Nat.le_of_ble_eq_true rfl) (Nat.le_of_ble_eq_true rfl) ?_
         refine RA.fr XK 115 0 [6,7] (bt 8 255) rfl rfl (by kernel_rfl) (Tell.of rfl) ?_
         (conv=>whnf);refine ⟨rfl,fun B=>?_⟩
         exact RA.to2 hall hf hb (ro45_5 B go45_1_1) rfl rfl (by kernel_rfl)
       have ro45_3 : ∀ B, ∀ (go45_1_1 : Nat → Nat → Value), RA f E B all 4 (bt 8 15) ⟨115, [(6, .obj b2 [I 0, I 0, I 0, I 0, I 0, .r (.v (.slice none 0 0)), I 0, I 0, .r (.v (.slice none 0 0)), I 0, I 0, I 0, .r (.v (.slice none 0 0)), .r (.v (.slice none 0 0))]), (13, .obj b20 [I m43.id, I m43.term_, I m43.vote, I m43.role, I m43.lead, .w (sl 1 cI m43.conf) (q42 5), I ((m43.log).start), I ((m43.log).startTerm), .w (sl 3 Entry.c ((m43.log).entries)) (q42 8), I m43.commit, I m43.clock, I m43.limit, .w (sl 1 cI m43.votes) (q42 12), .w (sl 4 Peer.c m43.peers) (q42 13)]), (111, .agg [I m43.id, I m43.term_, I m43.vote, I m43.role, I m43.lead, .al 13 (some 5) 1 m43.conf.length (q42 5) 0, I ((m43.log).start), I ((m43.log).startTerm), .al 13 (some 8) 3 (((m43.log).entries).length) (q42 8) 0, I m43.commit, I m43.clock, I m43.limit, .al 13 (some 12) 1 m43.votes.length (q42 12) 0, .al 13 (some 13) 4 m43.peers.length (q42 13) 0]), (112, .w (sl 12 Message.c ((⟨m43.id, m43.term_, m43.vote, m43.role, m43.lead, m43.conf, (m43.log), m43.commit, m43.clock, m43.limit, m43.votes, m43.peers⟩ : Node).peers.map (sendN (⟨m43.id, m43.term_, m43.vote, m43.role, m43.lead, m43.conf, (m43.log), m43.commit, m43.clock, m43.limit, m43.votes, m43.peers⟩ : Node)))) (go45_1_1 0 0)), (114, I (IntKind.i64.wrap (((logLast n.log).1) + 1)))] ++ b0⟩ K := by
        intro B go45_1_1
        refine RA.of2 hall hf hb (RA.stepH (L := [4]) (Tell.of rfl) (by kernel_rfl) (by simp) (RA.each ?_ (RA.each0)))
        ·skip
         refine RO.storeAgg (es := [I m43.id, I m43.term_, I m43.vote, I m43.role, I m43.lead, .al 13 (some 5) 1 m43.conf.length (q42 5) 0, I ((m43.log).start), I ((m43.log).startTerm), .al 13 (some 8) 3 (((m43.log).entries).length) (q42 8) 0, I m43.commit, I m43.clock, I m43.limit, .al 13 (some 12) 1 m43.votes.length (q42 12) 0, .al 13 (some 13) 4 m43.peers.length (q42 13) 0]) rfl rfl rfl rfl rfl rfl rfl rfl rfl rfl (Nat.le_of_ble_eq_true rfl) rfl ?_
         refine RA.keep 115 [6,13,112,114] rfl ?_;(conv=>whnf);refine ⟨?_⟩
         refine RA.pullO (k := 6) (l := 13) (j := 5) 6 13 5 rfl rfl rfl (by decide) rfl rfl rfl rfl ?_
         refine RA.keep 115 [6,13,112,114] rfl ?_;(conv=>whnf);refine ⟨?_⟩
         refine RA.pullO (k := 6) (l := 13) (j := 8) 6 13 8 rfl rfl rfl (by decide) rfl rfl rfl rfl ?_
         refine RA.keep 115 [6,13,112,114] rfl ?_;(conv=>whnf);refine ⟨?_⟩
         refine RA.pullO (k := 6) (l := 13) (j := 12) 6 13 12 rfl rfl rfl (by decide) rfl rfl rfl rfl ?_
         refine RA.keep 115 [6,13,112,114] rfl ?_;(conv=>whnf);refine ⟨?_⟩
         refine RA.pullO (k := 6) (l := 13) (j := 13) 6 13 13 rfl rfl rfl (by decide) rfl rfl rfl rfl ?_
         refine RA.keep 115 [6,112,114] rfl ?_;(conv=>whnf);refine ⟨?_⟩
         exact RA.to2 hall hf hb (ro45_4 B go45_1_1) rfl rfl (by kernel_rfl)
       have ro45_2 : ∀ B, ∀ (go45_1_1 : Nat → Nat → Value), RA f E B all 5 (bt 8 14) ⟨115, [(6, .obj b2 [I 0, I 0, I 0, I 0, I 0, .r (.v (.slice none 0 0)), I 0, I 0, .r (.v (.slice none 0 0)), I 0, I 0, I 0, .r (.v (.slice none 0 0)), .r (.v (.slice none 0 0))]), (13, .obj b20 [I m43.id, I m43.term_, I m43.vote, I m43.role, I m43.lead, .w (sl 1 cI m43.conf) (q42 5), I ((m43.log).start), I ((m43.log).startTerm), .w (sl 3 Entry.c ((m43.log).entries)) (q42 8), I m43.commit, I m43.clock, I m43.limit, .w (sl 1 cI m43.votes) (q42 12), .w (sl 4 Peer.c m43.peers) (q42 13)]), (112, .w (sl 12 Message.c ((⟨m43.id, m43.term_, m43.vote, m43.role, m43.lead, m43.conf, (m43.log), m43.commit, m43.clock, m43.limit, m43.votes, m43.peers⟩ : Node).peers.map (sendN (⟨m43.id, m43.term_, m43.vote, m43.role, m43.lead, m43.conf, (m43.log), m43.commit, m43.clock, m43.limit, m43.votes, m43.peers⟩ : Node)))) (go45_1_1 0 0)), (114, I (IntKind.i64.wrap (((logLast n.log).1) + 1)))] ++ b0⟩ K := by
        intro B go45_1_1
        refine RA.of2 hall hf hb (RA.stepH (L := [0]) (Tell.of rfl) (by kernel_rfl) (by simp) (RA.each ?_ (RA.each0)))
        ·skip
         refine RO.v rfl rfl (V.loadAgg rfl rfl rfl rfl rfl (Nat.le_of_ble_eq_true rfl)) rfl ?_
         exact RA.to2 hall hf hb (ro45_3 B go45_1_1) rfl rfl (by kernel_rfl)
       have ro45_1 : ∀ B, RA f E B all 5 (bt 8 13) ⟨115, [(6, .obj b2 [I 0, I 0, I 0, I 0, I 0, .r (.v (.slice none 0 0)), I 0, I 0, .r (.v (.slice none 0 0)), I 0, I 0, I 0, .r (.v (.slice none 0 0)), .r (.v (.slice none 0 0))]), (13, .obj b20 [I m43.id, I m43.term_, I m43.vote, I m43.role, I m43.lead, .w (sl 1 cI m43.conf) (q42 5), I ((m43.log).start), I ((m43.log).startTerm), .w (sl 3 Entry.c ((m43.log).entries)) (q42 8), I m43.commit, I m43.clock, I m43.limit, .w (sl 1 cI m43.votes) (q42 12), .w (sl 4 Peer.c m43.peers) (q42 13)]), (111, .agg [I m43.id, I m43.term_, I m43.vote, I m43.role, I m43.lead, .al 13 (some 5) 1 m43.conf.length (q42 5) 0, I ((m43.log).start), I ((m43.log).startTerm), .al 13 (some 8) 3 (((m43.log).entries).length) (q42 8) 0, I m43.commit, I m43.clock, I m43.limit, .al 13 (some 12) 1 m43.votes.length (q42 12) 0, .al 13 (some 13) 4 m43.peers.length (q42 13) 0]), (114, I (IntKind.i64.wrap (((logLast n.log).1) + 1)))] ++ b0⟩ K := by
        intro B
        refine RA.of2 hall hf hb (RA.stepH (L := [1]) (Tell.of rfl) (by kernel_rfl) (by simp) (RA.each ?_ (RA.each0)))
        ·skip
         refine RO.callOwn rfl rfl (__impl_Node__sendAll_fn (⟨m43.id, m43.term_, m43.vote, m43.role, m43.lead, m43.conf, (m43.log), m43.commit, m43.clock, m43.limit, m43.votes, m43.peers⟩ : Node) hSn.1 hSn.2.1 hSn.2.2.1 hSn.2.2.2) rfl (.cons (.one (.r (.pt rfl rfl (DRd.r (DRd.r (DRd.r (DRd.r (DRd.r (DRd.ow (DRd.r (DRd.r (DRd.ow (DRd.r (DRd.r (DRd.r (DRd.ow (DRd.ow DRd.e)))))))))))))) nofun))) (.nil)) rfl rfl fun go45_1_1 => ?_
         exact RA.to2 hall hf hb (ro45_3 B go45_1_1) rfl rfl (by kernel_rfl)
       have ro45_0 : ∀ B, RA f E B all 6 (bt 8 12) ⟨115, [(6, .obj b2 [I 0, I 0, I 0, I 0, I 0, .r (.v (.slice none 0 0)), I 0, I 0, .r (.v (.slice none 0 0)), I 0, I 0, I 0, .r (.v (.slice none 0 0)), .r (.v (.slice none 0 0))]), (13, .obj b20 [I m43.id, I m43.term_, I m43.vote, I m43.role, I m43.lead, .w (sl 1 cI m43.conf) (q42 5), I ((m43.log).start), I ((m43.log).startTerm), .w (sl 3 Entry.c ((m43.log).entries)) (q42 8), I m43.commit, I m43.clock, I m43.limit, .w (sl 1 cI m43.votes) (q42 12), .w (sl 4 Peer.c m43.peers) (q42 13)]), (114, I (IntKind.i64.wrap (((logLast n.log).1) + 1)))] ++ b0⟩ K := by
        intro B
        refine RA.of2 hall hf hb (RA.stepH (L := [0, 1]) (Tell.of rfl) (by kernel_rfl) (by simp) (RA.each ?_ (RA.each ?_ (RA.each0))))
        ·skip
         refine RO.v rfl rfl (V.loadAgg rfl rfl rfl rfl rfl (Nat.le_of_ble_eq_true rfl)) rfl ?_
         exact RA.to2 hall hf hb (ro45_1 B) rfl rfl (by kernel_rfl)
        ·skip
         refine RO.callOwn rfl rfl (__impl_Node__sendAll_fn (⟨m43.id, m43.term_, m43.vote, m43.role, m43.lead, m43.conf, (m43.log), m43.commit, m43.clock, m43.limit, m43.votes, m43.peers⟩ : Node) hSn.1 hSn.2.1 hSn.2.2.1 hSn.2.2.2) rfl (.cons (.one (.r (.pt rfl rfl (DRd.r (DRd.r (DRd.r (DRd.r (DRd.r (DRd.ow (DRd.r (DRd.r (DRd.ow (DRd.r (DRd.r (DRd.r (DRd.ow (DRd.ow DRd.e)))))))))))))) nofun))) (.nil)) rfl rfl fun go45_1_1 => ?_
         exact RA.to2 hall hf hb (ro45_2 B go45_1_1) rfl rfl (by kernel_rfl)
       refine RA.start (by kernel_rfl) (by kernel_rfl) (m := 8) (ls' := (bt 8 0)) ?_
       refine RA.fr XK 115 6 [2,3] (bt 8 12) rfl rfl (by kernel_rfl) (Tell.of rfl) ?_
       (conv=>whnf);refine ⟨rfl,fun B=>?_⟩
       exact RA.to2 hall hf hb (ro45_0 B) rfl rfl (by kernel_rfl)
      ·rintro go45_1_1
       refine CW.ret ?_
       exact Post.tup (by decide) (RVs.c (RV.c (f := fun e => (Node.c e).map .w) (e' := (⟨m43.id, m43.term_, m43.vote, m43.role, m43.lead, m43.conf, (m43.log), m43.commit, m43.clock, m43.limit, m43.votes, m43.peers⟩ : Node)) rfl rfl rfl rfl (DT.v (DT.v (DT.v (DT.v (DT.v (DT.w (DT.v (DT.v (DT.w (DT.v (DT.v (DT.v (DT.w (DT.w DT.e)))))))))))))) (by subst hn44; first | (rw [prop_yes hgd hyes, propS_plain h23]; done) | (rw [prop_yes hgd hyes, propS_plain h23]; rfl))) (RVs.c (RV.w rfl (by subst hn44; first | (rw [prop_yes hgd hyes, propS_plain h23]; done) | (rw [prop_yes hgd hyes, propS_plain h23]; rfl))) (RVs.c (RV.i rfl (by subst hn44; first | (rw [prop_yes hgd hyes, propS_plain h23]; done) | (rw [prop_yes hgd hyes, propS_plain h23]; rfl))) (RVs.c (RV.b rfl (by subst hn44; first | (rw [prop_yes hgd hyes, propS_plain h23]; done) | (rw [prop_yes hgd hyes, propS_plain h23]; rfl))) RVs.e)))) (AOs.a rfl (AOs.r (AOs.r AOs.e)))
set_option maxHeartbeats 4000000 in
theorem spec_l01In_fn (n : Int) (x : Int) (y : Int) : Eng.Fn E.P 56 [.one (.r (.v (.int .i64 n))), .one (.r (.v (.int .i64 x))), .one (.r (.v (.int .i64 y)))] (.one (.one (.w (.v (.bool (inR n x y)))))) [.one (.r (.v (.int .i64 n))), .one (.r (.v (.int .i64 x))), .one (.r (.v (.int .i64 y)))] := by
 refine Eng.Fn.intro (E := E) (rvs := [.tmp 6]) Try.func56 rfl rfl rfl (by simp [outSlots, moved, rvSlot, sl]) ?_
 intro B g bo
 refine CW.keep 15 [0,1,2] rfl ?_;(conv=>whnf);refine ⟨?_⟩
 refine CW.k XK 15 1 [0,1,2] rfl ?_
 (conv=>whnf);refine ⟨rfl,?_⟩
 refine CW.seqJ 15 (fun (v1 : Bool) => [(6, Bo v1)]) (fun v1 => v1 = (decide (n ≥ x) && decide (n ≤ y))) ?_ ?_
 ·refine CW.region ?_
  refine RW.k XK 15 4 rfl ?_
  (conv=>whnf);refine ⟨rfl,?_⟩
  refine RW.gv rfl rfl rfl rfl (fun h2 => V.mv (d := I n) rfl rfl) (fun h2 => ?_) (fun h2 => ?_)
  ·skip
   refine RW.k XK 15 4 rfl ?_
   (conv=>whnf);refine ⟨rfl,?_⟩
   refine RW.nil ?_
   exact ⟨_, by first | rfl | (simp_all; done) | (simp_all; omega) | grind, rfl, Le.of rfl⟩
  ·skip
   refine RW.k XK 15 4 rfl ?_
   (conv=>whnf);refine ⟨rfl,?_⟩
   refine RW.nil ?_
   exact ⟨_, by first | rfl | (simp_all; done) | (simp_all; omega) | grind, rfl, Le.of rfl⟩
 ·intro v1 hv3
  refine CW.ret ?_
  exact Post.one (RV.b rfl (by simp_all [inR])) (AOs.r (AOs.r (AOs.r AOs.e)))
set_option maxHeartbeats 4000000 in
theorem spec_l05Rise_fn (a : List Int) (lo : Int) (hi : Int) : Eng.Fn E.P 60 [.one (.r (sl 1 cI a)), .one (.r (.v (.int .i64 lo))), .one (.r (.v (.int .i64 hi)))] (.one (.one (.w (.v (.bool (riseOk lo hi none a)))))) [.one (.r (sl 1 cI a)), .one (.r (.v (.int .i64 lo))), .one (.r (.v (.int .i64 hi)))] := by
 refine Eng.Fn.intro (E := E) (rvs := [.tmp 6]) Try.func60 rfl rfl rfl (by simp [outSlots, moved, rvSlot, sl]) ?_
 intro B g bo
 refine CW.bound (x := .tmp 0) (n := a.length) (AsT.r) (fun hl0 => ?_)
 refine CW.keep 38 [0,1,2] rfl ?_;(conv=>whnf);refine ⟨?_⟩
 refine CW.k XK 38 1 [0,1,2] rfl ?_
 (conv=>whnf);refine ⟨rfl,?_⟩
 refine CW.seq ?_
 refine CW.k XK 38 1 [0,1,2,7] rfl ?_
 (conv=>whnf);refine ⟨rfl,?_⟩
 refine CW.block ?_
 refine CW.loopI 38 (fun (i : Nat) => [(0, .r (sl 1 cI a)), (1, I lo), (2, I hi), (7, I (i : Int))]) (fun (i : Nat) => i ≤ a.length ∧ riseOk lo hi (prevI a i) (a.drop i) = riseOk lo hi none a) (fun (i : Nat) => a.length - i) 0 rfl (Le.c rfl <| Le.c rfl <| Le.c rfl <| Le.c rfl <| Le.e) ⟨by omega, by simp [prevI]⟩ ?_
 rintro i ⟨hb, hr⟩
 refine CW.seq ?_
 refine CW.k XK 38 1 [0,1,2,7,11] rfl ?_
 (conv=>whnf);refine ⟨rfl,?_⟩
 refine CW.cond rfl (fun h1 => ?_) (fun h1 => ?_)
 ·skip
  have hii : i < a.length := by have := h1; simp at this; first | exact this | omega | (simp; done) | (simp; omega)
  obtain ⟨ei, hei⟩ : ∃ e, a[i]? = some e := ⟨_, List.getElem?_eq_getElem hii⟩
  have hdi := drop_get hei
  refine CW.skip ?_
  refine CW.keep 38 [0,1,2,7] rfl ?_;(conv=>whnf);refine ⟨?_⟩
  refine CW.seq ?_
  refine CW.block ?_
  refine CW.seqJ 38 (fun (v2 : Bool) => [(0, .r (sl 1 cI a)), (1, I lo), (2, I hi), (7, I (i : Int)), (37, Bo v2)]) (fun v2 => v2 = ((!(inR ei lo hi)) || (decide ((i : Int) > 0) && decide ((a.getD (i - 1) 0) ≥ ei)))) ?_ ?_
  ·refine CW.drawn (by kernel_rfl) ?_
   refine RQ.k XK 38 2 rfl ?_
   (conv=>whnf);refine ⟨rfl,?_⟩
   refine RQ.v rfl (V.indexS rfl rfl rfl rfl rfl rfl cI.len hei) ?_
   refine RQ.k XK 38 3 rfl ?_
   (conv=>whnf);refine ⟨rfl,?_⟩
   refine RQ.cons rfl (QOK.call (spec_l01In_fn ei lo hi) rfl (.cons (.one (.r .r)) (.cons (.one (.r .r)) (.cons (.one (.r .r)) (.nil)))) ?_)
   refine RQ.k XK 38 2 rfl ?_
   (conv=>whnf);refine ⟨rfl,?_⟩
   refine RQ.gv rfl rfl rfl rfl (fun h3 => V.mv (d := I (i : Int)) rfl rfl) (fun h3 => ?_) (fun h3 => ?_)
   ·skip
    refine RQ.k XK 38 2 rfl ?_
    (conv=>whnf);refine ⟨rfl,?_⟩
    refine RQ.gv rfl rfl rfl rfl (fun h4 => V.mv (d := .r (sl 1 cI a)) rfl rfl) (fun h4 => ?_) (fun h4 => ?_)
    ·skip
     refine RQ.k XK 38 1 rfl ?_
     (conv=>whnf);refine ⟨rfl,?_⟩
     refine RQ.gt rfl rfl rfl rfl (V.dec (m := i) rfl rfl rfl (by have := h4; simp at this; omega) (by omega)) ?_
     refine RQ.gt rfl rfl rfl rfl (V.indexS rfl rfl rfl rfl rfl rfl cI.len (getD_some (l := a) (j := i - 1) (z := 0) (by omega))) ?_
     refine RQ.k XK 38 3 rfl ?_
     (conv=>whnf);refine ⟨rfl,?_⟩
     refine RQ.gt rfl rfl rfl rfl (V.indexS rfl rfl rfl rfl rfl rfl cI.len hei) ?_
     refine RQ.k XK 38 4 rfl ?_
     (conv=>whnf);refine ⟨rfl,?_⟩
     refine RQ.nil ?_
     exact ⟨_, by first | rfl | (simp_all; done) | (simp_all; omega) | grind, rfl, Le.of rfl⟩
    ·skip
     refine RQ.k XK 38 11 rfl ?_
     (conv=>whnf);refine ⟨rfl,?_⟩
     refine RQ.nil ?_
     exact ⟨_, by first | rfl | (simp_all; done) | (simp_all; omega) | grind, rfl, Le.of rfl⟩
   ·skip
    refine RQ.k XK 38 14 rfl ?_
    (conv=>whnf);refine ⟨rfl,?_⟩
    refine RQ.nil ?_
    exact ⟨_, by first | rfl | (simp_all; done) | (simp_all; omega) | grind, rfl, Le.of rfl⟩
  ·intro v2 hv5
   refine CW.cond rfl (fun h6 => ?_) (fun h6 => ?_)
   ·skip
    refine CW.k XK 38 1 [6] rfl ?_
    (conv=>whnf);refine ⟨rfl,?_⟩
    refine CW.ret ?_
    exact Post.one (RV.b rfl (by rw [← hr, hdi, riseOk_cons]; grind [prevI])) (AOs.r (AOs.r (AOs.r AOs.e)))
   ·skip
    refine CW.skip ?_
    refine CW.keep 38 [0,1,2,7] rfl ?_;(conv=>whnf);refine ⟨?_⟩
    refine CW.region ?_
    refine RW.k XK 38 1 rfl ?_
    (conv=>whnf);refine ⟨rfl,?_⟩
    refine RW.v rfl (V.inc rfl rfl rfl hii hl0) ?_
    refine RW.k XK 38 1 rfl ?_
    (conv=>whnf);refine ⟨rfl,?_⟩
    refine RW.nil ?_
    exact ⟨i + 1, by omega, ⟨by omega, by rw [← hr, hdi, riseOk_cons, prevI_succ hei]; grind [prevI]⟩, rfl, Le.c rfl <| Le.c rfl <| Le.c rfl <| Le.c rfl <| Le.e⟩
 ·skip
  have hii : a.length ≤ i := by have := h1; simp at this; first | exact this | omega | (simp; done) | (simp; omega)
  have hdi : a.drop i = [] := List.drop_eq_nil_of_le hii
  refine CW.exit ?_
  refine CW.keep 38 [] rfl ?_;(conv=>whnf);refine ⟨?_⟩
  refine CW.k XK 38 1 [6] rfl ?_
  (conv=>whnf);refine ⟨rfl,?_⟩
  refine CW.ret ?_
  exact Post.one (RV.b rfl (by rw [← hr, hdi, riseOk_nil])) (AOs.r (AOs.r (AOs.r AOs.e)))
set_option maxHeartbeats 4000000 in
theorem spec_ConfOk_fn (a : List Int) : Eng.Fn E.P 57 [.one (.r (sl 1 cI a))] (.one (.one (.w (.v (.bool (confOk a)))))) [.one (.r (sl 1 cI a))] := by
 refine Eng.Fn.intro (E := E) (rvs := [.tmp 2]) Try.func57 rfl rfl rfl (by simp [outSlots, moved, rvSlot, sl]) ?_
 intro B g bo
 refine CW.bound (x := .tmp 0) (n := a.length) (AsT.r) (fun hl0 => ?_)
 refine CW.keep 10 [0] rfl ?_;(conv=>whnf);refine ⟨?_⟩
 refine CW.k XK 10 1 [0] rfl ?_
 (conv=>whnf);refine ⟨rfl,?_⟩
 refine CW.seqJ 10 (fun (v1 : Bool) => [(2, Bo v1)]) (fun v1 => v1 = ((inR (a.length : Int) 1 4) && (riseOk 1 4 none a))) ?_ ?_
 ·refine CW.region ?_
  refine RW.k XK 10 2 rfl ?_
  (conv=>whnf);refine ⟨rfl,?_⟩
  refine RW.call rfl (spec_l01In_fn (a.length : Int) 1 4) rfl (.cons (.one (.r .r)) (.cons (.one (.r .r)) (.cons (.one (.r .r)) (.nil)))) fun g2 => ?_
  refine RW.k XK 10 1 rfl ?_
  (conv=>whnf);refine ⟨rfl,?_⟩
  refine RW.gv rfl rfl rfl rfl (fun h3 => V.mv (d := .r (sl 1 cI a)) rfl rfl) (fun h3 => ?_) (fun h3 => ?_)
  ·skip
   refine RW.gcall rfl rfl rfl rfl (spec_l05Rise_fn a 1 4) rfl (.cons (.one (.r .r)) (.cons (.one (.r .r)) (.cons (.one (.r .r)) (.nil)))) fun g4 => ?_
   refine RW.k XK 10 2 rfl ?_
   (conv=>whnf);refine ⟨rfl,?_⟩
   refine RW.nil ?_
   exact ⟨_, by first | rfl | (simp_all; done) | (simp_all; omega) | grind, rfl, Le.of rfl⟩
  ·skip
   refine RW.k XK 10 3 rfl ?_
   (conv=>whnf);refine ⟨rfl,?_⟩
   refine RW.nil ?_
   exact ⟨_, by first | rfl | (simp_all; done) | (simp_all; omega) | grind, rfl, Le.of rfl⟩
 ·intro v1 hv5
  refine CW.ret ?_
  exact Post.one (RV.b rfl (by simp_all [confOk])) (AOs.r AOs.e)
set_option maxHeartbeats 4000000 in
theorem spec_ReadConf_fn (s : ByteArray) (hm : s.size ≤ 1048576) : Eng.Fn E.P 90 [.one (.r (.v (.string s)))] (.tup [.one (.w (sl 1 cI ((readConf s).1))), .one (.w (.v (.bool ((readConf s).2))))]) [.one (.r (.v (.string s)))] := by
 refine Eng.Fn.intro (E := E) (rvs := [.tmp 2, .tmp 3]) Try.func90 rfl rfl rfl (by simp [outSlots, moved, rvSlot, sl]) ?_
 intro B g bo
 refine CW.keep 36 [0] rfl ?_;(conv=>whnf);refine ⟨?_⟩
 refine CW.k XK 36 1 [0] rfl ?_
 (conv=>whnf);refine ⟨rfl,?_⟩
 refine CW.seq ?_
 refine CW.region ?_
 refine RW.build0 cI rfl rfl rfl rfl rfl fun X1 => ?_
 refine RW.assignMove rfl rfl rfl (by decide) (Nat.le_of_ble_eq_true rfl) (Nat.le_of_ble_eq_true rfl) ?_
 refine RW.nil ?_
 refine CW.keep 36 [0,4] rfl ?_;(conv=>whnf);refine ⟨?_⟩
 refine CW.seq ?_
 refine CW.k XK 36 1 [0,4,5] rfl ?_
 (conv=>whnf);refine ⟨rfl,?_⟩
 refine CW.block ?_
 refine CW.loopI 36 (fun (zz : Nat × Value) => match zz with | (i, X) => [(0, S s), (4, .w (sl 1 cI (bys s i)) X), (5, I (i : Int))]) (fun (zz : Nat × Value) => match zz with | (i, X) => i ≤ s.size ∧ i ≤ 5) (fun (zz : Nat × Value) => match zz with | (i, X) => s.size - i) (0, _) rfl (Le.c rfl <| Le.c rfl <| Le.c rfl <| Le.e) ⟨by omega, by omega⟩ ?_
 rintro ⟨i, X⟩ ⟨hb, hq⟩
 refine CW.seq ?_
 refine CW.seqJ 36 (fun (v2 : Bool) => [(0, S s), (4, .w (sl 1 cI (bys s i)) X), (5, I (i : Int)), (14, Bo v2)]) (fun v2 => v2 = (decide ((i : Int) < (s.size : Int)) && decide ((i : Int) ≤ 4))) ?_ ?_
 ·refine CW.region ?_
  refine RW.k XK 36 5 rfl ?_
  (conv=>whnf);refine ⟨rfl,?_⟩
  refine RW.gv rfl rfl rfl rfl (fun h3 => V.mv (d := I (i : Int)) rfl rfl) (fun h3 => ?_) (fun h3 => ?_)
  ·skip
   refine RW.k XK 36 2 rfl ?_
   (conv=>whnf);refine ⟨rfl,?_⟩
   refine RW.nil ?_
   exact ⟨_, by first | rfl | (simp_all; done) | (simp_all; omega) | grind, rfl, Le.of rfl⟩
  ·skip
   refine RW.k XK 36 2 rfl ?_
   (conv=>whnf);refine ⟨rfl,?_⟩
   refine RW.nil ?_
   exact ⟨_, by first | rfl | (simp_all; done) | (simp_all; omega) | grind, rfl, Le.of rfl⟩
 ·intro v2 hv4
  refine CW.cond rfl (fun h5 => ?_) (fun h5 => ?_)
  ·skip
   have hlt : i < s.size := by rw [hv4] at h5; simp at h5; omega
   have hl4 : i ≤ 4 := by rw [hv4] at h5; simp at h5; omega
   refine CW.skip ?_
   refine CW.keep 36 [0,4,5] rfl ?_;(conv=>whnf);refine ⟨?_⟩
   refine CW.seq ?_
   refine CW.block ?_
   refine CW.region ?_
   refine RW.k XK 36 3 rfl ?_
   (conv=>whnf);refine ⟨rfl,?_⟩
   refine RW.v rfl (V.idxStr (m := i) rfl (by kernel_rfl) rfl rfl hlt) ?_
   refine RW.k XK 36 1 rfl ?_
   (conv=>whnf);refine ⟨rfl,?_⟩
   refine RW.build1c (c := cI) (v := (IntKind.i64.wrap (bat s i))) (u := .v (.int .i64 (IntKind.i64.wrap (bat s i)))) rfl rfl rfl rfl rfl rfl (.inl rfl) rfl rfl fun X6 => ?_
   refine RW.appendSR (c := cI) (l1 := (bys s i)) (l2 := [(IntKind.i64.wrap (bat s i))]) rfl rfl rfl rfl rfl rfl rfl rfl (.al (k := none) (i := 22) (sz := 1) (V := X6) rfl rfl nofun) (by decide) (Nat.le_of_ble_eq_true rfl) cI.len (fun _ => rfl) rfl (by simp only [maxLen, bys_len, List.length_singleton]; omega) (by simp only [maxLen, bys_len, List.length_singleton]; omega) fun X7 => ?_
   refine RW.assignMove rfl rfl rfl (by decide) (Nat.le_of_ble_eq_true rfl) (Nat.le_of_ble_eq_true rfl) ?_
   refine RW.nil ?_
   refine CW.keep 36 [0,4,5] rfl ?_;(conv=>whnf);refine ⟨?_⟩
   refine CW.region ?_
   refine RW.k XK 36 1 rfl ?_
   (conv=>whnf);refine ⟨rfl,?_⟩
   refine RW.v rfl (V.inc rfl rfl rfl hlt (by simp only [maxLen]; omega)) ?_
   refine RW.k XK 36 1 rfl ?_
   (conv=>whnf);refine ⟨rfl,?_⟩
   refine RW.nil ?_
   exact ⟨(i + 1, _), by simp only []; omega, ⟨by omega, by omega⟩, rfl, Le.c rfl <| Le.c (Dw_congr (bys_succ s i).symm) <| Le.c rfl <| Le.e⟩
  ·skip
   refine CW.exit ?_
   refine CW.keep 36 [0,4] rfl ?_;(conv=>whnf);refine ⟨?_⟩
   refine CW.seq ?_
   refine CW.seqJ 36 (fun (v8 : Bool) => [(4, .w (sl 1 cI (bys s i)) X), (33, Bo v8)]) (fun v8 => v8 = ((((bys s i).length : Int) != (s.size : Int)) || (!(confOk (bys s i))))) ?_ ?_
   ·refine CW.region ?_
    refine RW.k XK 36 6 rfl ?_
    (conv=>whnf);refine ⟨rfl,?_⟩
    refine RW.gv rfl rfl rfl rfl (fun h9 => V.mv (d := .al 4 none 1 ((bys s i).length) X 0) rfl rfl) (fun h9 => ?_) (fun h9 => ?_)
    ·skip
     refine RW.gcallOwn rfl rfl rfl rfl (spec_ConfOk_fn (bys s i)) rfl (.cons (.one (.r (.al (k := none) (i := 4) (sz := 1) (V := X) rfl rfl nofun))) (.nil)) rfl fun g10 => ?_
     refine RW.k XK 36 2 rfl ?_
     (conv=>whnf);refine ⟨rfl,?_⟩
     refine RW.nil ?_
     exact ⟨_, by first | rfl | (simp_all; done) | (simp_all; omega) | grind, rfl, Le.of rfl⟩
    ·skip
     refine RW.k XK 36 3 rfl ?_
     (conv=>whnf);refine ⟨rfl,?_⟩
     refine RW.nil ?_
     exact ⟨_, by first | rfl | (simp_all; done) | (simp_all; omega) | grind, rfl, Le.of rfl⟩
   ·intro v8 hv11
    refine CW.cond rfl (fun h12 => ?_) (fun h12 => ?_)
    ·skip
     refine CW.seq ?_
     refine CW.region ?_
     refine RW.build0 cI rfl rfl rfl rfl rfl fun X13 => ?_
     refine RW.assignMove rfl rfl rfl (by decide) (Nat.le_of_ble_eq_true rfl) (Nat.le_of_ble_eq_true rfl) ?_
     refine RW.k XK 36 1 rfl ?_
     (conv=>whnf);refine ⟨rfl,?_⟩
     refine RW.nil ?_
     refine CW.keep 36 [2,3] rfl ?_;(conv=>whnf);refine ⟨?_⟩
     refine CW.ret ?_
     exact Post.tup (by decide) (RVs.c (RV.w rfl (by rw [rc_no (rc_exit hq hb hv4 h5) (by simp_all)])) (RVs.c (RV.b rfl (by rw [rc_no (rc_exit hq hb hv4 h5) (by simp_all)])) RVs.e)) (AOs.r AOs.e)
    ·skip
     refine CW.skip ?_
     refine CW.keep 36 [4] rfl ?_;(conv=>whnf);refine ⟨?_⟩
     refine CW.seq ?_
     refine CW.region ?_
     refine RW.k XK 36 2 rfl ?_
     (conv=>whnf);refine ⟨rfl,?_⟩
     refine RW.pullS 2 4 (by decide) rfl rfl ?_
     refine RW.k XK 36 1 rfl ?_
     (conv=>whnf);refine ⟨rfl,?_⟩
     refine RW.nil ?_
     refine CW.keep 36 [2,3] rfl ?_;(conv=>whnf);refine ⟨?_⟩
     refine CW.ret ?_
     exact Post.tup (by decide) (RVs.c (RV.w rfl (by rw [rc_yes (i := i) (by simp_all)])) (RVs.c (RV.b rfl (by rw [rc_yes (i := i) (by simp_all)])) RVs.e)) (AOs.r AOs.e)
set_option maxHeartbeats 4000000 in
theorem spec_EntryOk_fn (e : Entry) (hok : okToEntry e) : Eng.Fn E.P 88 [.agg ((Entry.c e).map .r)] (.one (.one (.w (.v (.bool (entOk e)))))) [.agg ((Entry.c e).map .r)] := by
 refine Eng.Fn.intro (E := E) (rvs := [.tmp 2]) Try.func88 rfl rfl rfl (by simp [outSlots, moved, rvSlot, sl]) ?_
 intro B g bo
 refine CW.keep 31 [0] rfl ?_;(conv=>whnf);refine ⟨?_⟩
 refine CW.seq ?_
 refine CW.region ?_
 refine RW.k XK 31 1 rfl ?_
 (conv=>whnf);intro b1;(conv=>whnf);refine ⟨rfl,?_⟩
 refine RW.freezeB (ts := (Entry.c e)) 1 rfl (DRd.r (DRd.r (DRd.r DRd.e))) ?_
 refine RW.k XK 31 1 rfl ?_
 (conv=>whnf);refine ⟨rfl,?_⟩
 refine RW.nil ?_
 refine CW.keep 31 [1] rfl ?_;(conv=>whnf);refine ⟨?_⟩
 refine CW.seq ?_
 refine CW.seq ?_
 refine CW.region ?_
 refine RW.k XK 31 2 rfl ?_
 (conv=>whnf);refine ⟨rfl,?_⟩
 refine RW.call rfl (spec_l01In_fn e.term_ 0 100000) rfl (.cons (.one (.r .r)) (.cons (.one (.r .r)) (.cons (.one (.r .r)) (.nil)))) fun g2 => ?_
 refine RW.k XK 31 1 rfl ?_
 (conv=>whnf);refine ⟨rfl,?_⟩
 refine RW.nil ?_
 refine CW.keep 31 [1,8] rfl ?_;(conv=>whnf);refine ⟨?_⟩
 refine CW.cond rfl (fun h3 => ?_) (fun h3 => ?_)
 ·skip
  refine CW.k XK 31 1 [2] rfl ?_
  (conv=>whnf);refine ⟨rfl,?_⟩
  refine CW.ret ?_
  exact Post.one (RV.b rfl (by first | (simp_all [entOk]; done) | grind [entOk])) (AOs.a rfl AOs.e)
 ·skip
  refine CW.skip ?_
  refine CW.keep 31 [1] rfl ?_;(conv=>whnf);refine ⟨?_⟩
  refine CW.seq ?_
  refine CW.k XK 31 1 [1,10] rfl ?_
  (conv=>whnf);refine ⟨rfl,?_⟩
  refine CW.block ?_
  refine CW.k XK 31 1 [1,10,11] rfl ?_
  (conv=>whnf);refine ⟨rfl,?_⟩
  refine CW.cond rfl (fun h4 => ?_) (fun h4 => ?_)
  ·skip
   refine CW.k XK 31 1 [2] rfl ?_
   (conv=>whnf);refine ⟨rfl,?_⟩
   refine CW.ret ?_
   exact Post.one (RV.b rfl (by first | (simp_all [entOk]; done) | grind [entOk])) (AOs.a rfl AOs.e)
  ·skip
   refine CW.k XK 31 1 [1,10,16] rfl ?_
   (conv=>whnf);refine ⟨rfl,?_⟩
   refine CW.cond rfl (fun h5 => ?_) (fun h5 => ?_)
   ·skip
    refine CW.seq ?_
    refine CW.region ?_
    refine RW.k XK 31 2 rfl ?_
    (conv=>whnf);refine ⟨rfl,?_⟩
    refine RW.call rfl (spec_ReadConf_fn e.data hok) rfl (.cons (.one (.r .r)) (.nil)) fun g6 => ?_
    refine RW.k XK 31 3 rfl ?_
    (conv=>whnf);refine ⟨rfl,?_⟩
    refine RW.assignMove rfl rfl rfl (by decide) (Nat.le_of_ble_eq_true rfl) (Nat.le_of_ble_eq_true rfl) ?_
    refine RW.k XK 31 1 rfl ?_
    (conv=>whnf);refine ⟨rfl,?_⟩
    refine RW.nil ?_
    refine CW.keep 31 [4] rfl ?_;(conv=>whnf);refine ⟨?_⟩
    refine CW.k XK 31 1 [2] rfl ?_
    (conv=>whnf);refine ⟨rfl,?_⟩
    refine CW.ret ?_
    exact Post.one (RV.b rfl (by first | (simp_all [entOk]; done) | grind [entOk])) (AOs.a rfl AOs.e)
   ·skip
    refine CW.k XK 31 1 [1,25] rfl ?_
    (conv=>whnf);refine ⟨rfl,?_⟩
    refine CW.cond rfl (fun h7 => ?_) (fun h7 => ?_)
    ·skip
     refine CW.k XK 31 1 [2] rfl ?_
     (conv=>whnf);refine ⟨rfl,?_⟩
     refine CW.ret ?_
     exact Post.one (RV.b rfl (by first | (simp_all [entOk]; done) | grind [entOk])) (AOs.a rfl AOs.e)
    ·skip
     refine CW.skip ?_
     refine CW.keep 31 [] rfl ?_;(conv=>whnf);refine ⟨?_⟩
     refine CW.k XK 31 1 [2] rfl ?_
     (conv=>whnf);refine ⟨rfl,?_⟩
     refine CW.ret ?_
     exact Post.one (RV.b rfl (by first | (simp_all [entOk]; done) | grind [entOk])) (AOs.a rfl AOs.e)
set_option maxHeartbeats 4000000 in
theorem spec_LogOk_fn (l : Log) (hok : okToLog l) : Eng.Fn E.P 58 [.agg ((Log.c l).map .r)] (.one (.one (.w (.v (.bool (logOk l)))))) [.agg ((Log.c l).map .r)] := by
 refine Eng.Fn.intro (E := E) (rvs := [.tmp 2]) Try.func58 rfl rfl rfl (by simp [outSlots, moved, rvSlot, sl]) ?_
 intro B g bo
 refine CW.keep 62 [0] rfl ?_;(conv=>whnf);refine ⟨?_⟩
 have hl0 : l.entries.length ≤ maxLen := by have := hok.1; simp only [maxLen]; omega
 refine CW.seq ?_
 refine CW.region ?_
 refine RW.k XK 62 1 rfl ?_
 (conv=>whnf);intro b1;(conv=>whnf);refine ⟨rfl,?_⟩
 refine RW.freezeB (ts := (Log.c l)) 1 rfl (DRd.r (DRd.r (DRd.r DRd.e))) ?_
 refine RW.k XK 62 1 rfl ?_
 (conv=>whnf);refine ⟨rfl,?_⟩
 refine RW.nil ?_
 refine CW.keep 62 [1] rfl ?_;(conv=>whnf);refine ⟨?_⟩
 refine CW.seq ?_
 refine CW.seqJ 62 (fun (v2 : Bool) => [(1, .rp (Log.c l)), (29, Bo v2)]) (fun v2 => v2 = ((((!(inR l.start 0 1000000)) || (!(inR l.startTerm 0 100000))) || decide ((l.entries.length : Int) > 60)) || decide ((IntKind.i64.wrap (l.start + (l.entries.length : Int))) > 1000000))) ?_ ?_
 ·refine CW.region ?_
  refine RW.k XK 62 2 rfl ?_
  (conv=>whnf);refine ⟨rfl,?_⟩
  refine RW.call rfl (spec_l01In_fn l.start 0 1000000) rfl (.cons (.one (.r .r)) (.cons (.one (.r .r)) (.cons (.one (.r .r)) (.nil)))) fun g3 => ?_
  refine RW.k XK 62 2 rfl ?_
  (conv=>whnf);refine ⟨rfl,?_⟩
  refine RW.gv rfl rfl rfl rfl (fun h4 => V.fieldR rfl rfl rfl rfl (by decide) rfl (Nat.le_of_ble_eq_true rfl)) (fun h4 => ?_) (fun h4 => ?_)
  ·skip
   refine RW.k XK 62 1 rfl ?_
   (conv=>whnf);refine ⟨rfl,?_⟩
   refine RW.gcall rfl rfl rfl rfl (spec_l01In_fn l.startTerm 0 100000) rfl (.cons (.one (.r .r)) (.cons (.one (.r .r)) (.cons (.one (.r .r)) (.nil)))) fun g5 => ?_
   refine RW.k XK 62 3 rfl ?_
   (conv=>whnf);refine ⟨rfl,?_⟩
   refine RW.gv rfl rfl rfl rfl (fun h6 => V.fieldR rfl rfl rfl rfl (by decide) rfl (Nat.le_of_ble_eq_true rfl)) (fun h6 => ?_) (fun h6 => ?_)
   ·skip
    refine RW.k XK 62 5 rfl ?_
    (conv=>whnf);refine ⟨rfl,?_⟩
    refine RW.gv rfl rfl rfl rfl (fun h7 => V.fieldR rfl rfl rfl rfl (by decide) rfl (Nat.le_of_ble_eq_true rfl)) (fun h7 => ?_) (fun h7 => ?_)
    ·skip
     refine RW.k XK 62 7 rfl ?_
     (conv=>whnf);refine ⟨rfl,?_⟩
     refine RW.nil ?_
     exact ⟨_, by first | rfl | (simp_all; done) | (simp_all; omega) | grind, rfl, Le.of rfl⟩
    ·skip
     refine RW.k XK 62 7 rfl ?_
     (conv=>whnf);refine ⟨rfl,?_⟩
     refine RW.nil ?_
     exact ⟨_, by first | rfl | (simp_all; done) | (simp_all; omega) | grind, rfl, Le.of rfl⟩
   ·skip
    refine RW.k XK 62 13 rfl ?_
    (conv=>whnf);refine ⟨rfl,?_⟩
    refine RW.nil ?_
    exact ⟨_, by first | rfl | (simp_all; done) | (simp_all; omega) | grind, rfl, Le.of rfl⟩
  ·skip
   refine RW.k XK 62 19 rfl ?_
   (conv=>whnf);refine ⟨rfl,?_⟩
   refine RW.nil ?_
   exact ⟨_, by first | rfl | (simp_all; done) | (simp_all; omega) | grind, rfl, Le.of rfl⟩
 ·intro v2 hv8
  refine CW.cond rfl (fun h9 => ?_) (fun h9 => ?_)
  ·skip
   refine CW.k XK 62 1 [2] rfl ?_
   (conv=>whnf);refine ⟨rfl,?_⟩
   refine CW.ret ?_
   exact Post.one (RV.b rfl (by first | (simp_all [logOk]; done) | grind [logOk])) (AOs.a rfl AOs.e)
  ·skip
   refine CW.skip ?_
   refine CW.keep 62 [1] rfl ?_;(conv=>whnf);refine ⟨?_⟩
   refine CW.k XK 62 1 [1,3] rfl ?_
   (conv=>whnf);refine ⟨rfl,?_⟩
   refine CW.seq ?_
   refine CW.k XK 62 1 [1,3,4] rfl ?_
   (conv=>whnf);refine ⟨rfl,?_⟩
   refine CW.block ?_
   refine CW.loopI 62 (fun (zz : Nat × Int) => match zz with | (i, t) => [(1, .rp (Log.c l)), (3, I t), (4, I (i : Int))]) (fun (zz : Nat × Int) => match zz with | (i, t) => i ≤ l.entries.length ∧ termsOk t (l.entries.drop i) = termsOk l.startTerm l.entries) (fun (zz : Nat × Int) => match zz with | (i, t) => l.entries.length - i) (0, _) rfl (Le.c rfl <| Le.c rfl <| Le.c rfl <| Le.e) ⟨by omega, by simp⟩ ?_
   rintro ⟨i, t⟩ ⟨hb, hr⟩
   refine CW.seq ?_
   refine CW.k XK 62 1 [1,3,4,36] rfl ?_
   (conv=>whnf);refine ⟨rfl,?_⟩
   refine CW.cond rfl (fun h10 => ?_) (fun h10 => ?_)
   ·skip
    have hii : i < l.entries.length := by have := h10; simp at this; first | exact this | omega | (simp; done) | (simp; omega)
    obtain ⟨ei, hei⟩ : ∃ e, l.entries[i]? = some e := ⟨_, List.getElem?_eq_getElem hii⟩
    have hdi := drop_get hei
    refine CW.skip ?_
    refine CW.keep 62 [1,3,4] rfl ?_;(conv=>whnf);refine ⟨?_⟩
    refine CW.seq ?_
    refine CW.block ?_
    refine CW.seq ?_
    refine CW.seqJ 62 (fun (v11 : Bool) => [(1, .rp (Log.c l)), (4, I (i : Int)), (55, Bo v11)]) (fun v11 => v11 = ((!(entOk ei)) || decide (ei.term_ < t))) ?_ ?_
    ·refine CW.region ?_
     refine RW.k XK 62 3 rfl ?_
     (conv=>whnf);refine ⟨rfl,?_⟩
     refine RW.v rfl (V.indexS rfl rfl rfl rfl rfl rfl Entry.len hei) ?_
     refine RW.k XK 62 1 rfl ?_
     (conv=>whnf);refine ⟨rfl,?_⟩
     refine RW.call rfl (spec_EntryOk_fn ei (hok.2 ei (List.mem_of_getElem? hei))) rfl (.cons (.agg (.cons (.r .r) (.cons (.r .r) (.cons (.r .r) (.nil))))) (.nil)) fun g12 => ?_
     refine RW.k XK 62 2 rfl ?_
     (conv=>whnf);refine ⟨rfl,?_⟩
     refine RW.gv rfl rfl rfl rfl (fun h13 => V.fieldR rfl rfl rfl rfl (by decide) rfl (Nat.le_of_ble_eq_true rfl)) (fun h13 => ?_) (fun h13 => ?_)
     ·skip
      refine RW.k XK 62 2 rfl ?_
      (conv=>whnf);refine ⟨rfl,?_⟩
      refine RW.gt rfl rfl rfl rfl (V.indexS rfl rfl rfl rfl rfl rfl Entry.len hei) ?_
      refine RW.k XK 62 5 rfl ?_
      (conv=>whnf);refine ⟨rfl,?_⟩
      refine RW.nil ?_
      exact ⟨_, by first | rfl | (simp_all; done) | (simp_all; omega) | grind, rfl, Le.of rfl⟩
     ·skip
      refine RW.k XK 62 8 rfl ?_
      (conv=>whnf);refine ⟨rfl,?_⟩
      refine RW.nil ?_
      exact ⟨_, by first | rfl | (simp_all; done) | (simp_all; omega) | grind, rfl, Le.of rfl⟩
    ·intro v11 hv14
     refine CW.cond rfl (fun h15 => ?_) (fun h15 => ?_)
     ·skip
      refine CW.k XK 62 1 [2] rfl ?_
      (conv=>whnf);refine ⟨rfl,?_⟩
      refine CW.ret ?_
      exact Post.one (RV.b rfl (by have ht : termsOk l.startTerm l.entries = false := (by rw [← hr, hdi, termsOk]; first | (simp_all; done) | grind); simp [logOk, ht])) (AOs.a rfl AOs.e)
     ·skip
      refine CW.skip ?_
      refine CW.keep 62 [1,4] rfl ?_;(conv=>whnf);refine ⟨?_⟩
      refine CW.region ?_
      refine RW.k XK 62 3 rfl ?_
      (conv=>whnf);refine ⟨rfl,?_⟩
      refine RW.v rfl (V.indexS rfl rfl rfl rfl rfl rfl Entry.len hei) ?_
      refine RW.k XK 62 3 rfl ?_
      (conv=>whnf);refine ⟨rfl,?_⟩
      refine RW.nil ?_
      refine CW.keep 62 [1,3,4] rfl ?_;(conv=>whnf);refine ⟨?_⟩
      refine CW.region ?_
      refine RW.k XK 62 1 rfl ?_
      (conv=>whnf);refine ⟨rfl,?_⟩
      refine RW.v rfl (V.inc rfl rfl rfl hii hl0) ?_
      refine RW.k XK 62 1 rfl ?_
      (conv=>whnf);refine ⟨rfl,?_⟩
      refine RW.nil ?_
      exact ⟨(i + 1, _), by simp only []; omega, ⟨by omega, by rw [← hr, hdi, termsOk]; simp_all⟩, rfl, Le.c rfl <| Le.c rfl <| Le.c rfl <| Le.e⟩
   ·skip
    have hii : l.entries.length ≤ i := by have := h10; simp at this; first | exact this | omega | (simp; done) | (simp; omega)
    have hdi : l.entries.drop i = [] := List.drop_eq_nil_of_le hii
    refine CW.exit ?_
    refine CW.keep 62 [] rfl ?_;(conv=>whnf);refine ⟨?_⟩
    refine CW.k XK 62 1 [2] rfl ?_
    (conv=>whnf);refine ⟨rfl,?_⟩
    refine CW.ret ?_
    exact Post.one (RV.b rfl (by have ht : termsOk l.startTerm l.entries = true := (by rw [← hr, hdi]; rfl); clear hr hdi; first | (simp_all [logOk]; done) | grind [logOk])) (AOs.a rfl AOs.e)
set_option maxHeartbeats 4000000 in
theorem spec_LogLast_fn (l : Log) (hok : okToLog l) : Eng.Fn E.P 59 [.agg ((Log.c l).map .r)] (.tup [.one (.w (.v (.int .i64 ((logLast l).1)))), .one (.w (.v (.int .i64 ((logLast l).2))))]) [.agg ((Log.c l).map .r)] := by
 refine Eng.Fn.intro (E := E) (rvs := [.tmp 2, .tmp 3]) Try.func59 rfl rfl rfl (by simp [outSlots, moved, rvSlot, sl]) ?_
 intro B g bo
 refine CW.keep 25 [0] rfl ?_;(conv=>whnf);refine ⟨?_⟩
 have hle : l.entries.length ≤ maxLen := by have := hok.1; simp only [maxLen]; omega
 refine CW.seq ?_
 refine CW.region ?_
 refine RW.k XK 25 1 rfl ?_
 (conv=>whnf);intro b1;(conv=>whnf);refine ⟨rfl,?_⟩
 refine RW.freezeB (ts := (Log.c l)) 1 rfl (DRd.r (DRd.r (DRd.r DRd.e))) ?_
 refine RW.k XK 25 2 rfl ?_
 (conv=>whnf);refine ⟨rfl,?_⟩
 refine RW.nil ?_
 refine CW.keep 25 [1] rfl ?_;(conv=>whnf);refine ⟨?_⟩
 refine CW.k XK 25 1 [1,4] rfl ?_
 (conv=>whnf);refine ⟨rfl,?_⟩
 refine CW.seq ?_
 refine CW.k XK 25 1 [1,4,9] rfl ?_
 (conv=>whnf);refine ⟨rfl,?_⟩
 refine CW.cond rfl (fun h2 => ?_) (fun h2 => ?_)
 ·skip
  refine CW.seq ?_
  refine CW.drawn (by kernel_rfl) ?_
  refine RQ.k XK 25 6 rfl ?_
  (conv=>whnf);refine ⟨rfl,?_⟩
  refine RQ.nil ?_
  refine CW.keep 25 [2,3] rfl ?_;(conv=>whnf);refine ⟨?_⟩
  refine CW.ret ?_
  exact Post.tup (by decide) (RVs.c (RV.i rfl (by simp_all [logLast])) (RVs.c (RV.i rfl (by simp_all [logLast])) RVs.e)) (AOs.a rfl AOs.e)
 ·skip
  have hpos : 0 < l.entries.length := List.length_pos_iff.2 (by simpa using h2)
  refine CW.skip ?_
  refine CW.keep 25 [1,4] rfl ?_;(conv=>whnf);refine ⟨?_⟩
  refine CW.seq ?_
  refine CW.drawn (by kernel_rfl) ?_
  refine RQ.k XK 25 7 rfl ?_
  (conv=>whnf);refine ⟨rfl,?_⟩
  refine RQ.v rfl (V.dec (m := l.entries.length) rfl rfl rfl hpos hle) ?_
  refine RQ.v rfl (V.indexS rfl rfl rfl rfl rfl rfl Entry.len (getD_some (l := l.entries) (j := l.entries.length - 1) (z := Entry.z) (by omega))) ?_
  refine RQ.k XK 25 4 rfl ?_
  (conv=>whnf);refine ⟨rfl,?_⟩
  refine RQ.nil ?_
  refine CW.keep 25 [2,3] rfl ?_;(conv=>whnf);refine ⟨?_⟩
  refine CW.ret ?_
  exact Post.tup (by decide) (RVs.c (RV.i rfl (by simp_all [logLast])) (RVs.c (RV.i rfl (by simp_all [logLast])) RVs.e)) (AOs.a rfl AOs.e)
set_option maxHeartbeats 4000000 in
theorem spec_ConfAt_fn (n : Node) (idx : Int) (hok : okToNode n) : Eng.Fn E.P 82 [.agg ((Node.c n).map .r), .one (.r (.v (.int .i64 idx)))] (.one (.one (.w (sl 1 cI (confAtS n idx))))) [.agg ((Node.c n).map .r), .one (.r (.v (.int .i64 idx)))] := by
 refine Eng.Fn.intro (E := E) (rvs := [.tmp 4]) Try.func82 rfl rfl rfl (by simp [outSlots, moved, rvSlot, sl]) ?_
 intro B g bo
 refine CW.keep 53 [0,1] rfl ?_;(conv=>whnf);refine ⟨?_⟩
 have hl0 : n.log.entries.length ≤ maxLen := by have := hok.2.1.1; simp only [maxLen]; omega
 refine CW.seq ?_
 refine CW.region ?_
 refine RW.k XK 53 1 rfl ?_
 (conv=>whnf);intro b1;(conv=>whnf);refine ⟨rfl,?_⟩
 refine RW.freezeB (ts := (Node.c n)) 2 rfl (DRd.r (DRd.r (DRd.r (DRd.r (DRd.r (DRd.r (DRd.r (DRd.r (DRd.r (DRd.r (DRd.r (DRd.r (DRd.r (DRd.r DRd.e)))))))))))))) ?_
 refine RW.k XK 53 1 rfl ?_
 (conv=>whnf);refine ⟨rfl,?_⟩
 refine RW.nil ?_
 refine CW.keep 53 [1,2] rfl ?_;(conv=>whnf);refine ⟨?_⟩
 refine CW.seq ?_
 refine CW.region ?_
 refine RW.build0 cI rfl rfl rfl rfl rfl fun X2 => ?_
 refine RW.k XK 53 2 rfl ?_
 (conv=>whnf);refine ⟨rfl,?_⟩
 refine RW.appendSR (c := cI) (l1 := ([] : List Int)) (l2 := n.conf) rfl rfl rfl rfl rfl rfl rfl rfl .r (by decide) (Nat.le_of_ble_eq_true rfl) cI.len (fun _ => rfl) rfl (by have := hok.1.1; simp only [maxLen, List.length_nil]; omega) (by have := hok.1.1; simp only [maxLen, List.length_nil]; omega) fun X3 => ?_
 refine RW.assignMove rfl rfl rfl (by decide) (Nat.le_of_ble_eq_true rfl) (Nat.le_of_ble_eq_true rfl) ?_
 refine RW.nil ?_
 refine CW.keep 53 [1,2,5] rfl ?_;(conv=>whnf);refine ⟨?_⟩
 refine CW.seq ?_
 refine CW.k XK 53 1 [1,2,5,6] rfl ?_
 (conv=>whnf);refine ⟨rfl,?_⟩
 refine CW.block ?_
 refine CW.loopI 53 (fun (zz : Nat × List Int × Value) => match zz with | (i, out, X) => [(1, I idx), (2, .rp (Node.c n)), (5, .w (sl 1 cI out) X), (6, I (i : Int))]) (fun (zz : Nat × List Int × Value) => match zz with | (i, out, X) => i ≤ n.log.entries.length ∧ cfGo n.log.start idx i (n.log.entries.drop i) out = cfGo n.log.start idx 0 n.log.entries n.conf) (fun (zz : Nat × List Int × Value) => match zz with | (i, out, X) => n.log.entries.length - i) (0, _, _) rfl (Le.c rfl <| Le.c rfl <| Le.c rfl <| Le.c rfl <| Le.e) ⟨by omega, by simp⟩ ?_
 rintro ⟨i, out, X⟩ ⟨hb, hr⟩
 refine CW.seq ?_
 refine CW.seqJ 53 (fun (v4 : Bool) => [(1, I idx), (2, .rp (Node.c n)), (5, .w (sl 1 cI out) X), (6, I (i : Int)), (28, Bo v4)]) (fun v4 => v4 = (decide ((i : Int) < (n.log.entries.length : Int)) && decide ((IntKind.i64.wrap ((IntKind.i64.wrap (n.log.start + 1)) + (i : Int))) ≤ idx))) ?_ ?_
 ·refine CW.region ?_
  refine RW.k XK 53 7 rfl ?_
  (conv=>whnf);refine ⟨rfl,?_⟩
  refine RW.gv rfl rfl rfl rfl (fun h5 => V.fieldR rfl rfl rfl rfl (by decide) rfl (Nat.le_of_ble_eq_true rfl)) (fun h5 => ?_) (fun h5 => ?_)
  ·skip
   refine RW.k XK 53 8 rfl ?_
   (conv=>whnf);refine ⟨rfl,?_⟩
   refine RW.nil ?_
   exact ⟨_, by first | rfl | (simp_all; done) | (simp_all; omega) | grind, rfl, Le.of rfl⟩
  ·skip
   refine RW.k XK 53 8 rfl ?_
   (conv=>whnf);refine ⟨rfl,?_⟩
   refine RW.nil ?_
   exact ⟨_, by first | rfl | (simp_all; done) | (simp_all; omega) | grind, rfl, Le.of rfl⟩
 ·intro v4 hv6
  refine CW.cond rfl (fun h7 => ?_) (fun h7 => ?_)
  ·skip
   have hii : i < n.log.entries.length := by rw [hv6] at h7; simp at h7; omega
   have hle : IntKind.i64.wrap (IntKind.i64.wrap (n.log.start + 1) + (i : Int)) ≤ idx := by rw [hv6] at h7; simp at h7; exact h7.2
   obtain ⟨ei, hei⟩ : ∃ e, n.log.entries[i]? = some e := ⟨_, List.getElem?_eq_getElem hii⟩
   have hdi := drop_get hei
   refine CW.skip ?_
   refine CW.keep 53 [1,2,5,6] rfl ?_;(conv=>whnf);refine ⟨?_⟩
   refine CW.seq ?_
   refine CW.block ?_
   refine CW.seq ?_
   refine CW.region ?_
   refine RW.k XK 53 4 rfl ?_
   (conv=>whnf);refine ⟨rfl,?_⟩
   refine RW.v rfl (V.indexS rfl rfl rfl rfl rfl rfl Entry.len hei) ?_
   refine RW.k XK 53 3 rfl ?_
   (conv=>whnf);refine ⟨rfl,?_⟩
   refine RW.nil ?_
   refine CW.keep 53 [1,2,5,6,38] rfl ?_;(conv=>whnf);refine ⟨?_⟩
   refine CW.cond rfl (fun h8 => ?_) (fun h8 => ?_)
   ·skip
    refine CW.seq ?_
    refine CW.region ?_
    refine RW.k XK 53 4 rfl ?_
    (conv=>whnf);refine ⟨rfl,?_⟩
    refine RW.v rfl (V.indexS rfl rfl rfl rfl rfl rfl Entry.len hei) ?_
    refine RW.k XK 53 2 rfl ?_
    (conv=>whnf);refine ⟨rfl,?_⟩
    refine RW.call rfl (spec_ReadConf_fn ei.data (hok.2.1.2 ei (List.mem_of_getElem? hei))) rfl (.cons (.one (.r .r)) (.nil)) fun g9 => ?_
    refine RW.k XK 53 3 rfl ?_
    (conv=>whnf);refine ⟨rfl,?_⟩
    refine RW.assignMove rfl rfl rfl (by decide) (Nat.le_of_ble_eq_true rfl) (Nat.le_of_ble_eq_true rfl) ?_
    refine RW.k XK 53 1 rfl ?_
    (conv=>whnf);refine ⟨rfl,?_⟩
    refine RW.nil ?_
    refine CW.keep 53 [1,2,5,6,7,8] rfl ?_;(conv=>whnf);refine ⟨?_⟩
    refine CW.k XK 53 1 [1,2,5,6,7,50] rfl ?_
    (conv=>whnf);refine ⟨rfl,?_⟩
    refine CW.cond rfl (fun h10 => ?_) (fun h10 => ?_)
    ·skip
     refine CW.region ?_
     refine RW.k XK 53 2 rfl ?_
     (conv=>whnf);refine ⟨rfl,?_⟩
     refine RW.pullS 5 7 (by decide) rfl rfl ?_
     refine RW.nil ?_
     refine CW.keep 53 [1,2,5,6] rfl ?_;(conv=>whnf);refine ⟨?_⟩
     refine CW.region ?_
     refine RW.k XK 53 1 rfl ?_
     (conv=>whnf);refine ⟨rfl,?_⟩
     refine RW.v rfl (V.inc rfl rfl rfl hii hl0) ?_
     refine RW.k XK 53 1 rfl ?_
     (conv=>whnf);refine ⟨rfl,?_⟩
     refine RW.nil ?_
     exact ⟨(i + 1, (readConf ei.data).1, _), by simp only []; omega, ⟨by omega, by rw [← hr, hdi]; exact cf_step hle (by simp_all)⟩, rfl, Le.c rfl <| Le.c rfl <| Le.c rfl <| Le.c rfl <| Le.e⟩
    ·skip
     refine CW.skip ?_
     refine CW.keep 53 [1,2,5,6] rfl ?_;(conv=>whnf);refine ⟨?_⟩
     refine CW.region ?_
     refine RW.k XK 53 1 rfl ?_
     (conv=>whnf);refine ⟨rfl,?_⟩
     refine RW.v rfl (V.inc rfl rfl rfl hii hl0) ?_
     refine RW.k XK 53 1 rfl ?_
     (conv=>whnf);refine ⟨rfl,?_⟩
     refine RW.nil ?_
     exact ⟨(i + 1, out, _), by simp only []; omega, ⟨by omega, by rw [← hr, hdi]; exact cf_step hle (by simp_all)⟩, rfl, Le.c rfl <| Le.c rfl <| Le.c rfl <| Le.c rfl <| Le.e⟩
   ·skip
    refine CW.skip ?_
    refine CW.keep 53 [1,2,5,6] rfl ?_;(conv=>whnf);refine ⟨?_⟩
    refine CW.region ?_
    refine RW.k XK 53 1 rfl ?_
    (conv=>whnf);refine ⟨rfl,?_⟩
    refine RW.v rfl (V.inc rfl rfl rfl hii hl0) ?_
    refine RW.k XK 53 1 rfl ?_
    (conv=>whnf);refine ⟨rfl,?_⟩
    refine RW.nil ?_
    exact ⟨(i + 1, out, _), by simp only []; omega, ⟨by omega, by rw [← hr, hdi]; exact cf_step hle (by simp_all)⟩, rfl, Le.c rfl <| Le.c rfl <| Le.c rfl <| Le.c rfl <| Le.e⟩
  ·skip
   refine CW.exit ?_
   refine CW.keep 53 [5] rfl ?_;(conv=>whnf);refine ⟨?_⟩
   refine CW.seq ?_
   refine CW.region ?_
   refine RW.k XK 53 2 rfl ?_
   (conv=>whnf);refine ⟨rfl,?_⟩
   refine RW.pullS 4 5 (by decide) rfl rfl ?_
   refine RW.nil ?_
   refine CW.keep 53 [4] rfl ?_;(conv=>whnf);refine ⟨?_⟩
   refine CW.ret ?_
   exact Post.one (RV.w rfl (by rw [confAtS, ← hr]; exact cf_stop hv6 h7)) (AOs.a rfl (AOs.r AOs.e))
set_option maxHeartbeats 4000000 in
theorem spec_ConfOf_fn (n : Node) (hok : okToNode n) : Eng.Fn E.P 62 [.agg ((Node.c n).map .r)] (.one (.one (.w (sl 1 cI (confAtS n 1000060))))) [.agg ((Node.c n).map .r)] := by
 refine Eng.Fn.intro (E := E) (rvs := [.tmp 2]) Try.func62 rfl rfl rfl (by simp [outSlots, moved, rvSlot, sl]) ?_
 intro B g bo
 refine CW.keep 5 [0] rfl ?_;(conv=>whnf);refine ⟨?_⟩
 refine CW.seq ?_
 refine CW.region ?_
 refine RW.k XK 5 1 rfl ?_
 (conv=>whnf);intro b1;(conv=>whnf);refine ⟨rfl,?_⟩
 refine RW.freezeB (ts := (Node.c n)) 1 rfl (DRd.r (DRd.r (DRd.r (DRd.r (DRd.r (DRd.r (DRd.r (DRd.r (DRd.r (DRd.r (DRd.r (DRd.r (DRd.r (DRd.r DRd.e)))))))))))))) ?_
 refine RW.k XK 5 1 rfl ?_
 (conv=>whnf);refine ⟨rfl,?_⟩
 refine RW.nil ?_
 refine CW.keep 5 [1] rfl ?_;(conv=>whnf);refine ⟨?_⟩
 refine CW.seq ?_
 refine CW.region ?_
 refine RW.k XK 5 1 rfl ?_
 (conv=>whnf);refine ⟨rfl,?_⟩
 refine RW.call rfl (spec_ConfAt_fn n 1000060 hok) rfl (.cons (.agg (.cons (.r .r) (.cons (.r .r) (.cons (.r .r) (.cons (.r .r) (.cons (.r .r) (.cons (.r .r) (.cons (.r .r) (.cons (.r .r) (.cons (.r .r) (.cons (.r .r) (.cons (.r .r) (.cons (.r .r) (.cons (.r .r) (.cons (.r .r) (.nil)))))))))))))))) (.cons (.one (.r .r)) (.nil))) fun g2 => ?_
 refine RW.assignMove rfl rfl rfl (by decide) (Nat.le_of_ble_eq_true rfl) (Nat.le_of_ble_eq_true rfl) ?_
 refine RW.nil ?_
 refine CW.keep 5 [2] rfl ?_;(conv=>whnf);refine ⟨?_⟩
 refine CW.ret ?_
 exact Post.one (RV.w rfl (by rfl)) (AOs.a rfl AOs.e)
set_option maxHeartbeats 4000000 in
theorem spec_l18Others_fn (a : List Int) (n : Int) (hm : a.length ≤ 1048576) : Eng.Fn E.P 61 [.one (.r (sl 1 cI a)), .one (.r (.v (.int .i64 n)))] (.one (.one (.w (sl 1 cI (others a n))))) [.one (.r (sl 1 cI a)), .one (.r (.v (.int .i64 n)))] := by
 refine Eng.Fn.intro (E := E) (rvs := [.tmp 4]) Try.func61 rfl rfl rfl (by simp [outSlots, moved, rvSlot, sl]) ?_
 intro B g bo
 refine CW.bound (x := .tmp 0) (n := a.length) (AsT.r) (fun hl0 => ?_)
 refine CW.keep 28 [0,1] rfl ?_;(conv=>whnf);refine ⟨?_⟩
 refine CW.k XK 28 1 [0,1] rfl ?_
 (conv=>whnf);refine ⟨rfl,?_⟩
 refine CW.seq ?_
 refine CW.region ?_
 refine RW.build0 cI rfl rfl rfl rfl rfl fun X1 => ?_
 refine RW.assignMove rfl rfl rfl (by decide) (Nat.le_of_ble_eq_true rfl) (Nat.le_of_ble_eq_true rfl) ?_
 refine RW.nil ?_
 refine CW.keep 28 [0,1,5] rfl ?_;(conv=>whnf);refine ⟨?_⟩
 refine CW.seq ?_
 refine CW.k XK 28 1 [0,1,5,6] rfl ?_
 (conv=>whnf);refine ⟨rfl,?_⟩
 refine CW.block ?_
 refine CW.loopI 28 (fun (zz : Nat × Value) => match zz with | (i, X) => [(0, .r (sl 1 cI a)), (1, I n), (5, .w (sl 1 cI (others (a.take i) n)) X), (6, I (i : Int))]) (fun (zz : Nat × Value) => match zz with | (i, X) => i ≤ a.length) (fun (zz : Nat × Value) => match zz with | (i, X) => a.length - i) (0, _) rfl (Le.c rfl <| Le.c rfl <| Le.c rfl <| Le.c rfl <| Le.e) (by omega) ?_
 rintro ⟨i, X⟩ hb
 refine CW.seq ?_
 refine CW.k XK 28 1 [0,1,5,6,11] rfl ?_
 (conv=>whnf);refine ⟨rfl,?_⟩
 refine CW.cond rfl (fun h2 => ?_) (fun h2 => ?_)
 ·skip
  have hii : i < a.length := by have := h2; simp at this; first | exact this | omega | (simp; done) | (simp; omega)
  obtain ⟨ei, hei⟩ : ∃ e, a[i]? = some e := ⟨_, List.getElem?_eq_getElem hii⟩
  have hdi := drop_get hei
  refine CW.skip ?_
  refine CW.keep 28 [0,1,5,6] rfl ?_;(conv=>whnf);refine ⟨?_⟩
  refine CW.seq ?_
  refine CW.block ?_
  refine CW.seq ?_
  refine CW.region ?_
  refine RW.k XK 28 2 rfl ?_
  (conv=>whnf);refine ⟨rfl,?_⟩
  refine RW.v rfl (V.indexS rfl rfl rfl rfl rfl rfl cI.len hei) ?_
  refine RW.k XK 28 3 rfl ?_
  (conv=>whnf);refine ⟨rfl,?_⟩
  refine RW.nil ?_
  refine CW.keep 28 [0,1,5,6,19] rfl ?_;(conv=>whnf);refine ⟨?_⟩
  refine CW.cond rfl (fun h3 => ?_) (fun h3 => ?_)
  ·skip
   refine CW.region ?_
   refine RW.k XK 28 3 rfl ?_
   (conv=>whnf);refine ⟨rfl,?_⟩
   refine RW.v rfl (V.indexS rfl rfl rfl rfl rfl rfl cI.len hei) ?_
   refine RW.k XK 28 1 rfl ?_
   (conv=>whnf);refine ⟨rfl,?_⟩
   refine RW.build1c (c := cI) (v := ei) (u := .v (.int .i64 ei)) rfl rfl rfl rfl rfl rfl (.inl rfl) rfl rfl fun X4 => ?_
   refine RW.appendSR (c := cI) (l1 := (others (a.take i) n)) (l2 := [ei]) rfl rfl rfl rfl rfl rfl rfl rfl (.al (k := none) (i := 25) (sz := 1) (V := X4) rfl rfl nofun) (by decide) (Nat.le_of_ble_eq_true rfl) cI.len (fun _ => rfl) rfl (by have h9 := others_len (a.take i) n; have h10 : (a.take i).length ≤ a.length := (by rw [List.length_take]; omega); simp only [maxLen, List.length_singleton]; omega) (by have h9 := others_len (a.take i) n; have h10 : (a.take i).length ≤ a.length := (by rw [List.length_take]; omega); simp only [maxLen, List.length_singleton]; omega) fun X5 => ?_
   refine RW.assignMove rfl rfl rfl (by decide) (Nat.le_of_ble_eq_true rfl) (Nat.le_of_ble_eq_true rfl) ?_
   refine RW.nil ?_
   refine CW.keep 28 [0,1,5,6] rfl ?_;(conv=>whnf);refine ⟨?_⟩
   refine CW.region ?_
   refine RW.k XK 28 1 rfl ?_
   (conv=>whnf);refine ⟨rfl,?_⟩
   refine RW.v rfl (V.inc rfl rfl rfl hii hl0) ?_
   refine RW.k XK 28 1 rfl ?_
   (conv=>whnf);refine ⟨rfl,?_⟩
   refine RW.nil ?_
   exact ⟨(i + 1, _), by simp only []; omega, (by omega), rfl, Le.c rfl <| Le.c rfl <| Le.c (Dw_congr (by unfold others; rw [take_snoc hei, List.filter_append]; simp_all)) <| Le.c rfl <| Le.e⟩
  ·skip
   refine CW.skip ?_
   refine CW.keep 28 [0,1,5,6] rfl ?_;(conv=>whnf);refine ⟨?_⟩
   refine CW.region ?_
   refine RW.k XK 28 1 rfl ?_
   (conv=>whnf);refine ⟨rfl,?_⟩
   refine RW.v rfl (V.inc rfl rfl rfl hii hl0) ?_
   refine RW.k XK 28 1 rfl ?_
   (conv=>whnf);refine ⟨rfl,?_⟩
   refine RW.nil ?_
   exact ⟨(i + 1, _), by simp only []; omega, (by omega), rfl, Le.c rfl <| Le.c rfl <| Le.c (Dw_congr (by unfold others; rw [take_snoc hei, List.filter_append]; simp_all)) <| Le.c rfl <| Le.e⟩
 ·skip
  have hii : a.length ≤ i := by have := h2; simp at this; first | exact this | omega | (simp; done) | (simp; omega)
  have hdi : a.drop i = [] := List.drop_eq_nil_of_le hii
  refine CW.exit ?_
  refine CW.keep 28 [5] rfl ?_;(conv=>whnf);refine ⟨?_⟩
  refine CW.seq ?_
  refine CW.region ?_
  refine RW.k XK 28 2 rfl ?_
  (conv=>whnf);refine ⟨rfl,?_⟩
  refine RW.pullS 4 5 (by decide) rfl rfl ?_
  refine RW.nil ?_
  refine CW.keep 28 [4] rfl ?_;(conv=>whnf);refine ⟨?_⟩
  refine CW.ret ?_
  exact Post.one (RV.w rfl (by rw [List.take_of_length_le hii])) (AOs.r (AOs.r AOs.e))
end Go.Proofs.Ytbiocicogminlaa.Y
