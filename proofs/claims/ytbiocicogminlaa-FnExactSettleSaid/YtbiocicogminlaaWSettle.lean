import Derived.Test.YtbiocicogminlaaWSettleC
namespace Go.Proofs.Ytbiocicogminlaa.Y
open Go Go.RowKit Go.Eng Go.Proofs
set_option maxHeartbeats 4000000 in
theorem impl_Settle_fn (n : Node) (i : Int) (hok : okToNode n) : Eng.Fn E.P 32 [.agg ((Node.c n).map .r), .one (.r (.v (.int .i64 i)))] (.tup [.agg ((Node.c ((settle n i).1)).map .w), .one (.w (.v (.bool ((settle n i).2))))]) [.agg ((Node.c n).map .r), .one (.r (.v (.int .i64 i)))] := by
 refine Eng.Fn.intro (E := E) (rvs := [.cell 4 47, .tmp 5]) Try.func32 rfl rfl rfl (by simp [outSlots, moved, rvSlot, sl]) ?_
 intro B g bo
 refine CW.le [(0, .agg ((Node.c n).map .r)), (1, I i)] rfl (Le.of rfl) ?_
 refine CW.seq ?_
 refine CW.region ?_
 refine RW.box (ds := ((Node.c n).map .r)) rfl rfl rfl fun b1 => ?_
 refine RW.alloc (ds := [I 0, I 0, I 0, I 0, I 0, .r (.v (.slice none 0 0)), I 0, I 0, .r (.v (.slice none 0 0)), I 0, I 0, I 0, .r (.v (.slice none 0 0)), .r (.v (.slice none 0 0))]) rfl rfl rfl rfl fun b2 => ?_
 refine RW.v rfl (V.as (d := Bo false) rfl rfl) ?_
 refine RW.nil ?_
 refine CW.le [(1, I i), (2, .obj b1 ((Node.c n).map .r)), (4, .obj b2 [I 0, I 0, I 0, I 0, I 0, .r (.v (.slice none 0 0)), I 0, I 0, .r (.v (.slice none 0 0)), I 0, I 0, I 0, .r (.v (.slice none 0 0)), .r (.v (.slice none 0 0))])] rfl (Le.of rfl) ?_
 refine CW.seq ?_
 refine CW.seqJ 37 (fun (v3 : Bool) => [(1, I i), (2, .obj b1 ((Node.c n).map .r)), (4, .obj b2 [I 0, I 0, I 0, I 0, I 0, .r (.v (.slice none 0 0)), I 0, I 0, .r (.v (.slice none 0 0)), I 0, I 0, I 0, .r (.v (.slice none 0 0)), .r (.v (.slice none 0 0))]), (19, Bo v3)]) (fun v3 => v3 = ((!(nodeOk n)) || (!(inR i n.log.start n.commit)))) ?_ ?_
 ·refine CW.region ?_
  refine RW.v rfl (V.loadAgg rfl rfl rfl rfl rfl (Nat.le_of_ble_eq_true rfl)) ?_
  refine RW.call rfl (impl_NodeOk_fn n hok) rfl (.cons (.agg (.cons (.r .r) (.cons (.r .r) (.cons (.r .r) (.cons (.r .r) (.cons (.r .r) (.cons (.r .r) (.cons (.r .r) (.cons (.r .r) (.cons (.r .r) (.cons (.r .r) (.cons (.r .r) (.cons (.r .r) (.cons (.r .r) (.cons (.r .r) (.nil)))))))))))))))) (.nil)) fun g4 => ?_
  refine RW.v rfl (V.not rfl rfl) ?_
  refine RW.v rfl (V.mv (d := Bo (!(nodeOk n))) rfl rfl) ?_
  refine RW.gv rfl rfl rfl rfl (fun h5 => V.mv (d := I i) rfl rfl) (fun h5 => ?_) (fun h5 => ?_)
  ·skip
   refine RW.gt rfl rfl rfl rfl (V.field rfl rfl rfl rfl (by decide) rfl) ?_
   refine RW.gt rfl rfl rfl rfl (V.field rfl rfl rfl rfl (by decide) rfl) ?_
   refine RW.gt rfl rfl rfl rfl (V.loadPrim (d := I n.log.start) rfl rfl (.inl rfl) rfl rfl rfl) ?_
   refine RW.gt rfl rfl rfl rfl (V.field rfl rfl rfl rfl (by decide) rfl) ?_
   refine RW.gt rfl rfl rfl rfl (V.loadPrim (d := I n.commit) rfl rfl (.inl rfl) rfl rfl rfl) ?_
   refine RW.gcall rfl rfl rfl rfl (impl_within_fn i n.log.start n.commit) rfl (.cons (.one (.r .r)) (.cons (.one (.r .r)) (.cons (.one (.r .r)) (.nil)))) fun g6 => ?_
   refine RW.gt rfl rfl rfl rfl (V.not rfl rfl) ?_
   refine RW.v rfl (V.pickF (d := Bo (!(inR i n.log.start n.commit))) rfl rfl rfl) ?_
   refine RW.nil ?_
   exact ⟨_, by first | rfl | (simp_all; done) | (simp_all; omega) | grind, rfl, Le.c rfl <| Le.c rfl <| Le.c rfl <| Le.c rfl <| Le.e⟩
  ·skip
   refine RW.guardF rfl rfl rfl rfl ?_
   refine RW.guardF rfl rfl rfl rfl ?_
   refine RW.guardF rfl rfl rfl rfl ?_
   refine RW.guardF rfl rfl rfl rfl ?_
   refine RW.guardF rfl rfl rfl rfl ?_
   refine RW.guardF rfl rfl rfl rfl ?_
   refine RW.guardF rfl rfl rfl rfl ?_
   refine RW.v rfl (V.pickT (d := Bo true) rfl rfl rfl) ?_
   refine RW.nil ?_
   exact ⟨_, by first | rfl | (simp_all; done) | (simp_all; omega) | grind, rfl, Le.c rfl <| Le.c rfl <| Le.c rfl <| Le.c rfl <| Le.e⟩
 ·intro v3 hv7
  refine CW.cond rfl (fun h8 => ?_) (fun h8 => ?_)
  ·skip
   have hno : settle n i = (Node.z, false) := settle_no (by rw [← hv7]; exact h8)
   refine CW.seq ?_
   refine CW.region ?_
   refine RW.v rfl (V.build (ds := [I 0, I 0, I 0, I 0, I 0, .r (.v (.slice none 0 0)), I 0, I 0, .r (.v (.slice none 0 0)), I 0, I 0, I 0, .r (.v (.slice none 0 0)), .r (.v (.slice none 0 0))]) rfl rfl rfl rfl (.nil)) ?_
   refine RW.storeAgg (es := [I 0, I 0, I 0, I 0, I 0, .r (.v (.slice none 0 0)), I 0, I 0, .r (.v (.slice none 0 0)), I 0, I 0, I 0, .r (.v (.slice none 0 0)), .r (.v (.slice none 0 0))]) rfl rfl rfl rfl rfl rfl rfl rfl (Nat.le_of_ble_eq_true rfl) rfl ?_
   refine RW.v rfl (V.as (d := Bo false) rfl rfl) ?_
   refine RW.nil ?_
   refine CW.le [(4, .obj b2 [I 0, I 0, I 0, I 0, I 0, .r (.v (.slice none 0 0)), I 0, I 0, .r (.v (.slice none 0 0)), I 0, I 0, I 0, .r (.v (.slice none 0 0)), .r (.v (.slice none 0 0))]), (5, Bo false)] rfl (Le.of rfl) ?_
   refine CW.ret ?_
   exact Post.tup (by decide) (RVs.c (RV.c (f := fun e => (Node.c e).map .w) (e' := (⟨0, 0, 0, 0, 0, [], (⟨0, 0, []⟩ : Log), 0, 0, 0, [], []⟩ : Node)) rfl rfl rfl rfl (DT.v (DT.v (DT.v (DT.v (DT.v (DT.n (DT.v (DT.v (DT.n (DT.v (DT.v (DT.v (DT.n (DT.n DT.e)))))))))))))) (by rw [hno]; rfl)) (RVs.c (RV.b rfl (by rw [hno])) RVs.e)) (AOs.a rfl (AOs.r AOs.e))
  ·skip
   have hn : nodeOk n = true := by rw [hv7] at h8; simp at h8; exact h8.1
   have hin : inR i n.log.start n.commit = true := by rw [hv7] at h8; simp at h8; exact h8.2
   obtain ⟨hl, hs, hi, hi2⟩ := settle_in hn hin
   refine CW.skip ?_
   refine CW.le [(1, I i), (2, .obj b1 ((Node.c n).map .r)), (4, .obj b2 [I 0, I 0, I 0, I 0, I 0, .r (.v (.slice none 0 0)), I 0, I 0, .r (.v (.slice none 0 0)), I 0, I 0, I 0, .r (.v (.slice none 0 0)), .r (.v (.slice none 0 0))])] rfl (Le.of rfl) ?_
   refine CW.seq ?_
   refine CW.region ?_
   refine RW.v rfl (V.loadAgg rfl rfl rfl rfl rfl (Nat.le_of_ble_eq_true rfl)) ?_
   refine RW.call rfl (impl_copyNode_fn n hok) rfl (.cons (.agg (.cons (.r .r) (.cons (.r .r) (.cons (.r .r) (.cons (.r .r) (.cons (.r .r) (.cons (.r .r) (.cons (.r .r) (.cons (.r .r) (.cons (.r .r) (.cons (.r .r) (.cons (.r .r) (.cons (.r .r) (.cons (.r .r) (.cons (.r .r) (.nil)))))))))))))))) (.nil)) fun g9 => ?_
   refine RW.alloc (ds := [I 0, I 0, I 0, I 0, I 0, .r (.v (.slice none 0 0)), I 0, I 0, .r (.v (.slice none 0 0)), I 0, I 0, I 0, .r (.v (.slice none 0 0)), .r (.v (.slice none 0 0))]) rfl rfl rfl rfl fun b10 => ?_
   refine RW.storeAgg (es := [I n.id, I n.term_, I n.vote, I n.role, I n.lead, .al 22 (some 5) 1 n.conf.length (g9 0 5) 0, I n.log.start, I n.log.startTerm, .al 22 (some 8) 3 n.log.entries.length (g9 0 8) 0, I n.commit, I n.clock, I n.limit, .al 22 (some 12) 1 n.votes.length (g9 0 12) 0, .al 22 (some 13) 4 n.peers.length (g9 0 13) 0]) rfl rfl rfl rfl rfl rfl rfl rfl (Nat.le_of_ble_eq_true rfl) rfl ?_
   refine RW.le [(1, I i), (2, .obj b1 ((Node.c n).map .r)), (4, .obj b2 [I 0, I 0, I 0, I 0, I 0, .r (.v (.slice none 0 0)), I 0, I 0, .r (.v (.slice none 0 0)), I 0, I 0, I 0, .r (.v (.slice none 0 0)), .r (.v (.slice none 0 0))]), (6, .obj b10 [I n.id, I n.term_, I n.vote, I n.role, I n.lead, .al 22 (some 5) 1 n.conf.length (g9 0 5) 0, I n.log.start, I n.log.startTerm, .al 22 (some 8) 3 n.log.entries.length (g9 0 8) 0, I n.commit, I n.clock, I n.limit, .al 22 (some 12) 1 n.votes.length (g9 0 12) 0, .al 22 (some 13) 4 n.peers.length (g9 0 13) 0]), (22, .agg [I n.id, I n.term_, I n.vote, I n.role, I n.lead, .w (sl 1 cI n.conf) (g9 0 5), I n.log.start, I n.log.startTerm, .w (sl 3 Entry.c n.log.entries) (g9 0 8), I n.commit, I n.clock, I n.limit, .w (sl 1 cI n.votes) (g9 0 12), .w (sl 4 Peer.c n.peers) (g9 0 13)])] rfl (Le.of rfl) ?_
   refine RW.pullA (k := 6) (l := 22) (j := 5) 6 22 5 rfl rfl rfl (by decide) rfl rfl rfl rfl ?_
   refine RW.le [(1, I i), (2, .obj b1 ((Node.c n).map .r)), (4, .obj b2 [I 0, I 0, I 0, I 0, I 0, .r (.v (.slice none 0 0)), I 0, I 0, .r (.v (.slice none 0 0)), I 0, I 0, I 0, .r (.v (.slice none 0 0)), .r (.v (.slice none 0 0))]), (6, .obj b10 [I n.id, I n.term_, I n.vote, I n.role, I n.lead, .w (sl 1 cI n.conf) (g9 0 5), I n.log.start, I n.log.startTerm, .al 22 (some 8) 3 n.log.entries.length (g9 0 8) 0, I n.commit, I n.clock, I n.limit, .al 22 (some 12) 1 n.votes.length (g9 0 12) 0, .al 22 (some 13) 4 n.peers.length (g9 0 13) 0]), (22, .agg [I n.id, I n.term_, I n.vote, I n.role, I n.lead, .u, I n.log.start, I n.log.startTerm, .w (sl 3 Entry.c n.log.entries) (g9 0 8), I n.commit, I n.clock, I n.limit, .w (sl 1 cI n.votes) (g9 0 12), .w (sl 4 Peer.c n.peers) (g9 0 13)])] rfl (Le.of rfl) ?_
   refine RW.pullA (k := 6) (l := 22) (j := 8) 6 22 8 rfl rfl rfl (by decide) rfl rfl rfl rfl ?_
   refine RW.le [(1, I i), (2, .obj b1 ((Node.c n).map .r)), (4, .obj b2 [I 0, I 0, I 0, I 0, I 0, .r (.v (.slice none 0 0)), I 0, I 0, .r (.v (.slice none 0 0)), I 0, I 0, I 0, .r (.v (.slice none 0 0)), .r (.v (.slice none 0 0))]), (6, .obj b10 [I n.id, I n.term_, I n.vote, I n.role, I n.lead, .w (sl 1 cI n.conf) (g9 0 5), I n.log.start, I n.log.startTerm, .w (sl 3 Entry.c n.log.entries) (g9 0 8), I n.commit, I n.clock, I n.limit, .al 22 (some 12) 1 n.votes.length (g9 0 12) 0, .al 22 (some 13) 4 n.peers.length (g9 0 13) 0]), (22, .agg [I n.id, I n.term_, I n.vote, I n.role, I n.lead, .u, I n.log.start, I n.log.startTerm, .u, I n.commit, I n.clock, I n.limit, .w (sl 1 cI n.votes) (g9 0 12), .w (sl 4 Peer.c n.peers) (g9 0 13)])] rfl (Le.of rfl) ?_
   refine RW.pullA (k := 6) (l := 22) (j := 12) 6 22 12 rfl rfl rfl (by decide) rfl rfl rfl rfl ?_
   refine RW.le [(1, I i), (2, .obj b1 ((Node.c n).map .r)), (4, .obj b2 [I 0, I 0, I 0, I 0, I 0, .r (.v (.slice none 0 0)), I 0, I 0, .r (.v (.slice none 0 0)), I 0, I 0, I 0, .r (.v (.slice none 0 0)), .r (.v (.slice none 0 0))]), (6, .obj b10 [I n.id, I n.term_, I n.vote, I n.role, I n.lead, .w (sl 1 cI n.conf) (g9 0 5), I n.log.start, I n.log.startTerm, .w (sl 3 Entry.c n.log.entries) (g9 0 8), I n.commit, I n.clock, I n.limit, .w (sl 1 cI n.votes) (g9 0 12), .al 22 (some 13) 4 n.peers.length (g9 0 13) 0]), (22, .agg [I n.id, I n.term_, I n.vote, I n.role, I n.lead, .u, I n.log.start, I n.log.startTerm, .u, I n.commit, I n.clock, I n.limit, .u, .w (sl 4 Peer.c n.peers) (g9 0 13)])] rfl (Le.of rfl) ?_
   refine RW.pullA (k := 6) (l := 22) (j := 13) 6 22 13 rfl rfl rfl (by decide) rfl rfl rfl rfl ?_
   refine RW.le [(1, I i), (2, .obj b1 ((Node.c n).map .r)), (4, .obj b2 [I 0, I 0, I 0, I 0, I 0, .r (.v (.slice none 0 0)), I 0, I 0, .r (.v (.slice none 0 0)), I 0, I 0, I 0, .r (.v (.slice none 0 0)), .r (.v (.slice none 0 0))]), (6, .obj b10 [I n.id, I n.term_, I n.vote, I n.role, I n.lead, .w (sl 1 cI n.conf) (g9 0 5), I n.log.start, I n.log.startTerm, .w (sl 3 Entry.c n.log.entries) (g9 0 8), I n.commit, I n.clock, I n.limit, .w (sl 1 cI n.votes) (g9 0 12), .w (sl 4 Peer.c n.peers) (g9 0 13)])] rfl (Le.of rfl) ?_
   refine RW.nil ?_
   refine CW.le [(1, I i), (2, .obj b1 ((Node.c n).map .r)), (4, .obj b2 [I 0, I 0, I 0, I 0, I 0, .r (.v (.slice none 0 0)), I 0, I 0, .r (.v (.slice none 0 0)), I 0, I 0, I 0, .r (.v (.slice none 0 0)), .r (.v (.slice none 0 0))]), (6, .obj b10 [I n.id, I n.term_, I n.vote, I n.role, I n.lead, .w (sl 1 cI n.conf) (g9 0 5), I n.log.start, I n.log.startTerm, .w (sl 3 Entry.c n.log.entries) (g9 0 8), I n.commit, I n.clock, I n.limit, .w (sl 1 cI n.votes) (g9 0 12), .w (sl 4 Peer.c n.peers) (g9 0 13)])] rfl (Le.of rfl) ?_
   refine CW.anyJ 37 (fun (x : (Nat → Nat → Value) × (Nat → Nat → Value)) => match x with | (go11_6_1, go11_7_1) => [(1, I i), (2, .obj b1 ((Node.c n).map .r)), (4, .obj b2 [I 0, I 0, I 0, I 0, I 0, .r (.v (.slice none 0 0)), I 0, I 0, .r (.v (.slice none 0 0)), I 0, I 0, I 0, .r (.v (.slice none 0 0)), .r (.v (.slice none 0 0))]), (6, .obj b10 [I n.id, I n.term_, I n.vote, I n.role, I n.lead, .w (sl 1 cI n.conf) (g9 0 5), I ((logBehind n.log i (logTerm n.log i)).start), I ((logBehind n.log i (logTerm n.log i)).startTerm), .w (sl 3 Entry.c ((logBehind n.log i (logTerm n.log i)).entries)) (go11_7_1 0 2), I n.commit, I n.clock, I n.limit, .w (sl 1 cI n.votes) (g9 0 12), .w (sl 4 Peer.c n.peers) (g9 0 13)])]) (fun all hall K hK => ?_) ?_
   ·skip
    have ro11_1111111111 : ∀ (go11_6_1 : Nat → Nat → Value), ∀ (go11_7_1 : Nat → Nat → Value), RA E B all 0 #[true, true, true, true, true, true, true, true, true, true] ⟨37, [(1, I i), (2, .obj b1 ((Node.c n).map .r)), (4, .obj b2 [I 0, I 0, I 0, I 0, I 0, .r (.v (.slice none 0 0)), I 0, I 0, .r (.v (.slice none 0 0)), I 0, I 0, I 0, .r (.v (.slice none 0 0)), .r (.v (.slice none 0 0))]), (6, .obj b10 [I n.id, I n.term_, I n.vote, I n.role, I n.lead, .w (sl 1 cI n.conf) (g9 0 5), I ((logBehind n.log i (logTerm n.log i)).start), I ((logBehind n.log i (logTerm n.log i)).startTerm), .w (sl 3 Entry.c ((logBehind n.log i (logTerm n.log i)).entries)) (go11_7_1 0 2), I n.commit, I n.clock, I n.limit, .w (sl 1 cI n.votes) (g9 0 12), .w (sl 4 Peer.c n.peers) (g9 0 13)])]⟩ K := by
     intro go11_6_1 go11_7_1
     exact RA.of hall (RA.fin (by kernel_rfl) (hK (go11_6_1, go11_7_1) _ rfl (Le.of rfl)))
    have ro11_1111111110 : ∀ (go11_6_1 : Nat → Nat → Value), ∀ (go11_7_1 : Nat → Nat → Value), RA E B all 1 #[true, true, true, true, true, true, true, true, true, false] ⟨37, [(1, I i), (2, .obj b1 ((Node.c n).map .r)), (4, .obj b2 [I 0, I 0, I 0, I 0, I 0, .r (.v (.slice none 0 0)), I 0, I 0, .r (.v (.slice none 0 0)), I 0, I 0, I 0, .r (.v (.slice none 0 0)), .r (.v (.slice none 0 0))]), (6, .obj b10 [I n.id, I n.term_, I n.vote, I n.role, I n.lead, .w (sl 1 cI n.conf) (g9 0 5), I n.log.start, I n.log.startTerm, .w (sl 3 Entry.c n.log.entries) (g9 0 8), I n.commit, I n.clock, I n.limit, .w (sl 1 cI n.votes) (g9 0 12), .w (sl 4 Peer.c n.peers) (g9 0 13)]), (30, .agg [I ((logBehind n.log i (logTerm n.log i)).start), I ((logBehind n.log i (logTerm n.log i)).startTerm), .w (sl 3 Entry.c ((logBehind n.log i (logTerm n.log i)).entries)) (go11_7_1 0 2)]), (31, .pt 6 b10 6)]⟩ K := by
     intro go11_6_1 go11_7_1
     refine RA.of hall (RA.step (L := [9]) (by kernel_rfl) (by simp) (RA.each ?_ (RA.each0)))
     ·skip
      refine RO.storeAgg (es := [I ((logBehind n.log i (logTerm n.log i)).start), I ((logBehind n.log i (logTerm n.log i)).startTerm), .al 30 (some 2) 3 (((logBehind n.log i (logTerm n.log i)).entries).length) (go11_7_1 0 2) 0]) rfl rfl rfl rfl rfl rfl rfl rfl rfl rfl (Nat.le_of_ble_eq_true rfl) rfl ?_
      refine RA.le [(1, I i), (2, .obj b1 ((Node.c n).map .r)), (4, .obj b2 [I 0, I 0, I 0, I 0, I 0, .r (.v (.slice none 0 0)), I 0, I 0, .r (.v (.slice none 0 0)), I 0, I 0, I 0, .r (.v (.slice none 0 0)), .r (.v (.slice none 0 0))]), (6, .obj b10 [I n.id, I n.term_, I n.vote, I n.role, I n.lead, .w (sl 1 cI n.conf) (g9 0 5), I ((logBehind n.log i (logTerm n.log i)).start), I ((logBehind n.log i (logTerm n.log i)).startTerm), .al 30 (some 2) 3 (((logBehind n.log i (logTerm n.log i)).entries).length) (go11_7_1 0 2) 0, I n.commit, I n.clock, I n.limit, .w (sl 1 cI n.votes) (g9 0 12), .w (sl 4 Peer.c n.peers) (g9 0 13)]), (30, .agg [I ((logBehind n.log i (logTerm n.log i)).start), I ((logBehind n.log i (logTerm n.log i)).startTerm), .w (sl 3 Entry.c ((logBehind n.log i (logTerm n.log i)).entries)) (go11_7_1 0 2)])] rfl (Le.of rfl) ?_
      refine RA.pullA (k := 6) (l := 30) (j := 8) 6 30 8 rfl rfl rfl (by decide) rfl rfl rfl rfl ?_
      refine RA.le [(1, I i), (2, .obj b1 ((Node.c n).map .r)), (4, .obj b2 [I 0, I 0, I 0, I 0, I 0, .r (.v (.slice none 0 0)), I 0, I 0, .r (.v (.slice none 0 0)), I 0, I 0, I 0, .r (.v (.slice none 0 0)), .r (.v (.slice none 0 0))]), (6, .obj b10 [I n.id, I n.term_, I n.vote, I n.role, I n.lead, .w (sl 1 cI n.conf) (g9 0 5), I ((logBehind n.log i (logTerm n.log i)).start), I ((logBehind n.log i (logTerm n.log i)).startTerm), .w (sl 3 Entry.c ((logBehind n.log i (logTerm n.log i)).entries)) (go11_7_1 0 2), I n.commit, I n.clock, I n.limit, .w (sl 1 cI n.votes) (g9 0 12), .w (sl 4 Peer.c n.peers) (g9 0 13)])] rfl (Le.of rfl) ?_
      exact RA.to hall (RA.lr (ro11_1111111111 go11_6_1 go11_7_1) rfl rfl)
    have ro11_1111111100 : ∀ (go11_6_1 : Nat → Nat → Value), ∀ (go11_7_1 : Nat → Nat → Value), RA E B all 2 #[true, true, true, true, true, true, true, true, false, false] ⟨37, [(1, I i), (2, .obj b1 ((Node.c n).map .r)), (4, .obj b2 [I 0, I 0, I 0, I 0, I 0, .r (.v (.slice none 0 0)), I 0, I 0, .r (.v (.slice none 0 0)), I 0, I 0, I 0, .r (.v (.slice none 0 0)), .r (.v (.slice none 0 0))]), (6, .obj b10 [I n.id, I n.term_, I n.vote, I n.role, I n.lead, .w (sl 1 cI n.conf) (g9 0 5), I n.log.start, I n.log.startTerm, .w (sl 3 Entry.c n.log.entries) (g9 0 8), I n.commit, I n.clock, I n.limit, .w (sl 1 cI n.votes) (g9 0 12), .w (sl 4 Peer.c n.peers) (g9 0 13)]), (30, .agg [I ((logBehind n.log i (logTerm n.log i)).start), I ((logBehind n.log i (logTerm n.log i)).startTerm), .w (sl 3 Entry.c ((logBehind n.log i (logTerm n.log i)).entries)) (go11_7_1 0 2)])]⟩ K := by
     intro go11_6_1 go11_7_1
     refine RA.of hall (RA.step (L := [8]) (by kernel_rfl) (by simp) (RA.each ?_ (RA.each0)))
     ·skip
      refine RO.v rfl rfl (V.field rfl rfl rfl rfl (by decide) rfl) rfl ?_
      exact RA.to hall (RA.lr (ro11_1111111110 go11_6_1 go11_7_1) rfl rfl)
    have ro11_1111111000 : ∀ (go11_6_1 : Nat → Nat → Value), RA E B all 3 #[true, true, true, true, true, true, true, false, false, false] ⟨37, [(1, I i), (2, .obj b1 ((Node.c n).map .r)), (4, .obj b2 [I 0, I 0, I 0, I 0, I 0, .r (.v (.slice none 0 0)), I 0, I 0, .r (.v (.slice none 0 0)), I 0, I 0, I 0, .r (.v (.slice none 0 0)), .r (.v (.slice none 0 0))]), (6, .obj b10 [I n.id, I n.term_, I n.vote, I n.role, I n.lead, .w (sl 1 cI n.conf) (g9 0 5), I n.log.start, I n.log.startTerm, .w (sl 3 Entry.c n.log.entries) (g9 0 8), I n.commit, I n.clock, I n.limit, .w (sl 1 cI n.votes) (g9 0 12), .w (sl 4 Peer.c n.peers) (g9 0 13)]), (24, .agg ((Log.c n.log).map .r)), (25, I i), (29, I (logTerm n.log i))]⟩ K := by
     intro go11_6_1
     refine RA.of hall (RA.step (L := [7]) (by kernel_rfl) (by simp) (RA.each ?_ (RA.each0)))
     ·skip
      refine RO.call rfl rfl (impl_LogBehind_fn n.log i (logTerm n.log i) (hok.2.1) hi) rfl (.cons (.agg (.cons (.r .r) (.cons (.r .r) (.cons (.r .r) (.nil))))) (.cons (.one (.r .r)) (.cons (.one (.r .r)) (.nil)))) rfl fun go11_7_1 => ?_
      exact RA.to hall (RA.lr (ro11_1111111100 go11_6_1 go11_7_1) rfl rfl)
    have ro11_1011111000 : ∀ (go11_6_1 : Nat → Nat → Value), RA E B all 4 #[true, false, true, true, true, true, true, false, false, false] ⟨37, [(1, I i), (2, .obj b1 ((Node.c n).map .r)), (4, .obj b2 [I 0, I 0, I 0, I 0, I 0, .r (.v (.slice none 0 0)), I 0, I 0, .r (.v (.slice none 0 0)), I 0, I 0, I 0, .r (.v (.slice none 0 0)), .r (.v (.slice none 0 0))]), (6, .obj b10 [I n.id, I n.term_, I n.vote, I n.role, I n.lead, .w (sl 1 cI n.conf) (g9 0 5), I n.log.start, I n.log.startTerm, .w (sl 3 Entry.c n.log.entries) (g9 0 8), I n.commit, I n.clock, I n.limit, .w (sl 1 cI n.votes) (g9 0 12), .w (sl 4 Peer.c n.peers) (g9 0 13)]), (23, .pt 2 b1 6), (25, I i), (29, I (logTerm n.log i))]⟩ K := by
     intro go11_6_1
     refine RA.of hall (RA.step (L := [1]) (by kernel_rfl) (by simp) (RA.each ?_ (RA.each0)))
     ·skip
      refine RO.v rfl rfl (V.loadAgg rfl rfl rfl rfl rfl (Nat.le_of_ble_eq_true rfl)) rfl ?_
      exact RA.to hall (RA.lr (ro11_1111111000 go11_6_1) rfl rfl)
    have ro11_1101111000 : ∀ (go11_6_1 : Nat → Nat → Value), RA E B all 4 #[true, true, false, true, true, true, true, false, false, false] ⟨37, [(1, I i), (2, .obj b1 ((Node.c n).map .r)), (4, .obj b2 [I 0, I 0, I 0, I 0, I 0, .r (.v (.slice none 0 0)), I 0, I 0, .r (.v (.slice none 0 0)), I 0, I 0, I 0, .r (.v (.slice none 0 0)), .r (.v (.slice none 0 0))]), (6, .obj b10 [I n.id, I n.term_, I n.vote, I n.role, I n.lead, .w (sl 1 cI n.conf) (g9 0 5), I n.log.start, I n.log.startTerm, .w (sl 3 Entry.c n.log.entries) (g9 0 8), I n.commit, I n.clock, I n.limit, .w (sl 1 cI n.votes) (g9 0 12), .w (sl 4 Peer.c n.peers) (g9 0 13)]), (24, .agg ((Log.c n.log).map .r)), (29, I (logTerm n.log i))]⟩ K := by
     intro go11_6_1
     refine RA.of hall (RA.step (L := [2]) (by kernel_rfl) (by simp) (RA.each ?_ (RA.each0)))
     ·skip
      refine RO.v rfl rfl (V.mv (d := I i) rfl rfl) rfl ?_
      exact RA.to hall (RA.lr (ro11_1111111000 go11_6_1) rfl rfl)
    have ro11_1111110000 : RA E B all 4 #[true, true, true, true, true, true, false, false, false, false] ⟨37, [(1, I i), (2, .obj b1 ((Node.c n).map .r)), (4, .obj b2 [I 0, I 0, I 0, I 0, I 0, .r (.v (.slice none 0 0)), I 0, I 0, .r (.v (.slice none 0 0)), I 0, I 0, I 0, .r (.v (.slice none 0 0)), .r (.v (.slice none 0 0))]), (6, .obj b10 [I n.id, I n.term_, I n.vote, I n.role, I n.lead, .w (sl 1 cI n.conf) (g9 0 5), I n.log.start, I n.log.startTerm, .w (sl 3 Entry.c n.log.entries) (g9 0 8), I n.commit, I n.clock, I n.limit, .w (sl 1 cI n.votes) (g9 0 12), .w (sl 4 Peer.c n.peers) (g9 0 13)]), (24, .agg ((Log.c n.log).map .r)), (25, I i), (27, .agg ((Log.c n.log).map .r)), (28, I i)]⟩ K := by
     refine RA.of hall (RA.step (L := [6]) (by kernel_rfl) (by simp) (RA.each ?_ (RA.each0)))
     ·skip
      refine RO.call rfl rfl (impl_LogTerm_fn n.log i hs hi) rfl (.cons (.agg (.cons (.r .r) (.cons (.r .r) (.cons (.r .r) (.nil))))) (.cons (.one (.r .r)) (.nil))) rfl fun go11_6_1 => ?_
      exact RA.to hall (RA.lr (ro11_1111111000 go11_6_1) rfl rfl)
    have ro11_0011111000 : ∀ (go11_6_1 : Nat → Nat → Value), RA E B all 5 #[false, false, true, true, true, true, true, false, false, false] ⟨37, [(1, I i), (2, .obj b1 ((Node.c n).map .r)), (4, .obj b2 [I 0, I 0, I 0, I 0, I 0, .r (.v (.slice none 0 0)), I 0, I 0, .r (.v (.slice none 0 0)), I 0, I 0, I 0, .r (.v (.slice none 0 0)), .r (.v (.slice none 0 0))]), (6, .obj b10 [I n.id, I n.term_, I n.vote, I n.role, I n.lead, .w (sl 1 cI n.conf) (g9 0 5), I n.log.start, I n.log.startTerm, .w (sl 3 Entry.c n.log.entries) (g9 0 8), I n.commit, I n.clock, I n.limit, .w (sl 1 cI n.votes) (g9 0 12), .w (sl 4 Peer.c n.peers) (g9 0 13)]), (25, I i), (29, I (logTerm n.log i))]⟩ K := by
     intro go11_6_1
     refine RA.of hall (RA.step (L := [0]) (by kernel_rfl) (by simp) (RA.each ?_ (RA.each0)))
     ·skip
      refine RO.v rfl rfl (V.field rfl rfl rfl rfl (by decide) rfl) rfl ?_
      exact RA.to hall (RA.lr (ro11_1011111000 go11_6_1) rfl rfl)
    have ro11_1001111000 : ∀ (go11_6_1 : Nat → Nat → Value), RA E B all 5 #[true, false, false, true, true, true, true, false, false, false] ⟨37, [(1, I i), (2, .obj b1 ((Node.c n).map .r)), (4, .obj b2 [I 0, I 0, I 0, I 0, I 0, .r (.v (.slice none 0 0)), I 0, I 0, .r (.v (.slice none 0 0)), I 0, I 0, I 0, .r (.v (.slice none 0 0)), .r (.v (.slice none 0 0))]), (6, .obj b10 [I n.id, I n.term_, I n.vote, I n.role, I n.lead, .w (sl 1 cI n.conf) (g9 0 5), I n.log.start, I n.log.startTerm, .w (sl 3 Entry.c n.log.entries) (g9 0 8), I n.commit, I n.clock, I n.limit, .w (sl 1 cI n.votes) (g9 0 12), .w (sl 4 Peer.c n.peers) (g9 0 13)]), (23, .pt 2 b1 6), (29, I (logTerm n.log i))]⟩ K := by
     intro go11_6_1
     refine RA.of hall (RA.step (L := [1, 2]) (by kernel_rfl) (by simp) (RA.each ?_ (RA.each ?_ (RA.each0))))
     ·skip
      refine RO.v rfl rfl (V.loadAgg rfl rfl rfl rfl rfl (Nat.le_of_ble_eq_true rfl)) rfl ?_
      exact RA.to hall (RA.lr (ro11_1101111000 go11_6_1) rfl rfl)
     ·skip
      refine RO.v rfl rfl (V.mv (d := I i) rfl rfl) rfl ?_
      exact RA.to hall (RA.lr (ro11_1011111000 go11_6_1) rfl rfl)
    have ro11_1011110000 : RA E B all 5 #[true, false, true, true, true, true, false, false, false, false] ⟨37, [(1, I i), (2, .obj b1 ((Node.c n).map .r)), (4, .obj b2 [I 0, I 0, I 0, I 0, I 0, .r (.v (.slice none 0 0)), I 0, I 0, .r (.v (.slice none 0 0)), I 0, I 0, I 0, .r (.v (.slice none 0 0)), .r (.v (.slice none 0 0))]), (6, .obj b10 [I n.id, I n.term_, I n.vote, I n.role, I n.lead, .w (sl 1 cI n.conf) (g9 0 5), I n.log.start, I n.log.startTerm, .w (sl 3 Entry.c n.log.entries) (g9 0 8), I n.commit, I n.clock, I n.limit, .w (sl 1 cI n.votes) (g9 0 12), .w (sl 4 Peer.c n.peers) (g9 0 13)]), (23, .pt 2 b1 6), (25, I i), (27, .agg ((Log.c n.log).map .r)), (28, I i)]⟩ K := by
     refine RA.of hall (RA.step (L := [1, 6]) (by kernel_rfl) (by simp) (RA.each ?_ (RA.each ?_ (RA.each0))))
     ·skip
      refine RO.v rfl rfl (V.loadAgg rfl rfl rfl rfl rfl (Nat.le_of_ble_eq_true rfl)) rfl ?_
      exact RA.to hall (RA.lr ro11_1111110000 rfl rfl)
     ·skip
      refine RO.call rfl rfl (impl_LogTerm_fn n.log i hs hi) rfl (.cons (.agg (.cons (.r .r) (.cons (.r .r) (.cons (.r .r) (.nil))))) (.cons (.one (.r .r)) (.nil))) rfl fun go11_6_1 => ?_
      exact RA.to hall (RA.lr (ro11_1011111000 go11_6_1) rfl rfl)
    have ro11_1101110000 : RA E B all 5 #[true, true, false, true, true, true, false, false, false, false] ⟨37, [(1, I i), (2, .obj b1 ((Node.c n).map .r)), (4, .obj b2 [I 0, I 0, I 0, I 0, I 0, .r (.v (.slice none 0 0)), I 0, I 0, .r (.v (.slice none 0 0)), I 0, I 0, I 0, .r (.v (.slice none 0 0)), .r (.v (.slice none 0 0))]), (6, .obj b10 [I n.id, I n.term_, I n.vote, I n.role, I n.lead, .w (sl 1 cI n.conf) (g9 0 5), I n.log.start, I n.log.startTerm, .w (sl 3 Entry.c n.log.entries) (g9 0 8), I n.commit, I n.clock, I n.limit, .w (sl 1 cI n.votes) (g9 0 12), .w (sl 4 Peer.c n.peers) (g9 0 13)]), (24, .agg ((Log.c n.log).map .r)), (27, .agg ((Log.c n.log).map .r)), (28, I i)]⟩ K := by
     refine RA.of hall (RA.step (L := [2, 6]) (by kernel_rfl) (by simp) (RA.each ?_ (RA.each ?_ (RA.each0))))
     ·skip
      refine RO.v rfl rfl (V.mv (d := I i) rfl rfl) rfl ?_
      exact RA.to hall (RA.lr ro11_1111110000 rfl rfl)
     ·skip
      refine RO.call rfl rfl (impl_LogTerm_fn n.log i hs hi) rfl (.cons (.agg (.cons (.r .r) (.cons (.r .r) (.cons (.r .r) (.nil))))) (.cons (.one (.r .r)) (.nil))) rfl fun go11_6_1 => ?_
      exact RA.to hall (RA.lr (ro11_1101111000 go11_6_1) rfl rfl)
    have ro11_1111010000 : RA E B all 5 #[true, true, true, true, false, true, false, false, false, false] ⟨37, [(1, I i), (2, .obj b1 ((Node.c n).map .r)), (4, .obj b2 [I 0, I 0, I 0, I 0, I 0, .r (.v (.slice none 0 0)), I 0, I 0, .r (.v (.slice none 0 0)), I 0, I 0, I 0, .r (.v (.slice none 0 0)), .r (.v (.slice none 0 0))]), (6, .obj b10 [I n.id, I n.term_, I n.vote, I n.role, I n.lead, .w (sl 1 cI n.conf) (g9 0 5), I n.log.start, I n.log.startTerm, .w (sl 3 Entry.c n.log.entries) (g9 0 8), I n.commit, I n.clock, I n.limit, .w (sl 1 cI n.votes) (g9 0 12), .w (sl 4 Peer.c n.peers) (g9 0 13)]), (24, .agg ((Log.c n.log).map .r)), (25, I i), (26, .pt 2 b1 6), (28, I i)]⟩ K := by
     refine RA.of hall (RA.step (L := [4]) (by kernel_rfl) (by simp) (RA.each ?_ (RA.each0)))
     ·skip
      refine RO.v rfl rfl (V.loadAgg rfl rfl rfl rfl rfl (Nat.le_of_ble_eq_true rfl)) rfl ?_
      exact RA.to hall (RA.lr ro11_1111110000 rfl rfl)
    have ro11_1111100000 : RA E B all 5 #[true, true, true, true, true, false, false, false, false, false] ⟨37, [(1, I i), (2, .obj b1 ((Node.c n).map .r)), (4, .obj b2 [I 0, I 0, I 0, I 0, I 0, .r (.v (.slice none 0 0)), I 0, I 0, .r (.v (.slice none 0 0)), I 0, I 0, I 0, .r (.v (.slice none 0 0)), .r (.v (.slice none 0 0))]), (6, .obj b10 [I n.id, I n.term_, I n.vote, I n.role, I n.lead, .w (sl 1 cI n.conf) (g9 0 5), I n.log.start, I n.log.startTerm, .w (sl 3 Entry.c n.log.entries) (g9 0 8), I n.commit, I n.clock, I n.limit, .w (sl 1 cI n.votes) (g9 0 12), .w (sl 4 Peer.c n.peers) (g9 0 13)]), (24, .agg ((Log.c n.log).map .r)), (25, I i), (27, .agg ((Log.c n.log).map .r))]⟩ K := by
     refine RA.of hall (RA.step (L := [5]) (by kernel_rfl) (by simp) (RA.each ?_ (RA.each0)))
     ·skip
      refine RO.v rfl rfl (V.mv (d := I i) rfl rfl) rfl ?_
      exact RA.to hall (RA.lr ro11_1111110000 rfl rfl)
    have ro11_0001111000 : ∀ (go11_6_1 : Nat → Nat → Value), RA E B all 6 #[false, false, false, true, true, true, true, false, false, false] ⟨37, [(1, I i), (2, .obj b1 ((Node.c n).map .r)), (4, .obj b2 [I 0, I 0, I 0, I 0, I 0, .r (.v (.slice none 0 0)), I 0, I 0, .r (.v (.slice none 0 0)), I 0, I 0, I 0, .r (.v (.slice none 0 0)), .r (.v (.slice none 0 0))]), (6, .obj b10 [I n.id, I n.term_, I n.vote, I n.role, I n.lead, .w (sl 1 cI n.conf) (g9 0 5), I n.log.start, I n.log.startTerm, .w (sl 3 Entry.c n.log.entries) (g9 0 8), I n.commit, I n.clock, I n.limit, .w (sl 1 cI n.votes) (g9 0 12), .w (sl 4 Peer.c n.peers) (g9 0 13)]), (29, I (logTerm n.log i))]⟩ K := by
     intro go11_6_1
     refine RA.of hall (RA.step (L := [0, 2]) (by kernel_rfl) (by simp) (RA.each ?_ (RA.each ?_ (RA.each0))))
     ·skip
      refine RO.v rfl rfl (V.field rfl rfl rfl rfl (by decide) rfl) rfl ?_
      exact RA.to hall (RA.lr (ro11_1001111000 go11_6_1) rfl rfl)
     ·skip
      refine RO.v rfl rfl (V.mv (d := I i) rfl rfl) rfl ?_
      exact RA.to hall (RA.lr (ro11_0011111000 go11_6_1) rfl rfl)
    have ro11_0011110000 : RA E B all 6 #[false, false, true, true, true, true, false, false, false, false] ⟨37, [(1, I i), (2, .obj b1 ((Node.c n).map .r)), (4, .obj b2 [I 0, I 0, I 0, I 0, I 0, .r (.v (.slice none 0 0)), I 0, I 0, .r (.v (.slice none 0 0)), I 0, I 0, I 0, .r (.v (.slice none 0 0)), .r (.v (.slice none 0 0))]), (6, .obj b10 [I n.id, I n.term_, I n.vote, I n.role, I n.lead, .w (sl 1 cI n.conf) (g9 0 5), I n.log.start, I n.log.startTerm, .w (sl 3 Entry.c n.log.entries) (g9 0 8), I n.commit, I n.clock, I n.limit, .w (sl 1 cI n.votes) (g9 0 12), .w (sl 4 Peer.c n.peers) (g9 0 13)]), (25, I i), (27, .agg ((Log.c n.log).map .r)), (28, I i)]⟩ K := by
     refine RA.of hall (RA.step (L := [0, 6]) (by kernel_rfl) (by simp) (RA.each ?_ (RA.each ?_ (RA.each0))))
     ·skip
      refine RO.v rfl rfl (V.field rfl rfl rfl rfl (by decide) rfl) rfl ?_
      exact RA.to hall (RA.lr ro11_1011110000 rfl rfl)
     ·skip
      refine RO.call rfl rfl (impl_LogTerm_fn n.log i hs hi) rfl (.cons (.agg (.cons (.r .r) (.cons (.r .r) (.cons (.r .r) (.nil))))) (.cons (.one (.r .r)) (.nil))) rfl fun go11_6_1 => ?_
      exact RA.to hall (RA.lr (ro11_0011111000 go11_6_1) rfl rfl)
    have ro11_1001110000 : RA E B all 6 #[true, false, false, true, true, true, false, false, false, false] ⟨37, [(1, I i), (2, .obj b1 ((Node.c n).map .r)), (4, .obj b2 [I 0, I 0, I 0, I 0, I 0, .r (.v (.slice none 0 0)), I 0, I 0, .r (.v (.slice none 0 0)), I 0, I 0, I 0, .r (.v (.slice none 0 0)), .r (.v (.slice none 0 0))]), (6, .obj b10 [I n.id, I n.term_, I n.vote, I n.role, I n.lead, .w (sl 1 cI n.conf) (g9 0 5), I n.log.start, I n.log.startTerm, .w (sl 3 Entry.c n.log.entries) (g9 0 8), I n.commit, I n.clock, I n.limit, .w (sl 1 cI n.votes) (g9 0 12), .w (sl 4 Peer.c n.peers) (g9 0 13)]), (23, .pt 2 b1 6), (27, .agg ((Log.c n.log).map .r)), (28, I i)]⟩ K := by
     refine RA.of hall (RA.step (L := [1, 2, 6]) (by kernel_rfl) (by simp) (RA.each ?_ (RA.each ?_ (RA.each ?_ (RA.each0)))))
     ·skip
      refine RO.v rfl rfl (V.loadAgg rfl rfl rfl rfl rfl (Nat.le_of_ble_eq_true rfl)) rfl ?_
      exact RA.to hall (RA.lr ro11_1101110000 rfl rfl)
     ·skip
      refine RO.v rfl rfl (V.mv (d := I i) rfl rfl) rfl ?_
      exact RA.to hall (RA.lr ro11_1011110000 rfl rfl)
     ·skip
      refine RO.call rfl rfl (impl_LogTerm_fn n.log i hs hi) rfl (.cons (.agg (.cons (.r .r) (.cons (.r .r) (.cons (.r .r) (.nil))))) (.cons (.one (.r .r)) (.nil))) rfl fun go11_6_1 => ?_
      exact RA.to hall (RA.lr (ro11_1001111000 go11_6_1) rfl rfl)
    have ro11_1011010000 : RA E B all 6 #[true, false, true, true, false, true, false, false, false, false] ⟨37, [(1, I i), (2, .obj b1 ((Node.c n).map .r)), (4, .obj b2 [I 0, I 0, I 0, I 0, I 0, .r (.v (.slice none 0 0)), I 0, I 0, .r (.v (.slice none 0 0)), I 0, I 0, I 0, .r (.v (.slice none 0 0)), .r (.v (.slice none 0 0))]), (6, .obj b10 [I n.id, I n.term_, I n.vote, I n.role, I n.lead, .w (sl 1 cI n.conf) (g9 0 5), I n.log.start, I n.log.startTerm, .w (sl 3 Entry.c n.log.entries) (g9 0 8), I n.commit, I n.clock, I n.limit, .w (sl 1 cI n.votes) (g9 0 12), .w (sl 4 Peer.c n.peers) (g9 0 13)]), (23, .pt 2 b1 6), (25, I i), (26, .pt 2 b1 6), (28, I i)]⟩ K := by
     refine RA.of hall (RA.step (L := [1, 4]) (by kernel_rfl) (by simp) (RA.each ?_ (RA.each ?_ (RA.each0))))
     ·skip
      refine RO.v rfl rfl (V.loadAgg rfl rfl rfl rfl rfl (Nat.le_of_ble_eq_true rfl)) rfl ?_
      exact RA.to hall (RA.lr ro11_1111010000 rfl rfl)
     ·skip
      refine RO.v rfl rfl (V.loadAgg rfl rfl rfl rfl rfl (Nat.le_of_ble_eq_true rfl)) rfl ?_
      exact RA.to hall (RA.lr ro11_1011110000 rfl rfl)
    have ro11_1011100000 : RA E B all 6 #[true, false, true, true, true, false, false, false, false, false] ⟨37, [(1, I i), (2, .obj b1 ((Node.c n).map .r)), (4, .obj b2 [I 0, I 0, I 0, I 0, I 0, .r (.v (.slice none 0 0)), I 0, I 0, .r (.v (.slice none 0 0)), I 0, I 0, I 0, .r (.v (.slice none 0 0)), .r (.v (.slice none 0 0))]), (6, .obj b10 [I n.id, I n.term_, I n.vote, I n.role, I n.lead, .w (sl 1 cI n.conf) (g9 0 5), I n.log.start, I n.log.startTerm, .w (sl 3 Entry.c n.log.entries) (g9 0 8), I n.commit, I n.clock, I n.limit, .w (sl 1 cI n.votes) (g9 0 12), .w (sl 4 Peer.c n.peers) (g9 0 13)]), (23, .pt 2 b1 6), (25, I i), (27, .agg ((Log.c n.log).map .r))]⟩ K := by
     refine RA.of hall (RA.step (L := [1, 5]) (by kernel_rfl) (by simp) (RA.each ?_ (RA.each ?_ (RA.each0))))
     ·skip
      refine RO.v rfl rfl (V.loadAgg rfl rfl rfl rfl rfl (Nat.le_of_ble_eq_true rfl)) rfl ?_
      exact RA.to hall (RA.lr ro11_1111100000 rfl rfl)
     ·skip
      refine RO.v rfl rfl (V.mv (d := I i) rfl rfl) rfl ?_
      exact RA.to hall (RA.lr ro11_1011110000 rfl rfl)
    have ro11_1101010000 : RA E B all 6 #[true, true, false, true, false, true, false, false, false, false] ⟨37, [(1, I i), (2, .obj b1 ((Node.c n).map .r)), (4, .obj b2 [I 0, I 0, I 0, I 0, I 0, .r (.v (.slice none 0 0)), I 0, I 0, .r (.v (.slice none 0 0)), I 0, I 0, I 0, .r (.v (.slice none 0 0)), .r (.v (.slice none 0 0))]), (6, .obj b10 [I n.id, I n.term_, I n.vote, I n.role, I n.lead, .w (sl 1 cI n.conf) (g9 0 5), I n.log.start, I n.log.startTerm, .w (sl 3 Entry.c n.log.entries) (g9 0 8), I n.commit, I n.clock, I n.limit, .w (sl 1 cI n.votes) (g9 0 12), .w (sl 4 Peer.c n.peers) (g9 0 13)]), (24, .agg ((Log.c n.log).map .r)), (26, .pt 2 b1 6), (28, I i)]⟩ K := by
     refine RA.of hall (RA.step (L := [2, 4]) (by kernel_rfl) (by simp) (RA.each ?_ (RA.each ?_ (RA.each0))))
     ·skip
      refine RO.v rfl rfl (V.mv (d := I i) rfl rfl) rfl ?_
      exact RA.to hall (RA.lr ro11_1111010000 rfl rfl)
     ·skip
      refine RO.v rfl rfl (V.loadAgg rfl rfl rfl rfl rfl (Nat.le_of_ble_eq_true rfl)) rfl ?_
      exact RA.to hall (RA.lr ro11_1101110000 rfl rfl)
    have ro11_1101100000 : RA E B all 6 #[true, true, false, true, true, false, false, false, false, false] ⟨37, [(1, I i), (2, .obj b1 ((Node.c n).map .r)), (4, .obj b2 [I 0, I 0, I 0, I 0, I 0, .r (.v (.slice none 0 0)), I 0, I 0, .r (.v (.slice none 0 0)), I 0, I 0, I 0, .r (.v (.slice none 0 0)), .r (.v (.slice none 0 0))]), (6, .obj b10 [I n.id, I n.term_, I n.vote, I n.role, I n.lead, .w (sl 1 cI n.conf) (g9 0 5), I n.log.start, I n.log.startTerm, .w (sl 3 Entry.c n.log.entries) (g9 0 8), I n.commit, I n.clock, I n.limit, .w (sl 1 cI n.votes) (g9 0 12), .w (sl 4 Peer.c n.peers) (g9 0 13)]), (24, .agg ((Log.c n.log).map .r)), (27, .agg ((Log.c n.log).map .r))]⟩ K := by
     refine RA.of hall (RA.step (L := [2, 5]) (by kernel_rfl) (by simp) (RA.each ?_ (RA.each ?_ (RA.each0))))
     ·skip
      refine RO.v rfl rfl (V.mv (d := I i) rfl rfl) rfl ?_
      exact RA.to hall (RA.lr ro11_1111100000 rfl rfl)
     ·skip
      refine RO.v rfl rfl (V.mv (d := I i) rfl rfl) rfl ?_
      exact RA.to hall (RA.lr ro11_1101110000 rfl rfl)
    have ro11_1110010000 : RA E B all 6 #[true, true, true, false, false, true, false, false, false, false] ⟨37, [(1, I i), (2, .obj b1 ((Node.c n).map .r)), (4, .obj b2 [I 0, I 0, I 0, I 0, I 0, .r (.v (.slice none 0 0)), I 0, I 0, .r (.v (.slice none 0 0)), I 0, I 0, I 0, .r (.v (.slice none 0 0)), .r (.v (.slice none 0 0))]), (6, .obj b10 [I n.id, I n.term_, I n.vote, I n.role, I n.lead, .w (sl 1 cI n.conf) (g9 0 5), I n.log.start, I n.log.startTerm, .w (sl 3 Entry.c n.log.entries) (g9 0 8), I n.commit, I n.clock, I n.limit, .w (sl 1 cI n.votes) (g9 0 12), .w (sl 4 Peer.c n.peers) (g9 0 13)]), (24, .agg ((Log.c n.log).map .r)), (25, I i), (28, I i)]⟩ K := by
     refine RA.of hall (RA.step (L := [3]) (by kernel_rfl) (by simp) (RA.each ?_ (RA.each0)))
     ·skip
      refine RO.v rfl rfl (V.field rfl rfl rfl rfl (by decide) rfl) rfl ?_
      exact RA.to hall (RA.lr ro11_1111010000 rfl rfl)
    have ro11_1111000000 : RA E B all 6 #[true, true, true, true, false, false, false, false, false, false] ⟨37, [(1, I i), (2, .obj b1 ((Node.c n).map .r)), (4, .obj b2 [I 0, I 0, I 0, I 0, I 0, .r (.v (.slice none 0 0)), I 0, I 0, .r (.v (.slice none 0 0)), I 0, I 0, I 0, .r (.v (.slice none 0 0)), .r (.v (.slice none 0 0))]), (6, .obj b10 [I n.id, I n.term_, I n.vote, I n.role, I n.lead, .w (sl 1 cI n.conf) (g9 0 5), I n.log.start, I n.log.startTerm, .w (sl 3 Entry.c n.log.entries) (g9 0 8), I n.commit, I n.clock, I n.limit, .w (sl 1 cI n.votes) (g9 0 12), .w (sl 4 Peer.c n.peers) (g9 0 13)]), (24, .agg ((Log.c n.log).map .r)), (25, I i), (26, .pt 2 b1 6)]⟩ K := by
     refine RA.of hall (RA.step (L := [4, 5]) (by kernel_rfl) (by simp) (RA.each ?_ (RA.each ?_ (RA.each0))))
     ·skip
      refine RO.v rfl rfl (V.loadAgg rfl rfl rfl rfl rfl (Nat.le_of_ble_eq_true rfl)) rfl ?_
      exact RA.to hall (RA.lr ro11_1111100000 rfl rfl)
     ·skip
      refine RO.v rfl rfl (V.mv (d := I i) rfl rfl) rfl ?_
      exact RA.to hall (RA.lr ro11_1111010000 rfl rfl)
    have ro11_0001110000 : RA E B all 7 #[false, false, false, true, true, true, false, false, false, false] ⟨37, [(1, I i), (2, .obj b1 ((Node.c n).map .r)), (4, .obj b2 [I 0, I 0, I 0, I 0, I 0, .r (.v (.slice none 0 0)), I 0, I 0, .r (.v (.slice none 0 0)), I 0, I 0, I 0, .r (.v (.slice none 0 0)), .r (.v (.slice none 0 0))]), (6, .obj b10 [I n.id, I n.term_, I n.vote, I n.role, I n.lead, .w (sl 1 cI n.conf) (g9 0 5), I n.log.start, I n.log.startTerm, .w (sl 3 Entry.c n.log.entries) (g9 0 8), I n.commit, I n.clock, I n.limit, .w (sl 1 cI n.votes) (g9 0 12), .w (sl 4 Peer.c n.peers) (g9 0 13)]), (27, .agg ((Log.c n.log).map .r)), (28, I i)]⟩ K := by
     refine RA.of hall (RA.step (L := [0, 2, 6]) (by kernel_rfl) (by simp) (RA.each ?_ (RA.each ?_ (RA.each ?_ (RA.each0)))))
     ·skip
      refine RO.v rfl rfl (V.field rfl rfl rfl rfl (by decide) rfl) rfl ?_
      exact RA.to hall (RA.lr ro11_1001110000 rfl rfl)
     ·skip
      refine RO.v rfl rfl (V.mv (d := I i) rfl rfl) rfl ?_
      exact RA.to hall (RA.lr ro11_0011110000 rfl rfl)
     ·skip
      refine RO.call rfl rfl (impl_LogTerm_fn n.log i hs hi) rfl (.cons (.agg (.cons (.r .r) (.cons (.r .r) (.cons (.r .r) (.nil))))) (.cons (.one (.r .r)) (.nil))) rfl fun go11_6_1 => ?_
      exact RA.to hall (RA.lr (ro11_0001111000 go11_6_1) rfl rfl)
    have ro11_0011010000 : RA E B all 7 #[false, false, true, true, false, true, false, false, false, false] ⟨37, [(1, I i), (2, .obj b1 ((Node.c n).map .r)), (4, .obj b2 [I 0, I 0, I 0, I 0, I 0, .r (.v (.slice none 0 0)), I 0, I 0, .r (.v (.slice none 0 0)), I 0, I 0, I 0, .r (.v (.slice none 0 0)), .r (.v (.slice none 0 0))]), (6, .obj b10 [I n.id, I n.term_, I n.vote, I n.role, I n.lead, .w (sl 1 cI n.conf) (g9 0 5), I n.log.start, I n.log.startTerm, .w (sl 3 Entry.c n.log.entries) (g9 0 8), I n.commit, I n.clock, I n.limit, .w (sl 1 cI n.votes) (g9 0 12), .w (sl 4 Peer.c n.peers) (g9 0 13)]), (25, I i), (26, .pt 2 b1 6), (28, I i)]⟩ K := by
     refine RA.of hall (RA.step (L := [0, 4]) (by kernel_rfl) (by simp) (RA.each ?_ (RA.each ?_ (RA.each0))))
     ·skip
      refine RO.v rfl rfl (V.field rfl rfl rfl rfl (by decide) rfl) rfl ?_
      exact RA.to hall (RA.lr ro11_1011010000 rfl rfl)
     ·skip
      refine RO.v rfl rfl (V.loadAgg rfl rfl rfl rfl rfl (Nat.le_of_ble_eq_true rfl)) rfl ?_
      exact RA.to hall (RA.lr ro11_0011110000 rfl rfl)
    have ro11_0011100000 : RA E B all 7 #[false, false, true, true, true, false, false, false, false, false] ⟨37, [(1, I i), (2, .obj b1 ((Node.c n).map .r)), (4, .obj b2 [I 0, I 0, I 0, I 0, I 0, .r (.v (.slice none 0 0)), I 0, I 0, .r (.v (.slice none 0 0)), I 0, I 0, I 0, .r (.v (.slice none 0 0)), .r (.v (.slice none 0 0))]), (6, .obj b10 [I n.id, I n.term_, I n.vote, I n.role, I n.lead, .w (sl 1 cI n.conf) (g9 0 5), I n.log.start, I n.log.startTerm, .w (sl 3 Entry.c n.log.entries) (g9 0 8), I n.commit, I n.clock, I n.limit, .w (sl 1 cI n.votes) (g9 0 12), .w (sl 4 Peer.c n.peers) (g9 0 13)]), (25, I i), (27, .agg ((Log.c n.log).map .r))]⟩ K := by
     refine RA.of hall (RA.step (L := [0, 5]) (by kernel_rfl) (by simp) (RA.each ?_ (RA.each ?_ (RA.each0))))
     ·skip
      refine RO.v rfl rfl (V.field rfl rfl rfl rfl (by decide) rfl) rfl ?_
      exact RA.to hall (RA.lr ro11_1011100000 rfl rfl)
     ·skip
      refine RO.v rfl rfl (V.mv (d := I i) rfl rfl) rfl ?_
      exact RA.to hall (RA.lr ro11_0011110000 rfl rfl)
    have ro11_1001010000 : RA E B all 7 #[true, false, false, true, false, true, false, false, false, false] ⟨37, [(1, I i), (2, .obj b1 ((Node.c n).map .r)), (4, .obj b2 [I 0, I 0, I 0, I 0, I 0, .r (.v (.slice none 0 0)), I 0, I 0, .r (.v (.slice none 0 0)), I 0, I 0, I 0, .r (.v (.slice none 0 0)), .r (.v (.slice none 0 0))]), (6, .obj b10 [I n.id, I n.term_, I n.vote, I n.role, I n.lead, .w (sl 1 cI n.conf) (g9 0 5), I n.log.start, I n.log.startTerm, .w (sl 3 Entry.c n.log.entries) (g9 0 8), I n.commit, I n.clock, I n.limit, .w (sl 1 cI n.votes) (g9 0 12), .w (sl 4 Peer.c n.peers) (g9 0 13)]), (23, .pt 2 b1 6), (26, .pt 2 b1 6), (28, I i)]⟩ K := by
     refine RA.of hall (RA.step (L := [1, 2, 4]) (by kernel_rfl) (by simp) (RA.each ?_ (RA.each ?_ (RA.each ?_ (RA.each0)))))
     ·skip
      refine RO.v rfl rfl (V.loadAgg rfl rfl rfl rfl rfl (Nat.le_of_ble_eq_true rfl)) rfl ?_
      exact RA.to hall (RA.lr ro11_1101010000 rfl rfl)
     ·skip
      refine RO.v rfl rfl (V.mv (d := I i) rfl rfl) rfl ?_
      exact RA.to hall (RA.lr ro11_1011010000 rfl rfl)
     ·skip
      refine RO.v rfl rfl (V.loadAgg rfl rfl rfl rfl rfl (Nat.le_of_ble_eq_true rfl)) rfl ?_
      exact RA.to hall (RA.lr ro11_1001110000 rfl rfl)
    have ro11_1001100000 : RA E B all 7 #[true, false, false, true, true, false, false, false, false, false] ⟨37, [(1, I i), (2, .obj b1 ((Node.c n).map .r)), (4, .obj b2 [I 0, I 0, I 0, I 0, I 0, .r (.v (.slice none 0 0)), I 0, I 0, .r (.v (.slice none 0 0)), I 0, I 0, I 0, .r (.v (.slice none 0 0)), .r (.v (.slice none 0 0))]), (6, .obj b10 [I n.id, I n.term_, I n.vote, I n.role, I n.lead, .w (sl 1 cI n.conf) (g9 0 5), I n.log.start, I n.log.startTerm, .w (sl 3 Entry.c n.log.entries) (g9 0 8), I n.commit, I n.clock, I n.limit, .w (sl 1 cI n.votes) (g9 0 12), .w (sl 4 Peer.c n.peers) (g9 0 13)]), (23, .pt 2 b1 6), (27, .agg ((Log.c n.log).map .r))]⟩ K := by
     refine RA.of hall (RA.step (L := [1, 2, 5]) (by kernel_rfl) (by simp) (RA.each ?_ (RA.each ?_ (RA.each ?_ (RA.each0)))))
     ·skip
      refine RO.v rfl rfl (V.loadAgg rfl rfl rfl rfl rfl (Nat.le_of_ble_eq_true rfl)) rfl ?_
      exact RA.to hall (RA.lr ro11_1101100000 rfl rfl)
     ·skip
      refine RO.v rfl rfl (V.mv (d := I i) rfl rfl) rfl ?_
      exact RA.to hall (RA.lr ro11_1011100000 rfl rfl)
     ·skip
      refine RO.v rfl rfl (V.mv (d := I i) rfl rfl) rfl ?_
      exact RA.to hall (RA.lr ro11_1001110000 rfl rfl)
    have ro11_1010010000 : RA E B all 7 #[true, false, true, false, false, true, false, false, false, false] ⟨37, [(1, I i), (2, .obj b1 ((Node.c n).map .r)), (4, .obj b2 [I 0, I 0, I 0, I 0, I 0, .r (.v (.slice none 0 0)), I 0, I 0, .r (.v (.slice none 0 0)), I 0, I 0, I 0, .r (.v (.slice none 0 0)), .r (.v (.slice none 0 0))]), (6, .obj b10 [I n.id, I n.term_, I n.vote, I n.role, I n.lead, .w (sl 1 cI n.conf) (g9 0 5), I n.log.start, I n.log.startTerm, .w (sl 3 Entry.c n.log.entries) (g9 0 8), I n.commit, I n.clock, I n.limit, .w (sl 1 cI n.votes) (g9 0 12), .w (sl 4 Peer.c n.peers) (g9 0 13)]), (23, .pt 2 b1 6), (25, I i), (28, I i)]⟩ K := by
     refine RA.of hall (RA.step (L := [1, 3]) (by kernel_rfl) (by simp) (RA.each ?_ (RA.each ?_ (RA.each0))))
     ·skip
      refine RO.v rfl rfl (V.loadAgg rfl rfl rfl rfl rfl (Nat.le_of_ble_eq_true rfl)) rfl ?_
      exact RA.to hall (RA.lr ro11_1110010000 rfl rfl)
     ·skip
      refine RO.v rfl rfl (V.field rfl rfl rfl rfl (by decide) rfl) rfl ?_
      exact RA.to hall (RA.lr ro11_1011010000 rfl rfl)
    have ro11_1011000000 : RA E B all 7 #[true, false, true, true, false, false, false, false, false, false] ⟨37, [(1, I i), (2, .obj b1 ((Node.c n).map .r)), (4, .obj b2 [I 0, I 0, I 0, I 0, I 0, .r (.v (.slice none 0 0)), I 0, I 0, .r (.v (.slice none 0 0)), I 0, I 0, I 0, .r (.v (.slice none 0 0)), .r (.v (.slice none 0 0))]), (6, .obj b10 [I n.id, I n.term_, I n.vote, I n.role, I n.lead, .w (sl 1 cI n.conf) (g9 0 5), I n.log.start, I n.log.startTerm, .w (sl 3 Entry.c n.log.entries) (g9 0 8), I n.commit, I n.clock, I n.limit, .w (sl 1 cI n.votes) (g9 0 12), .w (sl 4 Peer.c n.peers) (g9 0 13)]), (23, .pt 2 b1 6), (25, I i), (26, .pt 2 b1 6)]⟩ K := by
     refine RA.of hall (RA.step (L := [1, 4, 5]) (by kernel_rfl) (by simp) (RA.each ?_ (RA.each ?_ (RA.each ?_ (RA.each0)))))
     ·skip
      refine RO.v rfl rfl (V.loadAgg rfl rfl rfl rfl rfl (Nat.le_of_ble_eq_true rfl)) rfl ?_
      exact RA.to hall (RA.lr ro11_1111000000 rfl rfl)
     ·skip
      refine RO.v rfl rfl (V.loadAgg rfl rfl rfl rfl rfl (Nat.le_of_ble_eq_true rfl)) rfl ?_
      exact RA.to hall (RA.lr ro11_1011100000 rfl rfl)
     ·skip
      refine RO.v rfl rfl (V.mv (d := I i) rfl rfl) rfl ?_
      exact RA.to hall (RA.lr ro11_1011010000 rfl rfl)
    have ro11_1100010000 : RA E B all 7 #[true, true, false, false, false, true, false, false, false, false] ⟨37, [(1, I i), (2, .obj b1 ((Node.c n).map .r)), (4, .obj b2 [I 0, I 0, I 0, I 0, I 0, .r (.v (.slice none 0 0)), I 0, I 0, .r (.v (.slice none 0 0)), I 0, I 0, I 0, .r (.v (.slice none 0 0)), .r (.v (.slice none 0 0))]), (6, .obj b10 [I n.id, I n.term_, I n.vote, I n.role, I n.lead, .w (sl 1 cI n.conf) (g9 0 5), I n.log.start, I n.log.startTerm, .w (sl 3 Entry.c n.log.entries) (g9 0 8), I n.commit, I n.clock, I n.limit, .w (sl 1 cI n.votes) (g9 0 12), .w (sl 4 Peer.c n.peers) (g9 0 13)]), (24, .agg ((Log.c n.log).map .r)), (28, I i)]⟩ K := by
     refine RA.of hall (RA.step (L := [2, 3]) (by kernel_rfl) (by simp) (RA.each ?_ (RA.each ?_ (RA.each0))))
     ·skip
      refine RO.v rfl rfl (V.mv (d := I i) rfl rfl) rfl ?_
      exact RA.to hall (RA.lr ro11_1110010000 rfl rfl)
     ·skip
      refine RO.v rfl rfl (V.field rfl rfl rfl rfl (by decide) rfl) rfl ?_
      exact RA.to hall (RA.lr ro11_1101010000 rfl rfl)
    have ro11_1101000000 : RA E B all 7 #[true, true, false, true, false, false, false, false, false, false] ⟨37, [(1, I i), (2, .obj b1 ((Node.c n).map .r)), (4, .obj b2 [I 0, I 0, I 0, I 0, I 0, .r (.v (.slice none 0 0)), I 0, I 0, .r (.v (.slice none 0 0)), I 0, I 0, I 0, .r (.v (.slice none 0 0)), .r (.v (.slice none 0 0))]), (6, .obj b10 [I n.id, I n.term_, I n.vote, I n.role, I n.lead, .w (sl 1 cI n.conf) (g9 0 5), I n.log.start, I n.log.startTerm, .w (sl 3 Entry.c n.log.entries) (g9 0 8), I n.commit, I n.clock, I n.limit, .w (sl 1 cI n.votes) (g9 0 12), .w (sl 4 Peer.c n.peers) (g9 0 13)]), (24, .agg ((Log.c n.log).map .r)), (26, .pt 2 b1 6)]⟩ K := by
     refine RA.of hall (RA.step (L := [2, 4, 5]) (by kernel_rfl) (by simp) (RA.each ?_ (RA.each ?_ (RA.each ?_ (RA.each0)))))
     ·skip
      refine RO.v rfl rfl (V.mv (d := I i) rfl rfl) rfl ?_
      exact RA.to hall (RA.lr ro11_1111000000 rfl rfl)
     ·skip
      refine RO.v rfl rfl (V.loadAgg rfl rfl rfl rfl rfl (Nat.le_of_ble_eq_true rfl)) rfl ?_
      exact RA.to hall (RA.lr ro11_1101100000 rfl rfl)
     ·skip
      refine RO.v rfl rfl (V.mv (d := I i) rfl rfl) rfl ?_
      exact RA.to hall (RA.lr ro11_1101010000 rfl rfl)
    have ro11_1110000000 : RA E B all 7 #[true, true, true, false, false, false, false, false, false, false] ⟨37, [(1, I i), (2, .obj b1 ((Node.c n).map .r)), (4, .obj b2 [I 0, I 0, I 0, I 0, I 0, .r (.v (.slice none 0 0)), I 0, I 0, .r (.v (.slice none 0 0)), I 0, I 0, I 0, .r (.v (.slice none 0 0)), .r (.v (.slice none 0 0))]), (6, .obj b10 [I n.id, I n.term_, I n.vote, I n.role, I n.lead, .w (sl 1 cI n.conf) (g9 0 5), I n.log.start, I n.log.startTerm, .w (sl 3 Entry.c n.log.entries) (g9 0 8), I n.commit, I n.clock, I n.limit, .w (sl 1 cI n.votes) (g9 0 12), .w (sl 4 Peer.c n.peers) (g9 0 13)]), (24, .agg ((Log.c n.log).map .r)), (25, I i)]⟩ K := by
     refine RA.of hall (RA.step (L := [3, 5]) (by kernel_rfl) (by simp) (RA.each ?_ (RA.each ?_ (RA.each0))))
     ·skip
      refine RO.v rfl rfl (V.field rfl rfl rfl rfl (by decide) rfl) rfl ?_
      exact RA.to hall (RA.lr ro11_1111000000 rfl rfl)
     ·skip
      refine RO.v rfl rfl (V.mv (d := I i) rfl rfl) rfl ?_
      exact RA.to hall (RA.lr ro11_1110010000 rfl rfl)
    have ro11_0001010000 : RA E B all 8 #[false, false, false, true, false, true, false, false, false, false] ⟨37, [(1, I i), (2, .obj b1 ((Node.c n).map .r)), (4, .obj b2 [I 0, I 0, I 0, I 0, I 0, .r (.v (.slice none 0 0)), I 0, I 0, .r (.v (.slice none 0 0)), I 0, I 0, I 0, .r (.v (.slice none 0 0)), .r (.v (.slice none 0 0))]), (6, .obj b10 [I n.id, I n.term_, I n.vote, I n.role, I n.lead, .w (sl 1 cI n.conf) (g9 0 5), I n.log.start, I n.log.startTerm, .w (sl 3 Entry.c n.log.entries) (g9 0 8), I n.commit, I n.clock, I n.limit, .w (sl 1 cI n.votes) (g9 0 12), .w (sl 4 Peer.c n.peers) (g9 0 13)]), (26, .pt 2 b1 6), (28, I i)]⟩ K := by
     refine RA.of hall (RA.step (L := [0, 2, 4]) (by kernel_rfl) (by simp) (RA.each ?_ (RA.each ?_ (RA.each ?_ (RA.each0)))))
     ·skip
      refine RO.v rfl rfl (V.field rfl rfl rfl rfl (by decide) rfl) rfl ?_
      exact RA.to hall (RA.lr ro11_1001010000 rfl rfl)
     ·skip
      refine RO.v rfl rfl (V.mv (d := I i) rfl rfl) rfl ?_
      exact RA.to hall (RA.lr ro11_0011010000 rfl rfl)
     ·skip
      refine RO.v rfl rfl (V.loadAgg rfl rfl rfl rfl rfl (Nat.le_of_ble_eq_true rfl)) rfl ?_
      exact RA.to hall (RA.lr ro11_0001110000 rfl rfl)
    have ro11_0001100000 : RA E B all 8 #[false, false, false, true, true, false, false, false, false, false] ⟨37, [(1, I i), (2, .obj b1 ((Node.c n).map .r)), (4, .obj b2 [I 0, I 0, I 0, I 0, I 0, .r (.v (.slice none 0 0)), I 0, I 0, .r (.v (.slice none 0 0)), I 0, I 0, I 0, .r (.v (.slice none 0 0)), .r (.v (.slice none 0 0))]), (6, .obj b10 [I n.id, I n.term_, I n.vote, I n.role, I n.lead, .w (sl 1 cI n.conf) (g9 0 5), I n.log.start, I n.log.startTerm, .w (sl 3 Entry.c n.log.entries) (g9 0 8), I n.commit, I n.clock, I n.limit, .w (sl 1 cI n.votes) (g9 0 12), .w (sl 4 Peer.c n.peers) (g9 0 13)]), (27, .agg ((Log.c n.log).map .r))]⟩ K := by
     refine RA.of hall (RA.step (L := [0, 2, 5]) (by kernel_rfl) (by simp) (RA.each ?_ (RA.each ?_ (RA.each ?_ (RA.each0)))))
     ·skip
      refine RO.v rfl rfl (V.field rfl rfl rfl rfl (by decide) rfl) rfl ?_
      exact RA.to hall (RA.lr ro11_1001100000 rfl rfl)
     ·skip
      refine RO.v rfl rfl (V.mv (d := I i) rfl rfl) rfl ?_
      exact RA.to hall (RA.lr ro11_0011100000 rfl rfl)
     ·skip
      refine RO.v rfl rfl (V.mv (d := I i) rfl rfl) rfl ?_
      exact RA.to hall (RA.lr ro11_0001110000 rfl rfl)
    have ro11_0010010000 : RA E B all 8 #[false, false, true, false, false, true, false, false, false, false] ⟨37, [(1, I i), (2, .obj b1 ((Node.c n).map .r)), (4, .obj b2 [I 0, I 0, I 0, I 0, I 0, .r (.v (.slice none 0 0)), I 0, I 0, .r (.v (.slice none 0 0)), I 0, I 0, I 0, .r (.v (.slice none 0 0)), .r (.v (.slice none 0 0))]), (6, .obj b10 [I n.id, I n.term_, I n.vote, I n.role, I n.lead, .w (sl 1 cI n.conf) (g9 0 5), I n.log.start, I n.log.startTerm, .w (sl 3 Entry.c n.log.entries) (g9 0 8), I n.commit, I n.clock, I n.limit, .w (sl 1 cI n.votes) (g9 0 12), .w (sl 4 Peer.c n.peers) (g9 0 13)]), (25, I i), (28, I i)]⟩ K := by
     refine RA.of hall (RA.step (L := [0, 3]) (by kernel_rfl) (by simp) (RA.each ?_ (RA.each ?_ (RA.each0))))
     ·skip
      refine RO.v rfl rfl (V.field rfl rfl rfl rfl (by decide) rfl) rfl ?_
      exact RA.to hall (RA.lr ro11_1010010000 rfl rfl)
     ·skip
      refine RO.v rfl rfl (V.field rfl rfl rfl rfl (by decide) rfl) rfl ?_
      exact RA.to hall (RA.lr ro11_0011010000 rfl rfl)
    have ro11_0011000000 : RA E B all 8 #[false, false, true, true, false, false, false, false, false, false] ⟨37, [(1, I i), (2, .obj b1 ((Node.c n).map .r)), (4, .obj b2 [I 0, I 0, I 0, I 0, I 0, .r (.v (.slice none 0 0)), I 0, I 0, .r (.v (.slice none 0 0)), I 0, I 0, I 0, .r (.v (.slice none 0 0)), .r (.v (.slice none 0 0))]), (6, .obj b10 [I n.id, I n.term_, I n.vote, I n.role, I n.lead, .w (sl 1 cI n.conf) (g9 0 5), I n.log.start, I n.log.startTerm, .w (sl 3 Entry.c n.log.entries) (g9 0 8), I n.commit, I n.clock, I n.limit, .w (sl 1 cI n.votes) (g9 0 12), .w (sl 4 Peer.c n.peers) (g9 0 13)]), (25, I i), (26, .pt 2 b1 6)]⟩ K := by
     refine RA.of hall (RA.step (L := [0, 4, 5]) (by kernel_rfl) (by simp) (RA.each ?_ (RA.each ?_ (RA.each ?_ (RA.each0)))))
     ·skip
      refine RO.v rfl rfl (V.field rfl rfl rfl rfl (by decide) rfl) rfl ?_
      exact RA.to hall (RA.lr ro11_1011000000 rfl rfl)
     ·skip
      refine RO.v rfl rfl (V.loadAgg rfl rfl rfl rfl rfl (Nat.le_of_ble_eq_true rfl)) rfl ?_
      exact RA.to hall (RA.lr ro11_0011100000 rfl rfl)
     ·skip
      refine RO.v rfl rfl (V.mv (d := I i) rfl rfl) rfl ?_
      exact RA.to hall (RA.lr ro11_0011010000 rfl rfl)
    have ro11_1000010000 : RA E B all 8 #[true, false, false, false, false, true, false, false, false, false] ⟨37, [(1, I i), (2, .obj b1 ((Node.c n).map .r)), (4, .obj b2 [I 0, I 0, I 0, I 0, I 0, .r (.v (.slice none 0 0)), I 0, I 0, .r (.v (.slice none 0 0)), I 0, I 0, I 0, .r (.v (.slice none 0 0)), .r (.v (.slice none 0 0))]), (6, .obj b10 [I n.id, I n.term_, I n.vote, I n.role, I n.lead, .w (sl 1 cI n.conf) (g9 0 5), I n.log.start, I n.log.startTerm, .w (sl 3 Entry.c n.log.entries) (g9 0 8), I n.commit, I n.clock, I n.limit, .w (sl 1 cI n.votes) (g9 0 12), .w (sl 4 Peer.c n.peers) (g9 0 13)]), (23, .pt 2 b1 6), (28, I i)]⟩ K := by
     refine RA.of hall (RA.step (L := [1, 2, 3]) (by kernel_rfl) (by simp) (RA.each ?_ (RA.each ?_ (RA.each ?_ (RA.each0)))))
     ·skip
      refine RO.v rfl rfl (V.loadAgg rfl rfl rfl rfl rfl (Nat.le_of_ble_eq_true rfl)) rfl ?_
      exact RA.to hall (RA.lr ro11_1100010000 rfl rfl)
     ·skip
      refine RO.v rfl rfl (V.mv (d := I i) rfl rfl) rfl ?_
      exact RA.to hall (RA.lr ro11_1010010000 rfl rfl)
     ·skip
      refine RO.v rfl rfl (V.field rfl rfl rfl rfl (by decide) rfl) rfl ?_
      exact RA.to hall (RA.lr ro11_1001010000 rfl rfl)
    have ro11_1001000000 : RA E B all 8 #[true, false, false, true, false, false, false, false, false, false] ⟨37, [(1, I i), (2, .obj b1 ((Node.c n).map .r)), (4, .obj b2 [I 0, I 0, I 0, I 0, I 0, .r (.v (.slice none 0 0)), I 0, I 0, .r (.v (.slice none 0 0)), I 0, I 0, I 0, .r (.v (.slice none 0 0)), .r (.v (.slice none 0 0))]), (6, .obj b10 [I n.id, I n.term_, I n.vote, I n.role, I n.lead, .w (sl 1 cI n.conf) (g9 0 5), I n.log.start, I n.log.startTerm, .w (sl 3 Entry.c n.log.entries) (g9 0 8), I n.commit, I n.clock, I n.limit, .w (sl 1 cI n.votes) (g9 0 12), .w (sl 4 Peer.c n.peers) (g9 0 13)]), (23, .pt 2 b1 6), (26, .pt 2 b1 6)]⟩ K := by
     refine RA.of hall (RA.step (L := [1, 2, 4, 5]) (by kernel_rfl) (by simp) (RA.each ?_ (RA.each ?_ (RA.each ?_ (RA.each ?_ (RA.each0))))))
     ·skip
      refine RO.v rfl rfl (V.loadAgg rfl rfl rfl rfl rfl (Nat.le_of_ble_eq_true rfl)) rfl ?_
      exact RA.to hall (RA.lr ro11_1101000000 rfl rfl)
     ·skip
      refine RO.v rfl rfl (V.mv (d := I i) rfl rfl) rfl ?_
      exact RA.to hall (RA.lr ro11_1011000000 rfl rfl)
     ·skip
      refine RO.v rfl rfl (V.loadAgg rfl rfl rfl rfl rfl (Nat.le_of_ble_eq_true rfl)) rfl ?_
      exact RA.to hall (RA.lr ro11_1001100000 rfl rfl)
     ·skip
      refine RO.v rfl rfl (V.mv (d := I i) rfl rfl) rfl ?_
      exact RA.to hall (RA.lr ro11_1001010000 rfl rfl)
    have ro11_1010000000 : RA E B all 8 #[true, false, true, false, false, false, false, false, false, false] ⟨37, [(1, I i), (2, .obj b1 ((Node.c n).map .r)), (4, .obj b2 [I 0, I 0, I 0, I 0, I 0, .r (.v (.slice none 0 0)), I 0, I 0, .r (.v (.slice none 0 0)), I 0, I 0, I 0, .r (.v (.slice none 0 0)), .r (.v (.slice none 0 0))]), (6, .obj b10 [I n.id, I n.term_, I n.vote, I n.role, I n.lead, .w (sl 1 cI n.conf) (g9 0 5), I n.log.start, I n.log.startTerm, .w (sl 3 Entry.c n.log.entries) (g9 0 8), I n.commit, I n.clock, I n.limit, .w (sl 1 cI n.votes) (g9 0 12), .w (sl 4 Peer.c n.peers) (g9 0 13)]), (23, .pt 2 b1 6), (25, I i)]⟩ K := by
     refine RA.of hall (RA.step (L := [1, 3, 5]) (by kernel_rfl) (by simp) (RA.each ?_ (RA.each ?_ (RA.each ?_ (RA.each0)))))
     ·skip
      refine RO.v rfl rfl (V.loadAgg rfl rfl rfl rfl rfl (Nat.le_of_ble_eq_true rfl)) rfl ?_
      exact RA.to hall (RA.lr ro11_1110000000 rfl rfl)
     ·skip
      refine RO.v rfl rfl (V.field rfl rfl rfl rfl (by decide) rfl) rfl ?_
      exact RA.to hall (RA.lr ro11_1011000000 rfl rfl)
     ·skip
      refine RO.v rfl rfl (V.mv (d := I i) rfl rfl) rfl ?_
      exact RA.to hall (RA.lr ro11_1010010000 rfl rfl)
    have ro11_1100000000 : RA E B all 8 #[true, true, false, false, false, false, false, false, false, false] ⟨37, [(1, I i), (2, .obj b1 ((Node.c n).map .r)), (4, .obj b2 [I 0, I 0, I 0, I 0, I 0, .r (.v (.slice none 0 0)), I 0, I 0, .r (.v (.slice none 0 0)), I 0, I 0, I 0, .r (.v (.slice none 0 0)), .r (.v (.slice none 0 0))]), (6, .obj b10 [I n.id, I n.term_, I n.vote, I n.role, I n.lead, .w (sl 1 cI n.conf) (g9 0 5), I n.log.start, I n.log.startTerm, .w (sl 3 Entry.c n.log.entries) (g9 0 8), I n.commit, I n.clock, I n.limit, .w (sl 1 cI n.votes) (g9 0 12), .w (sl 4 Peer.c n.peers) (g9 0 13)]), (24, .agg ((Log.c n.log).map .r))]⟩ K := by
     refine RA.of hall (RA.step (L := [2, 3, 5]) (by kernel_rfl) (by simp) (RA.each ?_ (RA.each ?_ (RA.each ?_ (RA.each0)))))
     ·skip
      refine RO.v rfl rfl (V.mv (d := I i) rfl rfl) rfl ?_
      exact RA.to hall (RA.lr ro11_1110000000 rfl rfl)
     ·skip
      refine RO.v rfl rfl (V.field rfl rfl rfl rfl (by decide) rfl) rfl ?_
      exact RA.to hall (RA.lr ro11_1101000000 rfl rfl)
     ·skip
      refine RO.v rfl rfl (V.mv (d := I i) rfl rfl) rfl ?_
      exact RA.to hall (RA.lr ro11_1100010000 rfl rfl)
    have ro11_0000010000 : RA E B all 9 #[false, false, false, false, false, true, false, false, false, false] ⟨37, [(1, I i), (2, .obj b1 ((Node.c n).map .r)), (4, .obj b2 [I 0, I 0, I 0, I 0, I 0, .r (.v (.slice none 0 0)), I 0, I 0, .r (.v (.slice none 0 0)), I 0, I 0, I 0, .r (.v (.slice none 0 0)), .r (.v (.slice none 0 0))]), (6, .obj b10 [I n.id, I n.term_, I n.vote, I n.role, I n.lead, .w (sl 1 cI n.conf) (g9 0 5), I n.log.start, I n.log.startTerm, .w (sl 3 Entry.c n.log.entries) (g9 0 8), I n.commit, I n.clock, I n.limit, .w (sl 1 cI n.votes) (g9 0 12), .w (sl 4 Peer.c n.peers) (g9 0 13)]), (28, I i)]⟩ K := by
     refine RA.of hall (RA.step (L := [0, 2, 3]) (by kernel_rfl) (by simp) (RA.each ?_ (RA.each ?_ (RA.each ?_ (RA.each0)))))
     ·skip
      refine RO.v rfl rfl (V.field rfl rfl rfl rfl (by decide) rfl) rfl ?_
      exact RA.to hall (RA.lr ro11_1000010000 rfl rfl)
     ·skip
      refine RO.v rfl rfl (V.mv (d := I i) rfl rfl) rfl ?_
      exact RA.to hall (RA.lr ro11_0010010000 rfl rfl)
     ·skip
      refine RO.v rfl rfl (V.field rfl rfl rfl rfl (by decide) rfl) rfl ?_
      exact RA.to hall (RA.lr ro11_0001010000 rfl rfl)
    have ro11_0001000000 : RA E B all 9 #[false, false, false, true, false, false, false, false, false, false] ⟨37, [(1, I i), (2, .obj b1 ((Node.c n).map .r)), (4, .obj b2 [I 0, I 0, I 0, I 0, I 0, .r (.v (.slice none 0 0)), I 0, I 0, .r (.v (.slice none 0 0)), I 0, I 0, I 0, .r (.v (.slice none 0 0)), .r (.v (.slice none 0 0))]), (6, .obj b10 [I n.id, I n.term_, I n.vote, I n.role, I n.lead, .w (sl 1 cI n.conf) (g9 0 5), I n.log.start, I n.log.startTerm, .w (sl 3 Entry.c n.log.entries) (g9 0 8), I n.commit, I n.clock, I n.limit, .w (sl 1 cI n.votes) (g9 0 12), .w (sl 4 Peer.c n.peers) (g9 0 13)]), (26, .pt 2 b1 6)]⟩ K := by
     refine RA.of hall (RA.step (L := [0, 2, 4, 5]) (by kernel_rfl) (by simp) (RA.each ?_ (RA.each ?_ (RA.each ?_ (RA.each ?_ (RA.each0))))))
     ·skip
      refine RO.v rfl rfl (V.field rfl rfl rfl rfl (by decide) rfl) rfl ?_
      exact RA.to hall (RA.lr ro11_1001000000 rfl rfl)
     ·skip
      refine RO.v rfl rfl (V.mv (d := I i) rfl rfl) rfl ?_
      exact RA.to hall (RA.lr ro11_0011000000 rfl rfl)
     ·skip
      refine RO.v rfl rfl (V.loadAgg rfl rfl rfl rfl rfl (Nat.le_of_ble_eq_true rfl)) rfl ?_
      exact RA.to hall (RA.lr ro11_0001100000 rfl rfl)
     ·skip
      refine RO.v rfl rfl (V.mv (d := I i) rfl rfl) rfl ?_
      exact RA.to hall (RA.lr ro11_0001010000 rfl rfl)
    have ro11_0010000000 : RA E B all 9 #[false, false, true, false, false, false, false, false, false, false] ⟨37, [(1, I i), (2, .obj b1 ((Node.c n).map .r)), (4, .obj b2 [I 0, I 0, I 0, I 0, I 0, .r (.v (.slice none 0 0)), I 0, I 0, .r (.v (.slice none 0 0)), I 0, I 0, I 0, .r (.v (.slice none 0 0)), .r (.v (.slice none 0 0))]), (6, .obj b10 [I n.id, I n.term_, I n.vote, I n.role, I n.lead, .w (sl 1 cI n.conf) (g9 0 5), I n.log.start, I n.log.startTerm, .w (sl 3 Entry.c n.log.entries) (g9 0 8), I n.commit, I n.clock, I n.limit, .w (sl 1 cI n.votes) (g9 0 12), .w (sl 4 Peer.c n.peers) (g9 0 13)]), (25, I i)]⟩ K := by
     refine RA.of hall (RA.step (L := [0, 3, 5]) (by kernel_rfl) (by simp) (RA.each ?_ (RA.each ?_ (RA.each ?_ (RA.each0)))))
     ·skip
      refine RO.v rfl rfl (V.field rfl rfl rfl rfl (by decide) rfl) rfl ?_
      exact RA.to hall (RA.lr ro11_1010000000 rfl rfl)
     ·skip
      refine RO.v rfl rfl (V.field rfl rfl rfl rfl (by decide) rfl) rfl ?_
      exact RA.to hall (RA.lr ro11_0011000000 rfl rfl)
     ·skip
      refine RO.v rfl rfl (V.mv (d := I i) rfl rfl) rfl ?_
      exact RA.to hall (RA.lr ro11_0010010000 rfl rfl)
    have ro11_1000000000 : RA E B all 9 #[true, false, false, false, false, false, false, false, false, false] ⟨37, [(1, I i), (2, .obj b1 ((Node.c n).map .r)), (4, .obj b2 [I 0, I 0, I 0, I 0, I 0, .r (.v (.slice none 0 0)), I 0, I 0, .r (.v (.slice none 0 0)), I 0, I 0, I 0, .r (.v (.slice none 0 0)), .r (.v (.slice none 0 0))]), (6, .obj b10 [I n.id, I n.term_, I n.vote, I n.role, I n.lead, .w (sl 1 cI n.conf) (g9 0 5), I n.log.start, I n.log.startTerm, .w (sl 3 Entry.c n.log.entries) (g9 0 8), I n.commit, I n.clock, I n.limit, .w (sl 1 cI n.votes) (g9 0 12), .w (sl 4 Peer.c n.peers) (g9 0 13)]), (23, .pt 2 b1 6)]⟩ K := by
     refine RA.of hall (RA.step (L := [1, 2, 3, 5]) (by kernel_rfl) (by simp) (RA.each ?_ (RA.each ?_ (RA.each ?_ (RA.each ?_ (RA.each0))))))
     ·skip
      refine RO.v rfl rfl (V.loadAgg rfl rfl rfl rfl rfl (Nat.le_of_ble_eq_true rfl)) rfl ?_
      exact RA.to hall (RA.lr ro11_1100000000 rfl rfl)
     ·skip
      refine RO.v rfl rfl (V.mv (d := I i) rfl rfl) rfl ?_
      exact RA.to hall (RA.lr ro11_1010000000 rfl rfl)
     ·skip
      refine RO.v rfl rfl (V.field rfl rfl rfl rfl (by decide) rfl) rfl ?_
      exact RA.to hall (RA.lr ro11_1001000000 rfl rfl)
     ·skip
      refine RO.v rfl rfl (V.mv (d := I i) rfl rfl) rfl ?_
      exact RA.to hall (RA.lr ro11_1000010000 rfl rfl)
    have ro11_0000000000 : RA E B all 10 #[false, false, false, false, false, false, false, false, false, false] ⟨37, [(1, I i), (2, .obj b1 ((Node.c n).map .r)), (4, .obj b2 [I 0, I 0, I 0, I 0, I 0, .r (.v (.slice none 0 0)), I 0, I 0, .r (.v (.slice none 0 0)), I 0, I 0, I 0, .r (.v (.slice none 0 0)), .r (.v (.slice none 0 0))]), (6, .obj b10 [I n.id, I n.term_, I n.vote, I n.role, I n.lead, .w (sl 1 cI n.conf) (g9 0 5), I n.log.start, I n.log.startTerm, .w (sl 3 Entry.c n.log.entries) (g9 0 8), I n.commit, I n.clock, I n.limit, .w (sl 1 cI n.votes) (g9 0 12), .w (sl 4 Peer.c n.peers) (g9 0 13)])]⟩ K := by
     refine RA.of hall (RA.step (L := [0, 2, 3, 5]) (by kernel_rfl) (by simp) (RA.each ?_ (RA.each ?_ (RA.each ?_ (RA.each ?_ (RA.each0))))))
     ·skip
      refine RO.v rfl rfl (V.field rfl rfl rfl rfl (by decide) rfl) rfl ?_
      exact RA.to hall (RA.lr ro11_1000000000 rfl rfl)
     ·skip
      refine RO.v rfl rfl (V.mv (d := I i) rfl rfl) rfl ?_
      exact RA.to hall (RA.lr ro11_0010000000 rfl rfl)
     ·skip
      refine RO.v rfl rfl (V.field rfl rfl rfl rfl (by decide) rfl) rfl ?_
      exact RA.to hall (RA.lr ro11_0001000000 rfl rfl)
     ·skip
      refine RO.v rfl rfl (V.mv (d := I i) rfl rfl) rfl ?_
      exact RA.to hall (RA.lr ro11_0000010000 rfl rfl)
    exact RA.start (by kernel_rfl) (by kernel_rfl) (RA.lr ro11_0000000000 rfl rfl)
   ·rintro ⟨go11_6_1, go11_7_1⟩
    refine CW.seq ?_
    refine CW.region ?_
    refine RW.v rfl (V.loadAgg rfl rfl rfl rfl rfl (Nat.le_of_ble_eq_true rfl)) ?_
    refine RW.v rfl (V.mv (d := I i) rfl rfl) ?_
    refine RW.call rfl (impl_ConfAt_fn n i hok) rfl (.cons (.agg (.cons (.r .r) (.cons (.r .r) (.cons (.r .r) (.cons (.r .r) (.cons (.r .r) (.cons (.r .r) (.cons (.r .r) (.cons (.r .r) (.cons (.r .r) (.cons (.r .r) (.cons (.r .r) (.cons (.r .r) (.cons (.r .r) (.cons (.r .r) (.nil)))))))))))))))) (.cons (.one (.r .r)) (.nil))) fun g12 => ?_
    refine RW.v rfl (V.field rfl rfl rfl rfl (by decide) rfl) ?_
    refine RW.store (d := .al 34 none 1 (((lastC n i).2).length) (g12 0 0) 0) rfl rfl rfl rfl rfl rfl rfl (Nat.le_of_ble_eq_true rfl) rfl rfl ?_
    refine RW.le [(4, .obj b2 [I 0, I 0, I 0, I 0, I 0, .r (.v (.slice none 0 0)), I 0, I 0, .r (.v (.slice none 0 0)), I 0, I 0, I 0, .r (.v (.slice none 0 0)), .r (.v (.slice none 0 0))]), (6, .obj b10 [I n.id, I n.term_, I n.vote, I n.role, I n.lead, .al 34 none 1 (((lastC n i).2).length) (g12 0 0) 0, I ((logBehind n.log i (logTerm n.log i)).start), I ((logBehind n.log i (logTerm n.log i)).startTerm), .w (sl 3 Entry.c ((logBehind n.log i (logTerm n.log i)).entries)) (go11_7_1 0 2), I n.commit, I n.clock, I n.limit, .w (sl 1 cI n.votes) (g9 0 12), .w (sl 4 Peer.c n.peers) (g9 0 13)]), (34, .w (sl 1 cI ((lastC n i).2)) (g12 0 0))] rfl (Le.of rfl) ?_
    refine RW.pullT (k := 6) (l := 34) (j := 5) 6 34 5 rfl rfl rfl (by decide) rfl rfl rfl ?_
    refine RW.le [(4, .obj b2 [I 0, I 0, I 0, I 0, I 0, .r (.v (.slice none 0 0)), I 0, I 0, .r (.v (.slice none 0 0)), I 0, I 0, I 0, .r (.v (.slice none 0 0)), .r (.v (.slice none 0 0))]), (6, .obj b10 [I n.id, I n.term_, I n.vote, I n.role, I n.lead, .w (sl 1 cI ((lastC n i).2)) (g12 0 0), I ((logBehind n.log i (logTerm n.log i)).start), I ((logBehind n.log i (logTerm n.log i)).startTerm), .w (sl 3 Entry.c ((logBehind n.log i (logTerm n.log i)).entries)) (go11_7_1 0 2), I n.commit, I n.clock, I n.limit, .w (sl 1 cI n.votes) (g9 0 12), .w (sl 4 Peer.c n.peers) (g9 0 13)])] rfl (Le.of rfl) ?_
    refine RW.nil ?_
    refine CW.le [(4, .obj b2 [I 0, I 0, I 0, I 0, I 0, .r (.v (.slice none 0 0)), I 0, I 0, .r (.v (.slice none 0 0)), I 0, I 0, I 0, .r (.v (.slice none 0 0)), .r (.v (.slice none 0 0))]), (6, .obj b10 [I n.id, I n.term_, I n.vote, I n.role, I n.lead, .w (sl 1 cI ((lastC n i).2)) (g12 0 0), I ((logBehind n.log i (logTerm n.log i)).start), I ((logBehind n.log i (logTerm n.log i)).startTerm), .w (sl 3 Entry.c ((logBehind n.log i (logTerm n.log i)).entries)) (go11_7_1 0 2), I n.commit, I n.clock, I n.limit, .w (sl 1 cI n.votes) (g9 0 12), .w (sl 4 Peer.c n.peers) (g9 0 13)])] rfl (Le.of rfl) ?_
    refine CW.seq ?_
    refine CW.region ?_
    refine RW.v rfl (V.loadAgg rfl rfl rfl rfl rfl (Nat.le_of_ble_eq_true rfl)) ?_
    refine RW.storeAgg (es := [I n.id, I n.term_, I n.vote, I n.role, I n.lead, .al 6 (some 5) 1 (((lastC n i).2).length) (g12 0 0) 0, I ((logBehind n.log i (logTerm n.log i)).start), I ((logBehind n.log i (logTerm n.log i)).startTerm), .al 6 (some 8) 3 (((logBehind n.log i (logTerm n.log i)).entries).length) (go11_7_1 0 2) 0, I n.commit, I n.clock, I n.limit, .al 6 (some 12) 1 n.votes.length (g9 0 12) 0, .al 6 (some 13) 4 n.peers.length (g9 0 13) 0]) rfl rfl rfl rfl rfl rfl rfl rfl (Nat.le_of_ble_eq_true rfl) rfl ?_
    refine RW.le [(4, .obj b2 [I n.id, I n.term_, I n.vote, I n.role, I n.lead, .al 6 (some 5) 1 (((lastC n i).2).length) (g12 0 0) 0, I ((logBehind n.log i (logTerm n.log i)).start), I ((logBehind n.log i (logTerm n.log i)).startTerm), .al 6 (some 8) 3 (((logBehind n.log i (logTerm n.log i)).entries).length) (go11_7_1 0 2) 0, I n.commit, I n.clock, I n.limit, .al 6 (some 12) 1 n.votes.length (g9 0 12) 0, .al 6 (some 13) 4 n.peers.length (g9 0 13) 0]), (6, .obj b10 [I n.id, I n.term_, I n.vote, I n.role, I n.lead, .w (sl 1 cI ((lastC n i).2)) (g12 0 0), I ((logBehind n.log i (logTerm n.log i)).start), I ((logBehind n.log i (logTerm n.log i)).startTerm), .w (sl 3 Entry.c ((logBehind n.log i (logTerm n.log i)).entries)) (go11_7_1 0 2), I n.commit, I n.clock, I n.limit, .w (sl 1 cI n.votes) (g9 0 12), .w (sl 4 Peer.c n.peers) (g9 0 13)])] rfl (Le.of rfl) ?_
    refine RW.pullO (k := 4) (l := 6) (j := 5) 4 6 5 rfl rfl rfl (by decide) rfl rfl rfl rfl ?_
    refine RW.le [(4, .obj b2 [I n.id, I n.term_, I n.vote, I n.role, I n.lead, .w (sl 1 cI ((lastC n i).2)) (g12 0 0), I ((logBehind n.log i (logTerm n.log i)).start), I ((logBehind n.log i (logTerm n.log i)).startTerm), .al 6 (some 8) 3 (((logBehind n.log i (logTerm n.log i)).entries).length) (go11_7_1 0 2) 0, I n.commit, I n.clock, I n.limit, .al 6 (some 12) 1 n.votes.length (g9 0 12) 0, .al 6 (some 13) 4 n.peers.length (g9 0 13) 0]), (6, .obj b10 [I n.id, I n.term_, I n.vote, I n.role, I n.lead, .u, I ((logBehind n.log i (logTerm n.log i)).start), I ((logBehind n.log i (logTerm n.log i)).startTerm), .w (sl 3 Entry.c ((logBehind n.log i (logTerm n.log i)).entries)) (go11_7_1 0 2), I n.commit, I n.clock, I n.limit, .w (sl 1 cI n.votes) (g9 0 12), .w (sl 4 Peer.c n.peers) (g9 0 13)])] rfl (Le.of rfl) ?_
    refine RW.pullO (k := 4) (l := 6) (j := 8) 4 6 8 rfl rfl rfl (by decide) rfl rfl rfl rfl ?_
    refine RW.le [(4, .obj b2 [I n.id, I n.term_, I n.vote, I n.role, I n.lead, .w (sl 1 cI ((lastC n i).2)) (g12 0 0), I ((logBehind n.log i (logTerm n.log i)).start), I ((logBehind n.log i (logTerm n.log i)).startTerm), .w (sl 3 Entry.c ((logBehind n.log i (logTerm n.log i)).entries)) (go11_7_1 0 2), I n.commit, I n.clock, I n.limit, .al 6 (some 12) 1 n.votes.length (g9 0 12) 0, .al 6 (some 13) 4 n.peers.length (g9 0 13) 0]), (6, .obj b10 [I n.id, I n.term_, I n.vote, I n.role, I n.lead, .u, I ((logBehind n.log i (logTerm n.log i)).start), I ((logBehind n.log i (logTerm n.log i)).startTerm), .u, I n.commit, I n.clock, I n.limit, .w (sl 1 cI n.votes) (g9 0 12), .w (sl 4 Peer.c n.peers) (g9 0 13)])] rfl (Le.of rfl) ?_
    refine RW.pullO (k := 4) (l := 6) (j := 12) 4 6 12 rfl rfl rfl (by decide) rfl rfl rfl rfl ?_
    refine RW.le [(4, .obj b2 [I n.id, I n.term_, I n.vote, I n.role, I n.lead, .w (sl 1 cI ((lastC n i).2)) (g12 0 0), I ((logBehind n.log i (logTerm n.log i)).start), I ((logBehind n.log i (logTerm n.log i)).startTerm), .w (sl 3 Entry.c ((logBehind n.log i (logTerm n.log i)).entries)) (go11_7_1 0 2), I n.commit, I n.clock, I n.limit, .w (sl 1 cI n.votes) (g9 0 12), .al 6 (some 13) 4 n.peers.length (g9 0 13) 0]), (6, .obj b10 [I n.id, I n.term_, I n.vote, I n.role, I n.lead, .u, I ((logBehind n.log i (logTerm n.log i)).start), I ((logBehind n.log i (logTerm n.log i)).startTerm), .u, I n.commit, I n.clock, I n.limit, .u, .w (sl 4 Peer.c n.peers) (g9 0 13)])] rfl (Le.of rfl) ?_
    refine RW.pullO (k := 4) (l := 6) (j := 13) 4 6 13 rfl rfl rfl (by decide) rfl rfl rfl rfl ?_
    refine RW.le [(4, .obj b2 [I n.id, I n.term_, I n.vote, I n.role, I n.lead, .w (sl 1 cI ((lastC n i).2)) (g12 0 0), I ((logBehind n.log i (logTerm n.log i)).start), I ((logBehind n.log i (logTerm n.log i)).startTerm), .w (sl 3 Entry.c ((logBehind n.log i (logTerm n.log i)).entries)) (go11_7_1 0 2), I n.commit, I n.clock, I n.limit, .w (sl 1 cI n.votes) (g9 0 12), .w (sl 4 Peer.c n.peers) (g9 0 13)])] rfl (Le.of rfl) ?_
    refine RW.v rfl (V.as (d := Bo true) rfl rfl) ?_
    refine RW.nil ?_
    refine CW.le [(4, .obj b2 [I n.id, I n.term_, I n.vote, I n.role, I n.lead, .w (sl 1 cI ((lastC n i).2)) (g12 0 0), I ((logBehind n.log i (logTerm n.log i)).start), I ((logBehind n.log i (logTerm n.log i)).startTerm), .w (sl 3 Entry.c ((logBehind n.log i (logTerm n.log i)).entries)) (go11_7_1 0 2), I n.commit, I n.clock, I n.limit, .w (sl 1 cI n.votes) (g9 0 12), .w (sl 4 Peer.c n.peers) (g9 0 13)]), (5, Bo true)] rfl (Le.of rfl) ?_
    refine CW.ret ?_
    exact Post.tup (by decide) (RVs.c (RV.c (f := fun e => (Node.c e).map .w) (e' := (⟨n.id, n.term_, n.vote, n.role, n.lead, (lastC n i).2, (logBehind n.log i (logTerm n.log i)), n.commit, n.clock, n.limit, n.votes, n.peers⟩ : Node)) rfl rfl rfl rfl (DT.v (DT.v (DT.v (DT.v (DT.v (DT.w (DT.v (DT.v (DT.w (DT.v (DT.v (DT.v (DT.w (DT.w DT.e)))))))))))))) (by rw [settle_yes hn hin, conf_at_eq hl hi2])) (RVs.c (RV.b rfl (by rw [settle_yes hn hin])) RVs.e)) (AOs.a rfl (AOs.r AOs.e))
set_option maxHeartbeats 4000000 in
theorem laws_FnExactSettle_fn (n : Node) (i : Int) (hok : okNode n) : Eng.Fn E.P 6 [.agg ((Node.c n).map .r), .one (.r (.v (.int .i64 i)))] (.one (.one (.w (.v (.bool true))))) [.agg ((Node.c n).map .r), .one (.r (.v (.int .i64 i)))] := by
 refine Eng.Fn.intro (E := E) (rvs := [.tmp 4]) Try.func6 rfl rfl rfl (by simp [outSlots, moved, rvSlot, sl]) ?_
 intro B g bo
 refine CW.le [(0, .agg ((Node.c n).map .r)), (1, I i)] rfl (Le.of rfl) ?_
 refine CW.seq ?_
 refine CW.region ?_
 refine RW.box (ds := ((Node.c n).map .r)) rfl rfl rfl fun b1 => ?_
 refine RW.v rfl (V.as (d := Bo false) rfl rfl) ?_
 refine RW.nil ?_
 refine CW.le [(1, I i), (2, .obj b1 ((Node.c n).map .r))] rfl (Le.of rfl) ?_
 refine CW.seq ?_
 refine CW.region ?_
 refine RW.v rfl (V.as (d := I 1048576) rfl rfl) ?_
 refine RW.nil ?_
 refine CW.le [(1, I i), (2, .obj b1 ((Node.c n).map .r)), (5, I 1048576)] rfl (Le.of rfl) ?_
 refine CW.seq ?_
 refine CW.region ?_
 refine RW.v rfl (V.loadAgg rfl rfl rfl rfl rfl (Nat.le_of_ble_eq_true rfl)) ?_
 refine RW.v rfl (V.mv (d := I 1048576) rfl rfl) ?_
 refine RW.call rfl (laws_szNode_fn n 1048576) rfl (.cons (.agg (.cons (.r .r) (.cons (.r .r) (.cons (.r .r) (.cons (.r .r) (.cons (.r .r) (.cons (.r .r) (.cons (.r .r) (.cons (.r .r) (.cons (.r .r) (.cons (.r .r) (.cons (.r .r) (.cons (.r .r) (.cons (.r .r) (.cons (.r .r) (.nil)))))))))))))))) (.cons (.one (.r .r)) (.nil))) fun g2 => ?_
 refine RW.v rfl (V.as (d := I (szNode n 1048576)) rfl rfl) ?_
 refine RW.nil ?_
 refine CW.le [(1, I i), (2, .obj b1 ((Node.c n).map .r)), (5, I (szNode n 1048576))] rfl (Le.of rfl) ?_
 refine CW.seq ?_
 refine CW.seq ?_
 refine CW.region ?_
 refine RW.v rfl (V.mv (d := I (szNode n 1048576)) rfl rfl) ?_
 refine RW.v rfl (V.cmpInt rfl rfl rfl rfl) ?_
 refine RW.nil ?_
 refine CW.le [(1, I i), (2, .obj b1 ((Node.c n).map .r)), (20, Bo (decide ((szNode n 1048576) < 0)))] rfl (Le.of rfl) ?_
 refine CW.cond rfl (fun h3 => ?_) (fun h3 => ?_)
 ·skip
  refine CW.seq ?_
  refine CW.region ?_
  refine RW.v rfl (V.as (d := Bo true) rfl rfl) ?_
  refine RW.nil ?_
  refine CW.le [(4, Bo true)] rfl (Le.of rfl) ?_
  refine CW.ret ?_
  exact Post.one (RV.b rfl (by first | rfl | (exfalso; have p0 := mkVNode_facts (hP); have p1 := mkVNode_facts (okSettle hP i); simp_all [eqNode_refl]; done) | (exfalso; have p0 := mkVNode_facts (hP); have p1 := mkVNode_facts (okSettle hP i); simp_all [eqNode_refl]; omega))) (AOs.a rfl (AOs.r AOs.e))
 ·skip
  have hP : okToNode n := (szNode_ok n 1048576 hok (by omega) (by omega) (by simpa using h3)).1
  refine CW.skip ?_
  refine CW.le [(1, I i), (2, .obj b1 ((Node.c n).map .r))] rfl (Le.of rfl) ?_
  refine CW.seq ?_
  refine CW.region ?_
  refine RW.v rfl (V.loadAgg rfl rfl rfl rfl rfl (Nat.le_of_ble_eq_true rfl)) ?_
  refine RW.call rfl (laws_toNode_fn n hP) rfl (.cons (.agg (.cons (.r .r) (.cons (.r .r) (.cons (.r .r) (.cons (.r .r) (.cons (.r .r) (.cons (.r .r) (.cons (.r .r) (.cons (.r .r) (.cons (.r .r) (.cons (.r .r) (.cons (.r .r) (.cons (.r .r) (.cons (.r .r) (.cons (.r .r) (.nil)))))))))))))))) (.nil)) fun g4 => ?_
  refine RW.v rfl (V.mv (d := I i) rfl rfl) ?_
  refine RW.callOwn rfl (spec_Settle_fn n i hP) rfl (.cons (.agg (.cons (.r .r) (.cons (.r .r) (.cons (.r .r) (.cons (.r .r) (.cons (.r .r) (.cons (.r (.ala (k := none) (i := 23) (j := 5) (sz := 1) (V := (g4 0 5)) rfl rfl rfl nofun)) (.cons (.r .r) (.cons (.r .r) (.cons (.r (.ala (k := none) (i := 23) (j := 8) (sz := 3) (V := (g4 0 8)) rfl rfl rfl nofun)) (.cons (.r .r) (.cons (.r .r) (.cons (.r .r) (.cons (.r (.ala (k := none) (i := 23) (j := 12) (sz := 1) (V := (g4 0 12)) rfl rfl rfl nofun)) (.cons (.r (.ala (k := none) (i := 23) (j := 13) (sz := 4) (V := (g4 0 13)) rfl rfl rfl nofun)) (.nil)))))))))))))))) (.cons (.one (.r .r)) (.nil))) rfl fun g5 => ?_
  refine RW.moveMove rfl rfl rfl (by decide) (Nat.le_of_ble_eq_true rfl) (Nat.le_of_ble_eq_true rfl) ?_
  refine RW.extract (d := .agg [I (((settle n i).1).id), I (((settle n i).1).term_), I (((settle n i).1).vote), I (((settle n i).1).role), I (((settle n i).1).lead), .w (sl 1 cI (((settle n i).1).conf)) (g5 0 5), I ((((settle n i).1).log).start), I ((((settle n i).1).log).startTerm), .w (sl 3 Entry.c ((((settle n i).1).log).entries)) (g5 0 8), I (((settle n i).1).commit), I (((settle n i).1).clock), I (((settle n i).1).limit), .w (sl 1 cI (((settle n i).1).votes)) (g5 0 12), .w (sl 4 Peer.c (((settle n i).1).peers)) (g5 0 13)]) rfl rfl rfl (by decide) (Nat.le_of_ble_eq_true rfl) rfl rfl ?_
  refine RW.extract (d := Bo ((settle n i).2)) rfl rfl rfl (by decide) (Nat.le_of_ble_eq_true rfl) rfl rfl ?_
  refine RW.alloc (ds := [I 0, I 0, I 0, I 0, I 0, .r (.v (.slice none 0 0)), I 0, I 0, .r (.v (.slice none 0 0)), I 0, I 0, I 0, .r (.v (.slice none 0 0)), .r (.v (.slice none 0 0))]) rfl rfl rfl rfl fun b6 => ?_
  refine RW.storeAgg (es := [I (((settle n i).1).id), I (((settle n i).1).term_), I (((settle n i).1).vote), I (((settle n i).1).role), I (((settle n i).1).lead), .al 26 (some 5) 1 ((((settle n i).1).conf).length) (g5 0 5) 0, I ((((settle n i).1).log).start), I ((((settle n i).1).log).startTerm), .al 26 (some 8) 3 (((((settle n i).1).log).entries).length) (g5 0 8) 0, I (((settle n i).1).commit), I (((settle n i).1).clock), I (((settle n i).1).limit), .al 26 (some 12) 1 ((((settle n i).1).votes).length) (g5 0 12) 0, .al 26 (some 13) 4 ((((settle n i).1).peers).length) (g5 0 13) 0]) rfl rfl rfl rfl rfl rfl rfl rfl (Nat.le_of_ble_eq_true rfl) rfl ?_
  refine RW.le [(1, I i), (2, .obj b1 ((Node.c n).map .r)), (6, .obj b6 [I (((settle n i).1).id), I (((settle n i).1).term_), I (((settle n i).1).vote), I (((settle n i).1).role), I (((settle n i).1).lead), .al 26 (some 5) 1 ((((settle n i).1).conf).length) (g5 0 5) 0, I ((((settle n i).1).log).start), I ((((settle n i).1).log).startTerm), .al 26 (some 8) 3 (((((settle n i).1).log).entries).length) (g5 0 8) 0, I (((settle n i).1).commit), I (((settle n i).1).clock), I (((settle n i).1).limit), .al 26 (some 12) 1 ((((settle n i).1).votes).length) (g5 0 12) 0, .al 26 (some 13) 4 ((((settle n i).1).peers).length) (g5 0 13) 0]), (26, .agg [I (((settle n i).1).id), I (((settle n i).1).term_), I (((settle n i).1).vote), I (((settle n i).1).role), I (((settle n i).1).lead), .w (sl 1 cI (((settle n i).1).conf)) (g5 0 5), I ((((settle n i).1).log).start), I ((((settle n i).1).log).startTerm), .w (sl 3 Entry.c ((((settle n i).1).log).entries)) (g5 0 8), I (((settle n i).1).commit), I (((settle n i).1).clock), I (((settle n i).1).limit), .w (sl 1 cI (((settle n i).1).votes)) (g5 0 12), .w (sl 4 Peer.c (((settle n i).1).peers)) (g5 0 13)]), (27, Bo ((settle n i).2))] rfl (Le.of rfl) ?_
  refine RW.pullA (k := 6) (l := 26) (j := 5) 6 26 5 rfl rfl rfl (by decide) rfl rfl rfl rfl ?_
  refine RW.le [(1, I i), (2, .obj b1 ((Node.c n).map .r)), (6, .obj b6 [I (((settle n i).1).id), I (((settle n i).1).term_), I (((settle n i).1).vote), I (((settle n i).1).role), I (((settle n i).1).lead), .w (sl 1 cI (((settle n i).1).conf)) (g5 0 5), I ((((settle n i).1).log).start), I ((((settle n i).1).log).startTerm), .al 26 (some 8) 3 (((((settle n i).1).log).entries).length) (g5 0 8) 0, I (((settle n i).1).commit), I (((settle n i).1).clock), I (((settle n i).1).limit), .al 26 (some 12) 1 ((((settle n i).1).votes).length) (g5 0 12) 0, .al 26 (some 13) 4 ((((settle n i).1).peers).length) (g5 0 13) 0]), (26, .agg [I (((settle n i).1).id), I (((settle n i).1).term_), I (((settle n i).1).vote), I (((settle n i).1).role), I (((settle n i).1).lead), .u, I ((((settle n i).1).log).start), I ((((settle n i).1).log).startTerm), .w (sl 3 Entry.c ((((settle n i).1).log).entries)) (g5 0 8), I (((settle n i).1).commit), I (((settle n i).1).clock), I (((settle n i).1).limit), .w (sl 1 cI (((settle n i).1).votes)) (g5 0 12), .w (sl 4 Peer.c (((settle n i).1).peers)) (g5 0 13)]), (27, Bo ((settle n i).2))] rfl (Le.of rfl) ?_
  refine RW.pullA (k := 6) (l := 26) (j := 8) 6 26 8 rfl rfl rfl (by decide) rfl rfl rfl rfl ?_
  refine RW.le [(1, I i), (2, .obj b1 ((Node.c n).map .r)), (6, .obj b6 [I (((settle n i).1).id), I (((settle n i).1).term_), I (((settle n i).1).vote), I (((settle n i).1).role), I (((settle n i).1).lead), .w (sl 1 cI (((settle n i).1).conf)) (g5 0 5), I ((((settle n i).1).log).start), I ((((settle n i).1).log).startTerm), .w (sl 3 Entry.c ((((settle n i).1).log).entries)) (g5 0 8), I (((settle n i).1).commit), I (((settle n i).1).clock), I (((settle n i).1).limit), .al 26 (some 12) 1 ((((settle n i).1).votes).length) (g5 0 12) 0, .al 26 (some 13) 4 ((((settle n i).1).peers).length) (g5 0 13) 0]), (26, .agg [I (((settle n i).1).id), I (((settle n i).1).term_), I (((settle n i).1).vote), I (((settle n i).1).role), I (((settle n i).1).lead), .u, I ((((settle n i).1).log).start), I ((((settle n i).1).log).startTerm), .u, I (((settle n i).1).commit), I (((settle n i).1).clock), I (((settle n i).1).limit), .w (sl 1 cI (((settle n i).1).votes)) (g5 0 12), .w (sl 4 Peer.c (((settle n i).1).peers)) (g5 0 13)]), (27, Bo ((settle n i).2))] rfl (Le.of rfl) ?_
  refine RW.pullA (k := 6) (l := 26) (j := 12) 6 26 12 rfl rfl rfl (by decide) rfl rfl rfl rfl ?_
  refine RW.le [(1, I i), (2, .obj b1 ((Node.c n).map .r)), (6, .obj b6 [I (((settle n i).1).id), I (((settle n i).1).term_), I (((settle n i).1).vote), I (((settle n i).1).role), I (((settle n i).1).lead), .w (sl 1 cI (((settle n i).1).conf)) (g5 0 5), I ((((settle n i).1).log).start), I ((((settle n i).1).log).startTerm), .w (sl 3 Entry.c ((((settle n i).1).log).entries)) (g5 0 8), I (((settle n i).1).commit), I (((settle n i).1).clock), I (((settle n i).1).limit), .w (sl 1 cI (((settle n i).1).votes)) (g5 0 12), .al 26 (some 13) 4 ((((settle n i).1).peers).length) (g5 0 13) 0]), (26, .agg [I (((settle n i).1).id), I (((settle n i).1).term_), I (((settle n i).1).vote), I (((settle n i).1).role), I (((settle n i).1).lead), .u, I ((((settle n i).1).log).start), I ((((settle n i).1).log).startTerm), .u, I (((settle n i).1).commit), I (((settle n i).1).clock), I (((settle n i).1).limit), .u, .w (sl 4 Peer.c (((settle n i).1).peers)) (g5 0 13)]), (27, Bo ((settle n i).2))] rfl (Le.of rfl) ?_
  refine RW.pullA (k := 6) (l := 26) (j := 13) 6 26 13 rfl rfl rfl (by decide) rfl rfl rfl rfl ?_
  refine RW.le [(1, I i), (2, .obj b1 ((Node.c n).map .r)), (6, .obj b6 [I (((settle n i).1).id), I (((settle n i).1).term_), I (((settle n i).1).vote), I (((settle n i).1).role), I (((settle n i).1).lead), .w (sl 1 cI (((settle n i).1).conf)) (g5 0 5), I ((((settle n i).1).log).start), I ((((settle n i).1).log).startTerm), .w (sl 3 Entry.c ((((settle n i).1).log).entries)) (g5 0 8), I (((settle n i).1).commit), I (((settle n i).1).clock), I (((settle n i).1).limit), .w (sl 1 cI (((settle n i).1).votes)) (g5 0 12), .w (sl 4 Peer.c (((settle n i).1).peers)) (g5 0 13)]), (27, Bo ((settle n i).2))] rfl (Le.of rfl) ?_
  refine RW.v rfl (V.as (d := Bo ((settle n i).2)) rfl rfl) ?_
  refine RW.nil ?_
  refine CW.le [(1, I i), (2, .obj b1 ((Node.c n).map .r)), (6, .obj b6 [I (((settle n i).1).id), I (((settle n i).1).term_), I (((settle n i).1).vote), I (((settle n i).1).role), I (((settle n i).1).lead), .w (sl 1 cI (((settle n i).1).conf)) (g5 0 5), I ((((settle n i).1).log).start), I ((((settle n i).1).log).startTerm), .w (sl 3 Entry.c ((((settle n i).1).log).entries)) (g5 0 8), I (((settle n i).1).commit), I (((settle n i).1).clock), I (((settle n i).1).limit), .w (sl 1 cI (((settle n i).1).votes)) (g5 0 12), .w (sl 4 Peer.c (((settle n i).1).peers)) (g5 0 13)]), (7, Bo ((settle n i).2))] rfl (Le.of rfl) ?_
  refine CW.seq ?_
  refine CW.region ?_
  refine RW.v rfl (V.loadAgg rfl rfl rfl rfl rfl (Nat.le_of_ble_eq_true rfl)) ?_
  refine RW.call rfl (laws_toNode_fn n hP) rfl (.cons (.agg (.cons (.r .r) (.cons (.r .r) (.cons (.r .r) (.cons (.r .r) (.cons (.r .r) (.cons (.r .r) (.cons (.r .r) (.cons (.r .r) (.cons (.r .r) (.cons (.r .r) (.cons (.r .r) (.cons (.r .r) (.cons (.r .r) (.cons (.r .r) (.nil)))))))))))))))) (.nil)) fun g7 => ?_
  refine RW.alloc (ds := [I 0, I 0, I 0, I 0, I 0, .r (.v (.slice none 0 0)), I 0, I 0, .r (.v (.slice none 0 0)), I 0, I 0, I 0, .r (.v (.slice none 0 0)), .r (.v (.slice none 0 0))]) rfl rfl rfl rfl fun b8 => ?_
  refine RW.storeAgg (es := [I n.id, I n.term_, I n.vote, I n.role, I n.lead, .al 29 (some 5) 1 n.conf.length (g7 0 5) 0, I n.log.start, I n.log.startTerm, .al 29 (some 8) 3 n.log.entries.length (g7 0 8) 0, I n.commit, I n.clock, I n.limit, .al 29 (some 12) 1 n.votes.length (g7 0 12) 0, .al 29 (some 13) 4 n.peers.length (g7 0 13) 0]) rfl rfl rfl rfl rfl rfl rfl rfl (Nat.le_of_ble_eq_true rfl) rfl ?_
  refine RW.le [(1, I i), (2, .obj b1 ((Node.c n).map .r)), (6, .obj b6 [I (((settle n i).1).id), I (((settle n i).1).term_), I (((settle n i).1).vote), I (((settle n i).1).role), I (((settle n i).1).lead), .w (sl 1 cI (((settle n i).1).conf)) (g5 0 5), I ((((settle n i).1).log).start), I ((((settle n i).1).log).startTerm), .w (sl 3 Entry.c ((((settle n i).1).log).entries)) (g5 0 8), I (((settle n i).1).commit), I (((settle n i).1).clock), I (((settle n i).1).limit), .w (sl 1 cI (((settle n i).1).votes)) (g5 0 12), .w (sl 4 Peer.c (((settle n i).1).peers)) (g5 0 13)]), (7, Bo ((settle n i).2)), (8, .obj b8 [I n.id, I n.term_, I n.vote, I n.role, I n.lead, .al 29 (some 5) 1 n.conf.length (g7 0 5) 0, I n.log.start, I n.log.startTerm, .al 29 (some 8) 3 n.log.entries.length (g7 0 8) 0, I n.commit, I n.clock, I n.limit, .al 29 (some 12) 1 n.votes.length (g7 0 12) 0, .al 29 (some 13) 4 n.peers.length (g7 0 13) 0]), (29, .agg [I n.id, I n.term_, I n.vote, I n.role, I n.lead, .w (sl 1 cI n.conf) (g7 0 5), I n.log.start, I n.log.startTerm, .w (sl 3 Entry.c n.log.entries) (g7 0 8), I n.commit, I n.clock, I n.limit, .w (sl 1 cI n.votes) (g7 0 12), .w (sl 4 Peer.c n.peers) (g7 0 13)])] rfl (Le.of rfl) ?_
  refine RW.pullA (k := 8) (l := 29) (j := 5) 8 29 5 rfl rfl rfl (by decide) rfl rfl rfl rfl ?_
  refine RW.le [(1, I i), (2, .obj b1 ((Node.c n).map .r)), (6, .obj b6 [I (((settle n i).1).id), I (((settle n i).1).term_), I (((settle n i).1).vote), I (((settle n i).1).role), I (((settle n i).1).lead), .w (sl 1 cI (((settle n i).1).conf)) (g5 0 5), I ((((settle n i).1).log).start), I ((((settle n i).1).log).startTerm), .w (sl 3 Entry.c ((((settle n i).1).log).entries)) (g5 0 8), I (((settle n i).1).commit), I (((settle n i).1).clock), I (((settle n i).1).limit), .w (sl 1 cI (((settle n i).1).votes)) (g5 0 12), .w (sl 4 Peer.c (((settle n i).1).peers)) (g5 0 13)]), (7, Bo ((settle n i).2)), (8, .obj b8 [I n.id, I n.term_, I n.vote, I n.role, I n.lead, .w (sl 1 cI n.conf) (g7 0 5), I n.log.start, I n.log.startTerm, .al 29 (some 8) 3 n.log.entries.length (g7 0 8) 0, I n.commit, I n.clock, I n.limit, .al 29 (some 12) 1 n.votes.length (g7 0 12) 0, .al 29 (some 13) 4 n.peers.length (g7 0 13) 0]), (29, .agg [I n.id, I n.term_, I n.vote, I n.role, I n.lead, .u, I n.log.start, I n.log.startTerm, .w (sl 3 Entry.c n.log.entries) (g7 0 8), I n.commit, I n.clock, I n.limit, .w (sl 1 cI n.votes) (g7 0 12), .w (sl 4 Peer.c n.peers) (g7 0 13)])] rfl (Le.of rfl) ?_
  refine RW.pullA (k := 8) (l := 29) (j := 8) 8 29 8 rfl rfl rfl (by decide) rfl rfl rfl rfl ?_
  refine RW.le [(1, I i), (2, .obj b1 ((Node.c n).map .r)), (6, .obj b6 [I (((settle n i).1).id), I (((settle n i).1).term_), I (((settle n i).1).vote), I (((settle n i).1).role), I (((settle n i).1).lead), .w (sl 1 cI (((settle n i).1).conf)) (g5 0 5), I ((((settle n i).1).log).start), I ((((settle n i).1).log).startTerm), .w (sl 3 Entry.c ((((settle n i).1).log).entries)) (g5 0 8), I (((settle n i).1).commit), I (((settle n i).1).clock), I (((settle n i).1).limit), .w (sl 1 cI (((settle n i).1).votes)) (g5 0 12), .w (sl 4 Peer.c (((settle n i).1).peers)) (g5 0 13)]), (7, Bo ((settle n i).2)), (8, .obj b8 [I n.id, I n.term_, I n.vote, I n.role, I n.lead, .w (sl 1 cI n.conf) (g7 0 5), I n.log.start, I n.log.startTerm, .w (sl 3 Entry.c n.log.entries) (g7 0 8), I n.commit, I n.clock, I n.limit, .al 29 (some 12) 1 n.votes.length (g7 0 12) 0, .al 29 (some 13) 4 n.peers.length (g7 0 13) 0]), (29, .agg [I n.id, I n.term_, I n.vote, I n.role, I n.lead, .u, I n.log.start, I n.log.startTerm, .u, I n.commit, I n.clock, I n.limit, .w (sl 1 cI n.votes) (g7 0 12), .w (sl 4 Peer.c n.peers) (g7 0 13)])] rfl (Le.of rfl) ?_
  refine RW.pullA (k := 8) (l := 29) (j := 12) 8 29 12 rfl rfl rfl (by decide) rfl rfl rfl rfl ?_
  refine RW.le [(1, I i), (2, .obj b1 ((Node.c n).map .r)), (6, .obj b6 [I (((settle n i).1).id), I (((settle n i).1).term_), I (((settle n i).1).vote), I (((settle n i).1).role), I (((settle n i).1).lead), .w (sl 1 cI (((settle n i).1).conf)) (g5 0 5), I ((((settle n i).1).log).start), I ((((settle n i).1).log).startTerm), .w (sl 3 Entry.c ((((settle n i).1).log).entries)) (g5 0 8), I (((settle n i).1).commit), I (((settle n i).1).clock), I (((settle n i).1).limit), .w (sl 1 cI (((settle n i).1).votes)) (g5 0 12), .w (sl 4 Peer.c (((settle n i).1).peers)) (g5 0 13)]), (7, Bo ((settle n i).2)), (8, .obj b8 [I n.id, I n.term_, I n.vote, I n.role, I n.lead, .w (sl 1 cI n.conf) (g7 0 5), I n.log.start, I n.log.startTerm, .w (sl 3 Entry.c n.log.entries) (g7 0 8), I n.commit, I n.clock, I n.limit, .w (sl 1 cI n.votes) (g7 0 12), .al 29 (some 13) 4 n.peers.length (g7 0 13) 0]), (29, .agg [I n.id, I n.term_, I n.vote, I n.role, I n.lead, .u, I n.log.start, I n.log.startTerm, .u, I n.commit, I n.clock, I n.limit, .u, .w (sl 4 Peer.c n.peers) (g7 0 13)])] rfl (Le.of rfl) ?_
  refine RW.pullA (k := 8) (l := 29) (j := 13) 8 29 13 rfl rfl rfl (by decide) rfl rfl rfl rfl ?_
  refine RW.le [(1, I i), (2, .obj b1 ((Node.c n).map .r)), (6, .obj b6 [I (((settle n i).1).id), I (((settle n i).1).term_), I (((settle n i).1).vote), I (((settle n i).1).role), I (((settle n i).1).lead), .w (sl 1 cI (((settle n i).1).conf)) (g5 0 5), I ((((settle n i).1).log).start), I ((((settle n i).1).log).startTerm), .w (sl 3 Entry.c ((((settle n i).1).log).entries)) (g5 0 8), I (((settle n i).1).commit), I (((settle n i).1).clock), I (((settle n i).1).limit), .w (sl 1 cI (((settle n i).1).votes)) (g5 0 12), .w (sl 4 Peer.c (((settle n i).1).peers)) (g5 0 13)]), (7, Bo ((settle n i).2)), (8, .obj b8 [I n.id, I n.term_, I n.vote, I n.role, I n.lead, .w (sl 1 cI n.conf) (g7 0 5), I n.log.start, I n.log.startTerm, .w (sl 3 Entry.c n.log.entries) (g7 0 8), I n.commit, I n.clock, I n.limit, .w (sl 1 cI n.votes) (g7 0 12), .w (sl 4 Peer.c n.peers) (g7 0 13)])] rfl (Le.of rfl) ?_
  refine RW.nil ?_
  refine CW.le [(1, I i), (2, .obj b1 ((Node.c n).map .r)), (6, .obj b6 [I (((settle n i).1).id), I (((settle n i).1).term_), I (((settle n i).1).vote), I (((settle n i).1).role), I (((settle n i).1).lead), .w (sl 1 cI (((settle n i).1).conf)) (g5 0 5), I ((((settle n i).1).log).start), I ((((settle n i).1).log).startTerm), .w (sl 3 Entry.c ((((settle n i).1).log).entries)) (g5 0 8), I (((settle n i).1).commit), I (((settle n i).1).clock), I (((settle n i).1).limit), .w (sl 1 cI (((settle n i).1).votes)) (g5 0 12), .w (sl 4 Peer.c (((settle n i).1).peers)) (g5 0 13)]), (7, Bo ((settle n i).2)), (8, .obj b8 [I n.id, I n.term_, I n.vote, I n.role, I n.lead, .w (sl 1 cI n.conf) (g7 0 5), I n.log.start, I n.log.startTerm, .w (sl 3 Entry.c n.log.entries) (g7 0 8), I n.commit, I n.clock, I n.limit, .w (sl 1 cI n.votes) (g7 0 12), .w (sl 4 Peer.c n.peers) (g7 0 13)])] rfl (Le.of rfl) ?_
  refine CW.seq ?_
  refine CW.region ?_
  refine RW.v rfl (V.loadAgg rfl rfl rfl rfl rfl (Nat.le_of_ble_eq_true rfl)) ?_
  refine RW.v rfl (V.mv (d := I i) rfl rfl) ?_
  refine RW.callOwn rfl (impl_Settle_fn n i hP) rfl (.cons (.agg (.cons (.r .r) (.cons (.r .r) (.cons (.r .r) (.cons (.r .r) (.cons (.r .r) (.cons (.r (.alo (k := none) (i := 8) (j := 5) (sz := 1) (V := (g7 0 5)) rfl rfl rfl nofun)) (.cons (.r .r) (.cons (.r .r) (.cons (.r (.alo (k := none) (i := 8) (j := 8) (sz := 3) (V := (g7 0 8)) rfl rfl rfl nofun)) (.cons (.r .r) (.cons (.r .r) (.cons (.r .r) (.cons (.r (.alo (k := none) (i := 8) (j := 12) (sz := 1) (V := (g7 0 12)) rfl rfl rfl nofun)) (.cons (.r (.alo (k := none) (i := 8) (j := 13) (sz := 4) (V := (g7 0 13)) rfl rfl rfl nofun)) (.nil)))))))))))))))) (.cons (.one (.r .r)) (.nil))) rfl fun g9 => ?_
  refine RW.moveMove rfl rfl rfl (by decide) (Nat.le_of_ble_eq_true rfl) (Nat.le_of_ble_eq_true rfl) ?_
  refine RW.extract (d := .agg [I (((settle n i).1).id), I (((settle n i).1).term_), I (((settle n i).1).vote), I (((settle n i).1).role), I (((settle n i).1).lead), .w (sl 1 cI (((settle n i).1).conf)) (g9 0 5), I ((((settle n i).1).log).start), I ((((settle n i).1).log).startTerm), .w (sl 3 Entry.c ((((settle n i).1).log).entries)) (g9 0 8), I (((settle n i).1).commit), I (((settle n i).1).clock), I (((settle n i).1).limit), .w (sl 1 cI (((settle n i).1).votes)) (g9 0 12), .w (sl 4 Peer.c (((settle n i).1).peers)) (g9 0 13)]) rfl rfl rfl (by decide) (Nat.le_of_ble_eq_true rfl) rfl rfl ?_
  refine RW.extract (d := Bo ((settle n i).2)) rfl rfl rfl (by decide) (Nat.le_of_ble_eq_true rfl) rfl rfl ?_
  refine RW.alloc (ds := [I 0, I 0, I 0, I 0, I 0, .r (.v (.slice none 0 0)), I 0, I 0, .r (.v (.slice none 0 0)), I 0, I 0, I 0, .r (.v (.slice none 0 0)), .r (.v (.slice none 0 0))]) rfl rfl rfl rfl fun b10 => ?_
  refine RW.storeAgg (es := [I (((settle n i).1).id), I (((settle n i).1).term_), I (((settle n i).1).vote), I (((settle n i).1).role), I (((settle n i).1).lead), .al 34 (some 5) 1 ((((settle n i).1).conf).length) (g9 0 5) 0, I ((((settle n i).1).log).start), I ((((settle n i).1).log).startTerm), .al 34 (some 8) 3 (((((settle n i).1).log).entries).length) (g9 0 8) 0, I (((settle n i).1).commit), I (((settle n i).1).clock), I (((settle n i).1).limit), .al 34 (some 12) 1 ((((settle n i).1).votes).length) (g9 0 12) 0, .al 34 (some 13) 4 ((((settle n i).1).peers).length) (g9 0 13) 0]) rfl rfl rfl rfl rfl rfl rfl rfl (Nat.le_of_ble_eq_true rfl) rfl ?_
  refine RW.le [(1, I i), (2, .obj b1 ((Node.c n).map .r)), (6, .obj b6 [I (((settle n i).1).id), I (((settle n i).1).term_), I (((settle n i).1).vote), I (((settle n i).1).role), I (((settle n i).1).lead), .w (sl 1 cI (((settle n i).1).conf)) (g5 0 5), I ((((settle n i).1).log).start), I ((((settle n i).1).log).startTerm), .w (sl 3 Entry.c ((((settle n i).1).log).entries)) (g5 0 8), I (((settle n i).1).commit), I (((settle n i).1).clock), I (((settle n i).1).limit), .w (sl 1 cI (((settle n i).1).votes)) (g5 0 12), .w (sl 4 Peer.c (((settle n i).1).peers)) (g5 0 13)]), (7, Bo ((settle n i).2)), (8, .obj b8 [I n.id, I n.term_, I n.vote, I n.role, I n.lead, .w (sl 1 cI n.conf) (g7 0 5), I n.log.start, I n.log.startTerm, .w (sl 3 Entry.c n.log.entries) (g7 0 8), I n.commit, I n.clock, I n.limit, .w (sl 1 cI n.votes) (g7 0 12), .w (sl 4 Peer.c n.peers) (g7 0 13)]), (9, .obj b10 [I (((settle n i).1).id), I (((settle n i).1).term_), I (((settle n i).1).vote), I (((settle n i).1).role), I (((settle n i).1).lead), .al 34 (some 5) 1 ((((settle n i).1).conf).length) (g9 0 5) 0, I ((((settle n i).1).log).start), I ((((settle n i).1).log).startTerm), .al 34 (some 8) 3 (((((settle n i).1).log).entries).length) (g9 0 8) 0, I (((settle n i).1).commit), I (((settle n i).1).clock), I (((settle n i).1).limit), .al 34 (some 12) 1 ((((settle n i).1).votes).length) (g9 0 12) 0, .al 34 (some 13) 4 ((((settle n i).1).peers).length) (g9 0 13) 0]), (34, .agg [I (((settle n i).1).id), I (((settle n i).1).term_), I (((settle n i).1).vote), I (((settle n i).1).role), I (((settle n i).1).lead), .w (sl 1 cI (((settle n i).1).conf)) (g9 0 5), I ((((settle n i).1).log).start), I ((((settle n i).1).log).startTerm), .w (sl 3 Entry.c ((((settle n i).1).log).entries)) (g9 0 8), I (((settle n i).1).commit), I (((settle n i).1).clock), I (((settle n i).1).limit), .w (sl 1 cI (((settle n i).1).votes)) (g9 0 12), .w (sl 4 Peer.c (((settle n i).1).peers)) (g9 0 13)]), (35, Bo ((settle n i).2))] rfl (Le.of rfl) ?_
  refine RW.pullA (k := 9) (l := 34) (j := 5) 9 34 5 rfl rfl rfl (by decide) rfl rfl rfl rfl ?_
  refine RW.le [(1, I i), (2, .obj b1 ((Node.c n).map .r)), (6, .obj b6 [I (((settle n i).1).id), I (((settle n i).1).term_), I (((settle n i).1).vote), I (((settle n i).1).role), I (((settle n i).1).lead), .w (sl 1 cI (((settle n i).1).conf)) (g5 0 5), I ((((settle n i).1).log).start), I ((((settle n i).1).log).startTerm), .w (sl 3 Entry.c ((((settle n i).1).log).entries)) (g5 0 8), I (((settle n i).1).commit), I (((settle n i).1).clock), I (((settle n i).1).limit), .w (sl 1 cI (((settle n i).1).votes)) (g5 0 12), .w (sl 4 Peer.c (((settle n i).1).peers)) (g5 0 13)]), (7, Bo ((settle n i).2)), (8, .obj b8 [I n.id, I n.term_, I n.vote, I n.role, I n.lead, .w (sl 1 cI n.conf) (g7 0 5), I n.log.start, I n.log.startTerm, .w (sl 3 Entry.c n.log.entries) (g7 0 8), I n.commit, I n.clock, I n.limit, .w (sl 1 cI n.votes) (g7 0 12), .w (sl 4 Peer.c n.peers) (g7 0 13)]), (9, .obj b10 [I (((settle n i).1).id), I (((settle n i).1).term_), I (((settle n i).1).vote), I (((settle n i).1).role), I (((settle n i).1).lead), .w (sl 1 cI (((settle n i).1).conf)) (g9 0 5), I ((((settle n i).1).log).start), I ((((settle n i).1).log).startTerm), .al 34 (some 8) 3 (((((settle n i).1).log).entries).length) (g9 0 8) 0, I (((settle n i).1).commit), I (((settle n i).1).clock), I (((settle n i).1).limit), .al 34 (some 12) 1 ((((settle n i).1).votes).length) (g9 0 12) 0, .al 34 (some 13) 4 ((((settle n i).1).peers).length) (g9 0 13) 0]), (34, .agg [I (((settle n i).1).id), I (((settle n i).1).term_), I (((settle n i).1).vote), I (((settle n i).1).role), I (((settle n i).1).lead), .u, I ((((settle n i).1).log).start), I ((((settle n i).1).log).startTerm), .w (sl 3 Entry.c ((((settle n i).1).log).entries)) (g9 0 8), I (((settle n i).1).commit), I (((settle n i).1).clock), I (((settle n i).1).limit), .w (sl 1 cI (((settle n i).1).votes)) (g9 0 12), .w (sl 4 Peer.c (((settle n i).1).peers)) (g9 0 13)]), (35, Bo ((settle n i).2))] rfl (Le.of rfl) ?_
  refine RW.pullA (k := 9) (l := 34) (j := 8) 9 34 8 rfl rfl rfl (by decide) rfl rfl rfl rfl ?_
  refine RW.le [(1, I i), (2, .obj b1 ((Node.c n).map .r)), (6, .obj b6 [I (((settle n i).1).id), I (((settle n i).1).term_), I (((settle n i).1).vote), I (((settle n i).1).role), I (((settle n i).1).lead), .w (sl 1 cI (((settle n i).1).conf)) (g5 0 5), I ((((settle n i).1).log).start), I ((((settle n i).1).log).startTerm), .w (sl 3 Entry.c ((((settle n i).1).log).entries)) (g5 0 8), I (((settle n i).1).commit), I (((settle n i).1).clock), I (((settle n i).1).limit), .w (sl 1 cI (((settle n i).1).votes)) (g5 0 12), .w (sl 4 Peer.c (((settle n i).1).peers)) (g5 0 13)]), (7, Bo ((settle n i).2)), (8, .obj b8 [I n.id, I n.term_, I n.vote, I n.role, I n.lead, .w (sl 1 cI n.conf) (g7 0 5), I n.log.start, I n.log.startTerm, .w (sl 3 Entry.c n.log.entries) (g7 0 8), I n.commit, I n.clock, I n.limit, .w (sl 1 cI n.votes) (g7 0 12), .w (sl 4 Peer.c n.peers) (g7 0 13)]), (9, .obj b10 [I (((settle n i).1).id), I (((settle n i).1).term_), I (((settle n i).1).vote), I (((settle n i).1).role), I (((settle n i).1).lead), .w (sl 1 cI (((settle n i).1).conf)) (g9 0 5), I ((((settle n i).1).log).start), I ((((settle n i).1).log).startTerm), .w (sl 3 Entry.c ((((settle n i).1).log).entries)) (g9 0 8), I (((settle n i).1).commit), I (((settle n i).1).clock), I (((settle n i).1).limit), .al 34 (some 12) 1 ((((settle n i).1).votes).length) (g9 0 12) 0, .al 34 (some 13) 4 ((((settle n i).1).peers).length) (g9 0 13) 0]), (34, .agg [I (((settle n i).1).id), I (((settle n i).1).term_), I (((settle n i).1).vote), I (((settle n i).1).role), I (((settle n i).1).lead), .u, I ((((settle n i).1).log).start), I ((((settle n i).1).log).startTerm), .u, I (((settle n i).1).commit), I (((settle n i).1).clock), I (((settle n i).1).limit), .w (sl 1 cI (((settle n i).1).votes)) (g9 0 12), .w (sl 4 Peer.c (((settle n i).1).peers)) (g9 0 13)]), (35, Bo ((settle n i).2))] rfl (Le.of rfl) ?_
  refine RW.pullA (k := 9) (l := 34) (j := 12) 9 34 12 rfl rfl rfl (by decide) rfl rfl rfl rfl ?_
  refine RW.le [(1, I i), (2, .obj b1 ((Node.c n).map .r)), (6, .obj b6 [I (((settle n i).1).id), I (((settle n i).1).term_), I (((settle n i).1).vote), I (((settle n i).1).role), I (((settle n i).1).lead), .w (sl 1 cI (((settle n i).1).conf)) (g5 0 5), I ((((settle n i).1).log).start), I ((((settle n i).1).log).startTerm), .w (sl 3 Entry.c ((((settle n i).1).log).entries)) (g5 0 8), I (((settle n i).1).commit), I (((settle n i).1).clock), I (((settle n i).1).limit), .w (sl 1 cI (((settle n i).1).votes)) (g5 0 12), .w (sl 4 Peer.c (((settle n i).1).peers)) (g5 0 13)]), (7, Bo ((settle n i).2)), (8, .obj b8 [I n.id, I n.term_, I n.vote, I n.role, I n.lead, .w (sl 1 cI n.conf) (g7 0 5), I n.log.start, I n.log.startTerm, .w (sl 3 Entry.c n.log.entries) (g7 0 8), I n.commit, I n.clock, I n.limit, .w (sl 1 cI n.votes) (g7 0 12), .w (sl 4 Peer.c n.peers) (g7 0 13)]), (9, .obj b10 [I (((settle n i).1).id), I (((settle n i).1).term_), I (((settle n i).1).vote), I (((settle n i).1).role), I (((settle n i).1).lead), .w (sl 1 cI (((settle n i).1).conf)) (g9 0 5), I ((((settle n i).1).log).start), I ((((settle n i).1).log).startTerm), .w (sl 3 Entry.c ((((settle n i).1).log).entries)) (g9 0 8), I (((settle n i).1).commit), I (((settle n i).1).clock), I (((settle n i).1).limit), .w (sl 1 cI (((settle n i).1).votes)) (g9 0 12), .al 34 (some 13) 4 ((((settle n i).1).peers).length) (g9 0 13) 0]), (34, .agg [I (((settle n i).1).id), I (((settle n i).1).term_), I (((settle n i).1).vote), I (((settle n i).1).role), I (((settle n i).1).lead), .u, I ((((settle n i).1).log).start), I ((((settle n i).1).log).startTerm), .u, I (((settle n i).1).commit), I (((settle n i).1).clock), I (((settle n i).1).limit), .u, .w (sl 4 Peer.c (((settle n i).1).peers)) (g9 0 13)]), (35, Bo ((settle n i).2))] rfl (Le.of rfl) ?_
  refine RW.pullA (k := 9) (l := 34) (j := 13) 9 34 13 rfl rfl rfl (by decide) rfl rfl rfl rfl ?_
  refine RW.le [(1, I i), (2, .obj b1 ((Node.c n).map .r)), (6, .obj b6 [I (((settle n i).1).id), I (((settle n i).1).term_), I (((settle n i).1).vote), I (((settle n i).1).role), I (((settle n i).1).lead), .w (sl 1 cI (((settle n i).1).conf)) (g5 0 5), I ((((settle n i).1).log).start), I ((((settle n i).1).log).startTerm), .w (sl 3 Entry.c ((((settle n i).1).log).entries)) (g5 0 8), I (((settle n i).1).commit), I (((settle n i).1).clock), I (((settle n i).1).limit), .w (sl 1 cI (((settle n i).1).votes)) (g5 0 12), .w (sl 4 Peer.c (((settle n i).1).peers)) (g5 0 13)]), (7, Bo ((settle n i).2)), (8, .obj b8 [I n.id, I n.term_, I n.vote, I n.role, I n.lead, .w (sl 1 cI n.conf) (g7 0 5), I n.log.start, I n.log.startTerm, .w (sl 3 Entry.c n.log.entries) (g7 0 8), I n.commit, I n.clock, I n.limit, .w (sl 1 cI n.votes) (g7 0 12), .w (sl 4 Peer.c n.peers) (g7 0 13)]), (9, .obj b10 [I (((settle n i).1).id), I (((settle n i).1).term_), I (((settle n i).1).vote), I (((settle n i).1).role), I (((settle n i).1).lead), .w (sl 1 cI (((settle n i).1).conf)) (g9 0 5), I ((((settle n i).1).log).start), I ((((settle n i).1).log).startTerm), .w (sl 3 Entry.c ((((settle n i).1).log).entries)) (g9 0 8), I (((settle n i).1).commit), I (((settle n i).1).clock), I (((settle n i).1).limit), .w (sl 1 cI (((settle n i).1).votes)) (g9 0 12), .w (sl 4 Peer.c (((settle n i).1).peers)) (g9 0 13)]), (35, Bo ((settle n i).2))] rfl (Le.of rfl) ?_
  refine RW.v rfl (V.as (d := Bo ((settle n i).2)) rfl rfl) ?_
  refine RW.nil ?_
  refine CW.le [(1, I i), (2, .obj b1 ((Node.c n).map .r)), (6, .obj b6 [I (((settle n i).1).id), I (((settle n i).1).term_), I (((settle n i).1).vote), I (((settle n i).1).role), I (((settle n i).1).lead), .w (sl 1 cI (((settle n i).1).conf)) (g5 0 5), I ((((settle n i).1).log).start), I ((((settle n i).1).log).startTerm), .w (sl 3 Entry.c ((((settle n i).1).log).entries)) (g5 0 8), I (((settle n i).1).commit), I (((settle n i).1).clock), I (((settle n i).1).limit), .w (sl 1 cI (((settle n i).1).votes)) (g5 0 12), .w (sl 4 Peer.c (((settle n i).1).peers)) (g5 0 13)]), (7, Bo ((settle n i).2)), (8, .obj b8 [I n.id, I n.term_, I n.vote, I n.role, I n.lead, .w (sl 1 cI n.conf) (g7 0 5), I n.log.start, I n.log.startTerm, .w (sl 3 Entry.c n.log.entries) (g7 0 8), I n.commit, I n.clock, I n.limit, .w (sl 1 cI n.votes) (g7 0 12), .w (sl 4 Peer.c n.peers) (g7 0 13)]), (9, .obj b10 [I (((settle n i).1).id), I (((settle n i).1).term_), I (((settle n i).1).vote), I (((settle n i).1).role), I (((settle n i).1).lead), .w (sl 1 cI (((settle n i).1).conf)) (g9 0 5), I ((((settle n i).1).log).start), I ((((settle n i).1).log).startTerm), .w (sl 3 Entry.c ((((settle n i).1).log).entries)) (g9 0 8), I (((settle n i).1).commit), I (((settle n i).1).clock), I (((settle n i).1).limit), .w (sl 1 cI (((settle n i).1).votes)) (g9 0 12), .w (sl 4 Peer.c (((settle n i).1).peers)) (g9 0 13)]), (10, Bo ((settle n i).2))] rfl (Le.of rfl) ?_
  refine CW.seq ?_
  refine CW.seqJ 101 (fun (v11 : Bool) => [(1, I i), (2, .obj b1 ((Node.c n).map .r)), (6, .obj b6 [I (((settle n i).1).id), I (((settle n i).1).term_), I (((settle n i).1).vote), I (((settle n i).1).role), I (((settle n i).1).lead), .w (sl 1 cI (((settle n i).1).conf)) (g5 0 5), I ((((settle n i).1).log).start), I ((((settle n i).1).log).startTerm), .w (sl 3 Entry.c ((((settle n i).1).log).entries)) (g5 0 8), I (((settle n i).1).commit), I (((settle n i).1).clock), I (((settle n i).1).limit), .w (sl 1 cI (((settle n i).1).votes)) (g5 0 12), .w (sl 4 Peer.c (((settle n i).1).peers)) (g5 0 13)]), (7, Bo ((settle n i).2)), (8, .obj b8 [I n.id, I n.term_, I n.vote, I n.role, I n.lead, .w (sl 1 cI n.conf) (g7 0 5), I n.log.start, I n.log.startTerm, .w (sl 3 Entry.c n.log.entries) (g7 0 8), I n.commit, I n.clock, I n.limit, .w (sl 1 cI n.votes) (g7 0 12), .w (sl 4 Peer.c n.peers) (g7 0 13)]), (9, .obj b10 [I (((settle n i).1).id), I (((settle n i).1).term_), I (((settle n i).1).vote), I (((settle n i).1).role), I (((settle n i).1).lead), .w (sl 1 cI (((settle n i).1).conf)) (g9 0 5), I ((((settle n i).1).log).start), I ((((settle n i).1).log).startTerm), .w (sl 3 Entry.c ((((settle n i).1).log).entries)) (g9 0 8), I (((settle n i).1).commit), I (((settle n i).1).clock), I (((settle n i).1).limit), .w (sl 1 cI (((settle n i).1).votes)) (g9 0 12), .w (sl 4 Peer.c (((settle n i).1).peers)) (g9 0 13)]), (10, Bo ((settle n i).2)), (44, Bo v11)]) (fun v11 => v11 = ((!(eqNode ((settle n i).1) ((settle n i).1))) || (!(((settle n i).2) == ((settle n i).2))))) ?_ ?_
  ·refine CW.region ?_
   refine RW.v rfl (V.loadAgg rfl rfl rfl rfl rfl (Nat.le_of_ble_eq_true rfl)) ?_
   refine RW.v rfl (V.loadAgg rfl rfl rfl rfl rfl (Nat.le_of_ble_eq_true rfl)) ?_
   refine RW.callOwn rfl (laws_eqNode_fn ((settle n i).1) ((settle n i).1)) rfl (.cons (.agg (.cons (.r .r) (.cons (.r .r) (.cons (.r .r) (.cons (.r .r) (.cons (.r .r) (.cons (.r (.alo (k := none) (i := 9) (j := 5) (sz := 1) (V := (g9 0 5)) rfl rfl rfl nofun)) (.cons (.r .r) (.cons (.r .r) (.cons (.r (.alo (k := none) (i := 9) (j := 8) (sz := 3) (V := (g9 0 8)) rfl rfl rfl nofun)) (.cons (.r .r) (.cons (.r .r) (.cons (.r .r) (.cons (.r (.alo (k := none) (i := 9) (j := 12) (sz := 1) (V := (g9 0 12)) rfl rfl rfl nofun)) (.cons (.r (.alo (k := none) (i := 9) (j := 13) (sz := 4) (V := (g9 0 13)) rfl rfl rfl nofun)) (.nil)))))))))))))))) (.cons (.agg (.cons (.r .r) (.cons (.r .r) (.cons (.r .r) (.cons (.r .r) (.cons (.r .r) (.cons (.r (.alo (k := none) (i := 6) (j := 5) (sz := 1) (V := (g5 0 5)) rfl rfl rfl nofun)) (.cons (.r .r) (.cons (.r .r) (.cons (.r (.alo (k := none) (i := 6) (j := 8) (sz := 3) (V := (g5 0 8)) rfl rfl rfl nofun)) (.cons (.r .r) (.cons (.r .r) (.cons (.r .r) (.cons (.r (.alo (k := none) (i := 6) (j := 12) (sz := 1) (V := (g5 0 12)) rfl rfl rfl nofun)) (.cons (.r (.alo (k := none) (i := 6) (j := 13) (sz := 4) (V := (g5 0 13)) rfl rfl rfl nofun)) (.nil)))))))))))))))) (.nil))) rfl fun g12 => ?_
   refine RW.v rfl (V.not rfl rfl) ?_
   refine RW.v rfl (V.mv (d := Bo (!(eqNode ((settle n i).1) ((settle n i).1)))) rfl rfl) ?_
   refine RW.gv rfl rfl rfl rfl (fun h13 => V.mv (d := Bo ((settle n i).2)) rfl rfl) (fun h13 => ?_) (fun h13 => ?_)
   ·skip
    refine RW.gt rfl rfl rfl rfl (V.mv (d := Bo ((settle n i).2)) rfl rfl) ?_
    refine RW.gt rfl rfl rfl rfl (V.eqBool rfl rfl rfl (by kernel_rfl) (.inr ⟨rfl, rfl⟩)) ?_
    refine RW.v rfl (V.pickF (d := Bo (!(((settle n i).2) == ((settle n i).2)))) rfl rfl rfl) ?_
    refine RW.nil ?_
    exact ⟨_, by first | rfl | (simp_all; done) | (simp_all; omega) | grind, rfl, Le.c rfl <| Le.c rfl <| Le.c rfl <| Le.c rfl <| Le.c rfl <| Le.c rfl <| Le.c rfl <| Le.c rfl <| Le.e⟩
   ·skip
    refine RW.guardF rfl rfl rfl rfl ?_
    refine RW.guardF rfl rfl rfl rfl ?_
    refine RW.v rfl (V.pickT (d := Bo true) rfl rfl rfl) ?_
    refine RW.nil ?_
    exact ⟨_, by first | rfl | (simp_all; done) | (simp_all; omega) | grind, rfl, Le.c rfl <| Le.c rfl <| Le.c rfl <| Le.c rfl <| Le.c rfl <| Le.c rfl <| Le.c rfl <| Le.c rfl <| Le.e⟩
  ·intro v11 hv14
   refine CW.cond rfl (fun h15 => ?_) (fun h15 => ?_)
   ·skip
    refine CW.seq ?_
    refine CW.region ?_
    refine RW.v rfl (V.as (d := Bo false) rfl rfl) ?_
    refine RW.nil ?_
    refine CW.le [(4, Bo false)] rfl (Le.of rfl) ?_
    refine CW.ret ?_
    exact Post.one (RV.b rfl (by first | rfl | (exfalso; have p0 := mkVNode_facts (hP); have p1 := mkVNode_facts (okSettle hP i); simp_all [eqNode_refl]; done) | (exfalso; have p0 := mkVNode_facts (hP); have p1 := mkVNode_facts (okSettle hP i); simp_all [eqNode_refl]; omega))) (AOs.a rfl (AOs.r AOs.e))
   ·skip
    refine CW.skip ?_
    refine CW.le [(1, I i), (2, .obj b1 ((Node.c n).map .r)), (6, .obj b6 [I (((settle n i).1).id), I (((settle n i).1).term_), I (((settle n i).1).vote), I (((settle n i).1).role), I (((settle n i).1).lead), .w (sl 1 cI (((settle n i).1).conf)) (g5 0 5), I ((((settle n i).1).log).start), I ((((settle n i).1).log).startTerm), .w (sl 3 Entry.c ((((settle n i).1).log).entries)) (g5 0 8), I (((settle n i).1).commit), I (((settle n i).1).clock), I (((settle n i).1).limit), .w (sl 1 cI (((settle n i).1).votes)) (g5 0 12), .w (sl 4 Peer.c (((settle n i).1).peers)) (g5 0 13)]), (7, Bo ((settle n i).2)), (8, .obj b8 [I n.id, I n.term_, I n.vote, I n.role, I n.lead, .w (sl 1 cI n.conf) (g7 0 5), I n.log.start, I n.log.startTerm, .w (sl 3 Entry.c n.log.entries) (g7 0 8), I n.commit, I n.clock, I n.limit, .w (sl 1 cI n.votes) (g7 0 12), .w (sl 4 Peer.c n.peers) (g7 0 13)]), (9, .obj b10 [I (((settle n i).1).id), I (((settle n i).1).term_), I (((settle n i).1).vote), I (((settle n i).1).role), I (((settle n i).1).lead), .w (sl 1 cI (((settle n i).1).conf)) (g9 0 5), I ((((settle n i).1).log).start), I ((((settle n i).1).log).startTerm), .w (sl 3 Entry.c ((((settle n i).1).log).entries)) (g9 0 8), I (((settle n i).1).commit), I (((settle n i).1).clock), I (((settle n i).1).limit), .w (sl 1 cI (((settle n i).1).votes)) (g9 0 12), .w (sl 4 Peer.c (((settle n i).1).peers)) (g9 0 13)]), (10, Bo ((settle n i).2))] rfl (Le.of rfl) ?_
    refine CW.seq ?_
    refine CW.anyJ 101 (fun (x : (Nat → Nat → Value) × (Nat → Nat → Value)) => match x with | (go16_2_1, go16_3_1) => [(1, I i), (2, .obj b1 ((Node.c n).map .r)), (6, .obj b6 [I (((settle n i).1).id), I (((settle n i).1).term_), I (((settle n i).1).vote), I (((settle n i).1).role), I (((settle n i).1).lead), .w (sl 1 cI (((settle n i).1).conf)) (g5 0 5), I ((((settle n i).1).log).start), I ((((settle n i).1).log).startTerm), .w (sl 3 Entry.c ((((settle n i).1).log).entries)) (g5 0 8), I (((settle n i).1).commit), I (((settle n i).1).clock), I (((settle n i).1).limit), .w (sl 1 cI (((settle n i).1).votes)) (g5 0 12), .w (sl 4 Peer.c (((settle n i).1).peers)) (g5 0 13)]), (7, Bo ((settle n i).2)), (8, .obj b8 [I n.id, I n.term_, I n.vote, I n.role, I n.lead, .w (sl 1 cI n.conf) (g7 0 5), I n.log.start, I n.log.startTerm, .w (sl 3 Entry.c n.log.entries) (g7 0 8), I n.commit, I n.clock, I n.limit, .w (sl 1 cI n.votes) (g7 0 12), .w (sl 4 Peer.c n.peers) (g7 0 13)]), (9, .obj b10 [I (((settle n i).1).id), I (((settle n i).1).term_), I (((settle n i).1).vote), I (((settle n i).1).role), I (((settle n i).1).lead), .w (sl 1 cI (((settle n i).1).conf)) (g9 0 5), I ((((settle n i).1).log).start), I ((((settle n i).1).log).startTerm), .w (sl 3 Entry.c ((((settle n i).1).log).entries)) (g9 0 8), I (((settle n i).1).commit), I (((settle n i).1).clock), I (((settle n i).1).limit), .w (sl 1 cI (((settle n i).1).votes)) (g9 0 12), .w (sl 4 Peer.c (((settle n i).1).peers)) (g9 0 13)]), (10, Bo ((settle n i).2)), (49, Bo (!(eqNode n n)))]) (fun all hall K hK => ?_) ?_
    ·skip
     have ro16_11111 : ∀ (go16_2_1 : Nat → Nat → Value), ∀ (go16_3_1 : Nat → Nat → Value), RA E B all 0 #[true, true, true, true, true] ⟨101, [(1, I i), (2, .obj b1 ((Node.c n).map .r)), (6, .obj b6 [I (((settle n i).1).id), I (((settle n i).1).term_), I (((settle n i).1).vote), I (((settle n i).1).role), I (((settle n i).1).lead), .w (sl 1 cI (((settle n i).1).conf)) (g5 0 5), I ((((settle n i).1).log).start), I ((((settle n i).1).log).startTerm), .w (sl 3 Entry.c ((((settle n i).1).log).entries)) (g5 0 8), I (((settle n i).1).commit), I (((settle n i).1).clock), I (((settle n i).1).limit), .w (sl 1 cI (((settle n i).1).votes)) (g5 0 12), .w (sl 4 Peer.c (((settle n i).1).peers)) (g5 0 13)]), (7, Bo ((settle n i).2)), (8, .obj b8 [I n.id, I n.term_, I n.vote, I n.role, I n.lead, .w (sl 1 cI n.conf) (g7 0 5), I n.log.start, I n.log.startTerm, .w (sl 3 Entry.c n.log.entries) (g7 0 8), I n.commit, I n.clock, I n.limit, .w (sl 1 cI n.votes) (g7 0 12), .w (sl 4 Peer.c n.peers) (g7 0 13)]), (9, .obj b10 [I (((settle n i).1).id), I (((settle n i).1).term_), I (((settle n i).1).vote), I (((settle n i).1).role), I (((settle n i).1).lead), .w (sl 1 cI (((settle n i).1).conf)) (g9 0 5), I ((((settle n i).1).log).start), I ((((settle n i).1).log).startTerm), .w (sl 3 Entry.c ((((settle n i).1).log).entries)) (g9 0 8), I (((settle n i).1).commit), I (((settle n i).1).clock), I (((settle n i).1).limit), .w (sl 1 cI (((settle n i).1).votes)) (g9 0 12), .w (sl 4 Peer.c (((settle n i).1).peers)) (g9 0 13)]), (10, Bo ((settle n i).2)), (49, Bo (!(eqNode n n)))]⟩ K := by
      intro go16_2_1 go16_3_1
      exact RA.of hall (RA.fin (by kernel_rfl) (hK (go16_2_1, go16_3_1) _ rfl (Le.of rfl)))
     have ro16_11110 : ∀ (go16_2_1 : Nat → Nat → Value), ∀ (go16_3_1 : Nat → Nat → Value), RA E B all 1 #[true, true, true, true, false] ⟨101, [(1, I i), (2, .obj b1 ((Node.c n).map .r)), (6, .obj b6 [I (((settle n i).1).id), I (((settle n i).1).term_), I (((settle n i).1).vote), I (((settle n i).1).role), I (((settle n i).1).lead), .w (sl 1 cI (((settle n i).1).conf)) (g5 0 5), I ((((settle n i).1).log).start), I ((((settle n i).1).log).startTerm), .w (sl 3 Entry.c ((((settle n i).1).log).entries)) (g5 0 8), I (((settle n i).1).commit), I (((settle n i).1).clock), I (((settle n i).1).limit), .w (sl 1 cI (((settle n i).1).votes)) (g5 0 12), .w (sl 4 Peer.c (((settle n i).1).peers)) (g5 0 13)]), (7, Bo ((settle n i).2)), (8, .obj b8 [I n.id, I n.term_, I n.vote, I n.role, I n.lead, .w (sl 1 cI n.conf) (g7 0 5), I n.log.start, I n.log.startTerm, .w (sl 3 Entry.c n.log.entries) (g7 0 8), I n.commit, I n.clock, I n.limit, .w (sl 1 cI n.votes) (g7 0 12), .w (sl 4 Peer.c n.peers) (g7 0 13)]), (9, .obj b10 [I (((settle n i).1).id), I (((settle n i).1).term_), I (((settle n i).1).vote), I (((settle n i).1).role), I (((settle n i).1).lead), .w (sl 1 cI (((settle n i).1).conf)) (g9 0 5), I ((((settle n i).1).log).start), I ((((settle n i).1).log).startTerm), .w (sl 3 Entry.c ((((settle n i).1).log).entries)) (g9 0 8), I (((settle n i).1).commit), I (((settle n i).1).clock), I (((settle n i).1).limit), .w (sl 1 cI (((settle n i).1).votes)) (g9 0 12), .w (sl 4 Peer.c (((settle n i).1).peers)) (g9 0 13)]), (10, Bo ((settle n i).2)), (48, Bo (eqNode n n))]⟩ K := by
      intro go16_2_1 go16_3_1
      refine RA.of hall (RA.step (L := [4]) (by kernel_rfl) (by simp) (RA.each ?_ (RA.each0)))
      ·skip
       refine RO.v rfl rfl (V.not rfl rfl) rfl ?_
       exact RA.to hall (RA.lr (ro16_11111 go16_2_1 go16_3_1) rfl rfl)
     have ro16_11100 : ∀ (go16_2_1 : Nat → Nat → Value), RA E B all 2 #[true, true, true, false, false] ⟨101, [(1, I i), (2, .obj b1 ((Node.c n).map .r)), (6, .obj b6 [I (((settle n i).1).id), I (((settle n i).1).term_), I (((settle n i).1).vote), I (((settle n i).1).role), I (((settle n i).1).lead), .w (sl 1 cI (((settle n i).1).conf)) (g5 0 5), I ((((settle n i).1).log).start), I ((((settle n i).1).log).startTerm), .w (sl 3 Entry.c ((((settle n i).1).log).entries)) (g5 0 8), I (((settle n i).1).commit), I (((settle n i).1).clock), I (((settle n i).1).limit), .w (sl 1 cI (((settle n i).1).votes)) (g5 0 12), .w (sl 4 Peer.c (((settle n i).1).peers)) (g5 0 13)]), (7, Bo ((settle n i).2)), (8, .obj b8 [I n.id, I n.term_, I n.vote, I n.role, I n.lead, .w (sl 1 cI n.conf) (g7 0 5), I n.log.start, I n.log.startTerm, .w (sl 3 Entry.c n.log.entries) (g7 0 8), I n.commit, I n.clock, I n.limit, .w (sl 1 cI n.votes) (g7 0 12), .w (sl 4 Peer.c n.peers) (g7 0 13)]), (9, .obj b10 [I (((settle n i).1).id), I (((settle n i).1).term_), I (((settle n i).1).vote), I (((settle n i).1).role), I (((settle n i).1).lead), .w (sl 1 cI (((settle n i).1).conf)) (g9 0 5), I ((((settle n i).1).log).start), I ((((settle n i).1).log).startTerm), .w (sl 3 Entry.c ((((settle n i).1).log).entries)) (g9 0 8), I (((settle n i).1).commit), I (((settle n i).1).clock), I (((settle n i).1).limit), .w (sl 1 cI (((settle n i).1).votes)) (g9 0 12), .w (sl 4 Peer.c (((settle n i).1).peers)) (g9 0 13)]), (10, Bo ((settle n i).2)), (45, .agg [I n.id, I n.term_, I n.vote, I n.role, I n.lead, .al 8 (some 5) 1 n.conf.length (g7 0 5) 0, I n.log.start, I n.log.startTerm, .al 8 (some 8) 3 n.log.entries.length (g7 0 8) 0, I n.commit, I n.clock, I n.limit, .al 8 (some 12) 1 n.votes.length (g7 0 12) 0, .al 8 (some 13) 4 n.peers.length (g7 0 13) 0]), (47, .agg [I n.id, I n.term_, I n.vote, I n.role, I n.lead, .w (sl 1 cI n.conf) (go16_2_1 0 5), I n.log.start, I n.log.startTerm, .w (sl 3 Entry.c n.log.entries) (go16_2_1 0 8), I n.commit, I n.clock, I n.limit, .w (sl 1 cI n.votes) (go16_2_1 0 12), .w (sl 4 Peer.c n.peers) (go16_2_1 0 13)])]⟩ K := by
      intro go16_2_1
      refine RA.of hall (RA.step (L := [3]) (by kernel_rfl) (by simp) (RA.each ?_ (RA.each0)))
      ·skip
       refine RO.callOwn rfl rfl (laws_eqNode_fn n n) rfl (.cons (.agg (.cons (.r .r) (.cons (.r .r) (.cons (.r .r) (.cons (.r .r) (.cons (.r .r) (.cons (.r (.alo (k := none) (i := 8) (j := 5) (sz := 1) (V := (g7 0 5)) rfl rfl rfl nofun)) (.cons (.r .r) (.cons (.r .r) (.cons (.r (.alo (k := none) (i := 8) (j := 8) (sz := 3) (V := (g7 0 8)) rfl rfl rfl nofun)) (.cons (.r .r) (.cons (.r .r) (.cons (.r .r) (.cons (.r (.alo (k := none) (i := 8) (j := 12) (sz := 1) (V := (g7 0 12)) rfl rfl rfl nofun)) (.cons (.r (.alo (k := none) (i := 8) (j := 13) (sz := 4) (V := (g7 0 13)) rfl rfl rfl nofun)) (.nil)))))))))))))))) (.cons (.agg (.cons (.r .r) (.cons (.r .r) (.cons (.r .r) (.cons (.r .r) (.cons (.r .r) (.cons (.r (.ala (k := none) (i := 47) (j := 5) (sz := 1) (V := (go16_2_1 0 5)) rfl rfl rfl nofun)) (.cons (.r .r) (.cons (.r .r) (.cons (.r (.ala (k := none) (i := 47) (j := 8) (sz := 3) (V := (go16_2_1 0 8)) rfl rfl rfl nofun)) (.cons (.r .r) (.cons (.r .r) (.cons (.r .r) (.cons (.r (.ala (k := none) (i := 47) (j := 12) (sz := 1) (V := (go16_2_1 0 12)) rfl rfl rfl nofun)) (.cons (.r (.ala (k := none) (i := 47) (j := 13) (sz := 4) (V := (go16_2_1 0 13)) rfl rfl rfl nofun)) (.nil)))))))))))))))) (.nil))) rfl rfl fun go16_3_1 => ?_
       exact RA.to hall (RA.lr (ro16_11110 go16_2_1 go16_3_1) rfl rfl)
     have ro16_01100 : ∀ (go16_2_1 : Nat → Nat → Value), RA E B all 3 #[false, true, true, false, false] ⟨101, [(1, I i), (2, .obj b1 ((Node.c n).map .r)), (6, .obj b6 [I (((settle n i).1).id), I (((settle n i).1).term_), I (((settle n i).1).vote), I (((settle n i).1).role), I (((settle n i).1).lead), .w (sl 1 cI (((settle n i).1).conf)) (g5 0 5), I ((((settle n i).1).log).start), I ((((settle n i).1).log).startTerm), .w (sl 3 Entry.c ((((settle n i).1).log).entries)) (g5 0 8), I (((settle n i).1).commit), I (((settle n i).1).clock), I (((settle n i).1).limit), .w (sl 1 cI (((settle n i).1).votes)) (g5 0 12), .w (sl 4 Peer.c (((settle n i).1).peers)) (g5 0 13)]), (7, Bo ((settle n i).2)), (8, .obj b8 [I n.id, I n.term_, I n.vote, I n.role, I n.lead, .w (sl 1 cI n.conf) (g7 0 5), I n.log.start, I n.log.startTerm, .w (sl 3 Entry.c n.log.entries) (g7 0 8), I n.commit, I n.clock, I n.limit, .w (sl 1 cI n.votes) (g7 0 12), .w (sl 4 Peer.c n.peers) (g7 0 13)]), (9, .obj b10 [I (((settle n i).1).id), I (((settle n i).1).term_), I (((settle n i).1).vote), I (((settle n i).1).role), I (((settle n i).1).lead), .w (sl 1 cI (((settle n i).1).conf)) (g9 0 5), I ((((settle n i).1).log).start), I ((((settle n i).1).log).startTerm), .w (sl 3 Entry.c ((((settle n i).1).log).entries)) (g9 0 8), I (((settle n i).1).commit), I (((settle n i).1).clock), I (((settle n i).1).limit), .w (sl 1 cI (((settle n i).1).votes)) (g9 0 12), .w (sl 4 Peer.c (((settle n i).1).peers)) (g9 0 13)]), (10, Bo ((settle n i).2)), (47, .agg [I n.id, I n.term_, I n.vote, I n.role, I n.lead, .w (sl 1 cI n.conf) (go16_2_1 0 5), I n.log.start, I n.log.startTerm, .w (sl 3 Entry.c n.log.entries) (go16_2_1 0 8), I n.commit, I n.clock, I n.limit, .w (sl 1 cI n.votes) (go16_2_1 0 12), .w (sl 4 Peer.c n.peers) (go16_2_1 0 13)])]⟩ K := by
      intro go16_2_1
      refine RA.of hall (RA.step (L := [0]) (by kernel_rfl) (by simp) (RA.each ?_ (RA.each0)))
      ·skip
       refine RO.v rfl rfl (V.loadAgg rfl rfl rfl rfl rfl (Nat.le_of_ble_eq_true rfl)) rfl ?_
       exact RA.to hall (RA.lr (ro16_11100 go16_2_1) rfl rfl)
     have ro16_11000 : RA E B all 3 #[true, true, false, false, false] ⟨101, [(1, I i), (2, .obj b1 ((Node.c n).map .r)), (6, .obj b6 [I (((settle n i).1).id), I (((settle n i).1).term_), I (((settle n i).1).vote), I (((settle n i).1).role), I (((settle n i).1).lead), .w (sl 1 cI (((settle n i).1).conf)) (g5 0 5), I ((((settle n i).1).log).start), I ((((settle n i).1).log).startTerm), .w (sl 3 Entry.c ((((settle n i).1).log).entries)) (g5 0 8), I (((settle n i).1).commit), I (((settle n i).1).clock), I (((settle n i).1).limit), .w (sl 1 cI (((settle n i).1).votes)) (g5 0 12), .w (sl 4 Peer.c (((settle n i).1).peers)) (g5 0 13)]), (7, Bo ((settle n i).2)), (8, .obj b8 [I n.id, I n.term_, I n.vote, I n.role, I n.lead, .w (sl 1 cI n.conf) (g7 0 5), I n.log.start, I n.log.startTerm, .w (sl 3 Entry.c n.log.entries) (g7 0 8), I n.commit, I n.clock, I n.limit, .w (sl 1 cI n.votes) (g7 0 12), .w (sl 4 Peer.c n.peers) (g7 0 13)]), (9, .obj b10 [I (((settle n i).1).id), I (((settle n i).1).term_), I (((settle n i).1).vote), I (((settle n i).1).role), I (((settle n i).1).lead), .w (sl 1 cI (((settle n i).1).conf)) (g9 0 5), I ((((settle n i).1).log).start), I ((((settle n i).1).log).startTerm), .w (sl 3 Entry.c ((((settle n i).1).log).entries)) (g9 0 8), I (((settle n i).1).commit), I (((settle n i).1).clock), I (((settle n i).1).limit), .w (sl 1 cI (((settle n i).1).votes)) (g9 0 12), .w (sl 4 Peer.c (((settle n i).1).peers)) (g9 0 13)]), (10, Bo ((settle n i).2)), (45, .agg [I n.id, I n.term_, I n.vote, I n.role, I n.lead, .al 8 (some 5) 1 n.conf.length (g7 0 5) 0, I n.log.start, I n.log.startTerm, .al 8 (some 8) 3 n.log.entries.length (g7 0 8) 0, I n.commit, I n.clock, I n.limit, .al 8 (some 12) 1 n.votes.length (g7 0 12) 0, .al 8 (some 13) 4 n.peers.length (g7 0 13) 0]), (46, .agg ((Node.c n).map .r))]⟩ K := by
      refine RA.of hall (RA.step (L := [2]) (by kernel_rfl) (by simp) (RA.each ?_ (RA.each0)))
      ·skip
       refine RO.call rfl rfl (laws_toNode_fn n hP) rfl (.cons (.agg (.cons (.r .r) (.cons (.r .r) (.cons (.r .r) (.cons (.r .r) (.cons (.r .r) (.cons (.r .r) (.cons (.r .r) (.cons (.r .r) (.cons (.r .r) (.cons (.r .r) (.cons (.r .r) (.cons (.r .r) (.cons (.r .r) (.cons (.r .r) (.nil)))))))))))))))) (.nil)) rfl fun go16_2_1 => ?_
       exact RA.to hall (RA.lr (ro16_11100 go16_2_1) rfl rfl)
     have ro16_01000 : RA E B all 4 #[false, true, false, false, false] ⟨101, [(1, I i), (2, .obj b1 ((Node.c n).map .r)), (6, .obj b6 [I (((settle n i).1).id), I (((settle n i).1).term_), I (((settle n i).1).vote), I (((settle n i).1).role), I (((settle n i).1).lead), .w (sl 1 cI (((settle n i).1).conf)) (g5 0 5), I ((((settle n i).1).log).start), I ((((settle n i).1).log).startTerm), .w (sl 3 Entry.c ((((settle n i).1).log).entries)) (g5 0 8), I (((settle n i).1).commit), I (((settle n i).1).clock), I (((settle n i).1).limit), .w (sl 1 cI (((settle n i).1).votes)) (g5 0 12), .w (sl 4 Peer.c (((settle n i).1).peers)) (g5 0 13)]), (7, Bo ((settle n i).2)), (8, .obj b8 [I n.id, I n.term_, I n.vote, I n.role, I n.lead, .w (sl 1 cI n.conf) (g7 0 5), I n.log.start, I n.log.startTerm, .w (sl 3 Entry.c n.log.entries) (g7 0 8), I n.commit, I n.clock, I n.limit, .w (sl 1 cI n.votes) (g7 0 12), .w (sl 4 Peer.c n.peers) (g7 0 13)]), (9, .obj b10 [I (((settle n i).1).id), I (((settle n i).1).term_), I (((settle n i).1).vote), I (((settle n i).1).role), I (((settle n i).1).lead), .w (sl 1 cI (((settle n i).1).conf)) (g9 0 5), I ((((settle n i).1).log).start), I ((((settle n i).1).log).startTerm), .w (sl 3 Entry.c ((((settle n i).1).log).entries)) (g9 0 8), I (((settle n i).1).commit), I (((settle n i).1).clock), I (((settle n i).1).limit), .w (sl 1 cI (((settle n i).1).votes)) (g9 0 12), .w (sl 4 Peer.c (((settle n i).1).peers)) (g9 0 13)]), (10, Bo ((settle n i).2)), (46, .agg ((Node.c n).map .r))]⟩ K := by
      refine RA.of hall (RA.step (L := [0, 2]) (by kernel_rfl) (by simp) (RA.each ?_ (RA.each ?_ (RA.each0))))
      ·skip
       refine RO.v rfl rfl (V.loadAgg rfl rfl rfl rfl rfl (Nat.le_of_ble_eq_true rfl)) rfl ?_
       exact RA.to hall (RA.lr ro16_11000 rfl rfl)
      ·skip
       refine RO.call rfl rfl (laws_toNode_fn n hP) rfl (.cons (.agg (.cons (.r .r) (.cons (.r .r) (.cons (.r .r) (.cons (.r .r) (.cons (.r .r) (.cons (.r .r) (.cons (.r .r) (.cons (.r .r) (.cons (.r .r) (.cons (.r .r) (.cons (.r .r) (.cons (.r .r) (.cons (.r .r) (.cons (.r .r) (.nil)))))))))))))))) (.nil)) rfl fun go16_2_1 => ?_
       exact RA.to hall (RA.lr (ro16_01100 go16_2_1) rfl rfl)
     have ro16_10000 : RA E B all 4 #[true, false, false, false, false] ⟨101, [(1, I i), (2, .obj b1 ((Node.c n).map .r)), (6, .obj b6 [I (((settle n i).1).id), I (((settle n i).1).term_), I (((settle n i).1).vote), I (((settle n i).1).role), I (((settle n i).1).lead), .w (sl 1 cI (((settle n i).1).conf)) (g5 0 5), I ((((settle n i).1).log).start), I ((((settle n i).1).log).startTerm), .w (sl 3 Entry.c ((((settle n i).1).log).entries)) (g5 0 8), I (((settle n i).1).commit), I (((settle n i).1).clock), I (((settle n i).1).limit), .w (sl 1 cI (((settle n i).1).votes)) (g5 0 12), .w (sl 4 Peer.c (((settle n i).1).peers)) (g5 0 13)]), (7, Bo ((settle n i).2)), (8, .obj b8 [I n.id, I n.term_, I n.vote, I n.role, I n.lead, .w (sl 1 cI n.conf) (g7 0 5), I n.log.start, I n.log.startTerm, .w (sl 3 Entry.c n.log.entries) (g7 0 8), I n.commit, I n.clock, I n.limit, .w (sl 1 cI n.votes) (g7 0 12), .w (sl 4 Peer.c n.peers) (g7 0 13)]), (9, .obj b10 [I (((settle n i).1).id), I (((settle n i).1).term_), I (((settle n i).1).vote), I (((settle n i).1).role), I (((settle n i).1).lead), .w (sl 1 cI (((settle n i).1).conf)) (g9 0 5), I ((((settle n i).1).log).start), I ((((settle n i).1).log).startTerm), .w (sl 3 Entry.c ((((settle n i).1).log).entries)) (g9 0 8), I (((settle n i).1).commit), I (((settle n i).1).clock), I (((settle n i).1).limit), .w (sl 1 cI (((settle n i).1).votes)) (g9 0 12), .w (sl 4 Peer.c (((settle n i).1).peers)) (g9 0 13)]), (10, Bo ((settle n i).2)), (45, .agg [I n.id, I n.term_, I n.vote, I n.role, I n.lead, .al 8 (some 5) 1 n.conf.length (g7 0 5) 0, I n.log.start, I n.log.startTerm, .al 8 (some 8) 3 n.log.entries.length (g7 0 8) 0, I n.commit, I n.clock, I n.limit, .al 8 (some 12) 1 n.votes.length (g7 0 12) 0, .al 8 (some 13) 4 n.peers.length (g7 0 13) 0])]⟩ K := by
      refine RA.of hall (RA.step (L := [1]) (by kernel_rfl) (by simp) (RA.each ?_ (RA.each0)))
      ·skip
       refine RO.v rfl rfl (V.loadAgg rfl rfl rfl rfl rfl (Nat.le_of_ble_eq_true rfl)) rfl ?_
       exact RA.to hall (RA.lr ro16_11000 rfl rfl)
     have ro16_00000 : RA E B all 5 #[false, false, false, false, false] ⟨101, [(1, I i), (2, .obj b1 ((Node.c n).map .r)), (6, .obj b6 [I (((settle n i).1).id), I (((settle n i).1).term_), I (((settle n i).1).vote), I (((settle n i).1).role), I (((settle n i).1).lead), .w (sl 1 cI (((settle n i).1).conf)) (g5 0 5), I ((((settle n i).1).log).start), I ((((settle n i).1).log).startTerm), .w (sl 3 Entry.c ((((settle n i).1).log).entries)) (g5 0 8), I (((settle n i).1).commit), I (((settle n i).1).clock), I (((settle n i).1).limit), .w (sl 1 cI (((settle n i).1).votes)) (g5 0 12), .w (sl 4 Peer.c (((settle n i).1).peers)) (g5 0 13)]), (7, Bo ((settle n i).2)), (8, .obj b8 [I n.id, I n.term_, I n.vote, I n.role, I n.lead, .w (sl 1 cI n.conf) (g7 0 5), I n.log.start, I n.log.startTerm, .w (sl 3 Entry.c n.log.entries) (g7 0 8), I n.commit, I n.clock, I n.limit, .w (sl 1 cI n.votes) (g7 0 12), .w (sl 4 Peer.c n.peers) (g7 0 13)]), (9, .obj b10 [I (((settle n i).1).id), I (((settle n i).1).term_), I (((settle n i).1).vote), I (((settle n i).1).role), I (((settle n i).1).lead), .w (sl 1 cI (((settle n i).1).conf)) (g9 0 5), I ((((settle n i).1).log).start), I ((((settle n i).1).log).startTerm), .w (sl 3 Entry.c ((((settle n i).1).log).entries)) (g9 0 8), I (((settle n i).1).commit), I (((settle n i).1).clock), I (((settle n i).1).limit), .w (sl 1 cI (((settle n i).1).votes)) (g9 0 12), .w (sl 4 Peer.c (((settle n i).1).peers)) (g9 0 13)]), (10, Bo ((settle n i).2))]⟩ K := by
      refine RA.of hall (RA.step (L := [0, 1]) (by kernel_rfl) (by simp) (RA.each ?_ (RA.each ?_ (RA.each0))))
      ·skip
       refine RO.v rfl rfl (V.loadAgg rfl rfl rfl rfl rfl (Nat.le_of_ble_eq_true rfl)) rfl ?_
       exact RA.to hall (RA.lr ro16_10000 rfl rfl)
      ·skip
       refine RO.v rfl rfl (V.loadAgg rfl rfl rfl rfl rfl (Nat.le_of_ble_eq_true rfl)) rfl ?_
       exact RA.to hall (RA.lr ro16_01000 rfl rfl)
     exact RA.start (by kernel_rfl) (by kernel_rfl) (RA.lr ro16_00000 rfl rfl)
    ·rintro ⟨go16_2_1, go16_3_1⟩
     refine CW.cond rfl (fun h17 => ?_) (fun h17 => ?_)
     ·skip
      refine CW.seq ?_
      refine CW.region ?_
      refine RW.v rfl (V.as (d := Bo false) rfl rfl) ?_
      refine RW.nil ?_
      refine CW.le [(4, Bo false)] rfl (Le.of rfl) ?_
      refine CW.ret ?_
      exact Post.one (RV.b rfl (by first | rfl | (exfalso; have p0 := mkVNode_facts (hP); have p1 := mkVNode_facts (okSettle hP i); simp_all [eqNode_refl]; done) | (exfalso; have p0 := mkVNode_facts (hP); have p1 := mkVNode_facts (okSettle hP i); simp_all [eqNode_refl]; omega))) (AOs.a rfl (AOs.r AOs.e))
     ·skip
      refine CW.skip ?_
      refine CW.le [(1, I i), (2, .obj b1 ((Node.c n).map .r)), (6, .obj b6 [I (((settle n i).1).id), I (((settle n i).1).term_), I (((settle n i).1).vote), I (((settle n i).1).role), I (((settle n i).1).lead), .w (sl 1 cI (((settle n i).1).conf)) (g5 0 5), I ((((settle n i).1).log).start), I ((((settle n i).1).log).startTerm), .w (sl 3 Entry.c ((((settle n i).1).log).entries)) (g5 0 8), I (((settle n i).1).commit), I (((settle n i).1).clock), I (((settle n i).1).limit), .w (sl 1 cI (((settle n i).1).votes)) (g5 0 12), .w (sl 4 Peer.c (((settle n i).1).peers)) (g5 0 13)]), (7, Bo ((settle n i).2)), (8, .obj b8 [I n.id, I n.term_, I n.vote, I n.role, I n.lead, .w (sl 1 cI n.conf) (g7 0 5), I n.log.start, I n.log.startTerm, .w (sl 3 Entry.c n.log.entries) (g7 0 8), I n.commit, I n.clock, I n.limit, .w (sl 1 cI n.votes) (g7 0 12), .w (sl 4 Peer.c n.peers) (g7 0 13)]), (9, .obj b10 [I (((settle n i).1).id), I (((settle n i).1).term_), I (((settle n i).1).vote), I (((settle n i).1).role), I (((settle n i).1).lead), .w (sl 1 cI (((settle n i).1).conf)) (g9 0 5), I ((((settle n i).1).log).start), I ((((settle n i).1).log).startTerm), .w (sl 3 Entry.c ((((settle n i).1).log).entries)) (g9 0 8), I (((settle n i).1).commit), I (((settle n i).1).clock), I (((settle n i).1).limit), .w (sl 1 cI (((settle n i).1).votes)) (g9 0 12), .w (sl 4 Peer.c (((settle n i).1).peers)) (g9 0 13)]), (10, Bo ((settle n i).2))] rfl (Le.of rfl) ?_
      refine CW.seq ?_
      refine CW.region ?_
      refine RW.v rfl (V.as (d := I 1) rfl rfl) ?_
      refine RW.nil ?_
      refine CW.le [(1, I i), (2, .obj b1 ((Node.c n).map .r)), (6, .obj b6 [I (((settle n i).1).id), I (((settle n i).1).term_), I (((settle n i).1).vote), I (((settle n i).1).role), I (((settle n i).1).lead), .w (sl 1 cI (((settle n i).1).conf)) (g5 0 5), I ((((settle n i).1).log).start), I ((((settle n i).1).log).startTerm), .w (sl 3 Entry.c ((((settle n i).1).log).entries)) (g5 0 8), I (((settle n i).1).commit), I (((settle n i).1).clock), I (((settle n i).1).limit), .w (sl 1 cI (((settle n i).1).votes)) (g5 0 12), .w (sl 4 Peer.c (((settle n i).1).peers)) (g5 0 13)]), (7, Bo ((settle n i).2)), (8, .obj b8 [I n.id, I n.term_, I n.vote, I n.role, I n.lead, .w (sl 1 cI n.conf) (g7 0 5), I n.log.start, I n.log.startTerm, .w (sl 3 Entry.c n.log.entries) (g7 0 8), I n.commit, I n.clock, I n.limit, .w (sl 1 cI n.votes) (g7 0 12), .w (sl 4 Peer.c n.peers) (g7 0 13)]), (9, .obj b10 [I (((settle n i).1).id), I (((settle n i).1).term_), I (((settle n i).1).vote), I (((settle n i).1).role), I (((settle n i).1).lead), .w (sl 1 cI (((settle n i).1).conf)) (g9 0 5), I ((((settle n i).1).log).start), I ((((settle n i).1).log).startTerm), .w (sl 3 Entry.c ((((settle n i).1).log).entries)) (g9 0 8), I (((settle n i).1).commit), I (((settle n i).1).clock), I (((settle n i).1).limit), .w (sl 1 cI (((settle n i).1).votes)) (g9 0 12), .w (sl 4 Peer.c (((settle n i).1).peers)) (g9 0 13)]), (10, Bo ((settle n i).2)), (11, I 1)] rfl (Le.of rfl) ?_
      refine CW.seq ?_
      refine CW.region ?_
      refine RW.v rfl (V.loadAgg rfl rfl rfl rfl rfl (Nat.le_of_ble_eq_true rfl)) ?_
      refine RW.v rfl (V.mv (d := I 1) rfl rfl) ?_
      refine RW.callW (k := 8) (laws_markNode_fn n 1 (by decide)) rfl rfl (Nat.le_of_ble_eq_true rfl) (by decide) (.here (AsW.aggO (Hand.v (Hand.v (Hand.v (Hand.v (Hand.v (Hand.w (Hand.v (Hand.v (Hand.w (Hand.v (Hand.v (Hand.v (Hand.w (Hand.w Hand.e))))))))))))))) (.cons (.one (.r .r)) (.nil))) rfl fun g18 q19 => ?_
      refine RW.v rfl (V.as (d := I ((mkVNode n 1).2)) rfl rfl) ?_
      refine RW.nil ?_
      refine CW.le [(1, I i), (2, .obj b1 ((Node.c n).map .r)), (6, .obj b6 [I (((settle n i).1).id), I (((settle n i).1).term_), I (((settle n i).1).vote), I (((settle n i).1).role), I (((settle n i).1).lead), .w (sl 1 cI (((settle n i).1).conf)) (g5 0 5), I ((((settle n i).1).log).start), I ((((settle n i).1).log).startTerm), .w (sl 3 Entry.c ((((settle n i).1).log).entries)) (g5 0 8), I (((settle n i).1).commit), I (((settle n i).1).clock), I (((settle n i).1).limit), .w (sl 1 cI (((settle n i).1).votes)) (g5 0 12), .w (sl 4 Peer.c (((settle n i).1).peers)) (g5 0 13)]), (7, Bo ((settle n i).2)), (9, .obj b10 [I (((settle n i).1).id), I (((settle n i).1).term_), I (((settle n i).1).vote), I (((settle n i).1).role), I (((settle n i).1).lead), .w (sl 1 cI (((settle n i).1).conf)) (g9 0 5), I ((((settle n i).1).log).start), I ((((settle n i).1).log).startTerm), .w (sl 3 Entry.c ((((settle n i).1).log).entries)) (g9 0 8), I (((settle n i).1).commit), I (((settle n i).1).clock), I (((settle n i).1).limit), .w (sl 1 cI (((settle n i).1).votes)) (g9 0 12), .w (sl 4 Peer.c (((settle n i).1).peers)) (g9 0 13)]), (10, Bo ((settle n i).2)), (11, I ((mkVNode n 1).2))] rfl (Le.of rfl) ?_
      refine CW.seq ?_
      refine CW.seqJ 101 (fun (v20 : Bool) => [(1, I i), (2, .obj b1 ((Node.c n).map .r)), (6, .obj b6 [I (((settle n i).1).id), I (((settle n i).1).term_), I (((settle n i).1).vote), I (((settle n i).1).role), I (((settle n i).1).lead), .w (sl 1 cI (((settle n i).1).conf)) (g5 0 5), I ((((settle n i).1).log).start), I ((((settle n i).1).log).startTerm), .w (sl 3 Entry.c ((((settle n i).1).log).entries)) (g5 0 8), I (((settle n i).1).commit), I (((settle n i).1).clock), I (((settle n i).1).limit), .w (sl 1 cI (((settle n i).1).votes)) (g5 0 12), .w (sl 4 Peer.c (((settle n i).1).peers)) (g5 0 13)]), (7, Bo ((settle n i).2)), (9, .obj b10 [I (((settle n i).1).id), I (((settle n i).1).term_), I (((settle n i).1).vote), I (((settle n i).1).role), I (((settle n i).1).lead), .w (sl 1 cI (((settle n i).1).conf)) (g9 0 5), I ((((settle n i).1).log).start), I ((((settle n i).1).log).startTerm), .w (sl 3 Entry.c ((((settle n i).1).log).entries)) (g9 0 8), I (((settle n i).1).commit), I (((settle n i).1).clock), I (((settle n i).1).limit), .w (sl 1 cI (((settle n i).1).votes)) (g9 0 12), .w (sl 4 Peer.c (((settle n i).1).peers)) (g9 0 13)]), (65, Bo v20)]) (fun v20 => v20 = ((decide (((mkVNode n 1).2) < 0) || (!(eqNode ((settle n i).1) ((settle n i).1)))) || (!(((settle n i).2) == ((settle n i).2))))) ?_ ?_
      ·refine CW.region ?_
       refine RW.v rfl (V.mv (d := I ((mkVNode n 1).2)) rfl rfl) ?_
       refine RW.v rfl (V.cmpInt rfl rfl rfl rfl) ?_
       refine RW.v rfl (V.mv (d := Bo (decide (((mkVNode n 1).2) < 0))) rfl rfl) ?_
       refine RW.gv rfl rfl rfl rfl (fun h21 => V.loadAgg rfl rfl rfl rfl rfl (Nat.le_of_ble_eq_true rfl)) (fun h21 => ?_) (fun h21 => ?_)
       ·skip
        refine RW.gt rfl rfl rfl rfl (V.loadAgg rfl rfl rfl rfl rfl (Nat.le_of_ble_eq_true rfl)) ?_
        refine RW.gcallOwn rfl rfl rfl rfl (laws_eqNode_fn ((settle n i).1) ((settle n i).1)) rfl (.cons (.agg (.cons (.r .r) (.cons (.r .r) (.cons (.r .r) (.cons (.r .r) (.cons (.r .r) (.cons (.r (.alo (k := none) (i := 9) (j := 5) (sz := 1) (V := (g9 0 5)) rfl rfl rfl nofun)) (.cons (.r .r) (.cons (.r .r) (.cons (.r (.alo (k := none) (i := 9) (j := 8) (sz := 3) (V := (g9 0 8)) rfl rfl rfl nofun)) (.cons (.r .r) (.cons (.r .r) (.cons (.r .r) (.cons (.r (.alo (k := none) (i := 9) (j := 12) (sz := 1) (V := (g9 0 12)) rfl rfl rfl nofun)) (.cons (.r (.alo (k := none) (i := 9) (j := 13) (sz := 4) (V := (g9 0 13)) rfl rfl rfl nofun)) (.nil)))))))))))))))) (.cons (.agg (.cons (.r .r) (.cons (.r .r) (.cons (.r .r) (.cons (.r .r) (.cons (.r .r) (.cons (.r (.alo (k := none) (i := 6) (j := 5) (sz := 1) (V := (g5 0 5)) rfl rfl rfl nofun)) (.cons (.r .r) (.cons (.r .r) (.cons (.r (.alo (k := none) (i := 6) (j := 8) (sz := 3) (V := (g5 0 8)) rfl rfl rfl nofun)) (.cons (.r .r) (.cons (.r .r) (.cons (.r .r) (.cons (.r (.alo (k := none) (i := 6) (j := 12) (sz := 1) (V := (g5 0 12)) rfl rfl rfl nofun)) (.cons (.r (.alo (k := none) (i := 6) (j := 13) (sz := 4) (V := (g5 0 13)) rfl rfl rfl nofun)) (.nil)))))))))))))))) (.nil))) rfl fun g22 => ?_
        refine RW.gt rfl rfl rfl rfl (V.not rfl rfl) ?_
        refine RW.v rfl (V.pickF (d := Bo (!(eqNode ((settle n i).1) ((settle n i).1)))) rfl rfl rfl) ?_
        refine RW.v rfl (V.mv (d := Bo (!(eqNode ((settle n i).1) ((settle n i).1)))) rfl rfl) ?_
        refine RW.gv rfl rfl rfl rfl (fun h23 => V.mv (d := Bo ((settle n i).2)) rfl rfl) (fun h23 => ?_) (fun h23 => ?_)
        ·skip
         refine RW.gt rfl rfl rfl rfl (V.mv (d := Bo ((settle n i).2)) rfl rfl) ?_
         refine RW.gt rfl rfl rfl rfl (V.eqBool rfl rfl rfl (by kernel_rfl) (.inr ⟨rfl, rfl⟩)) ?_
         refine RW.v rfl (V.pickF (d := Bo (!(((settle n i).2) == ((settle n i).2)))) rfl rfl rfl) ?_
         refine RW.nil ?_
         exact ⟨_, by first | rfl | (simp_all; done) | (simp_all; omega) | grind, rfl, Le.c rfl <| Le.c rfl <| Le.c rfl <| Le.c rfl <| Le.c rfl <| Le.c rfl <| Le.e⟩
        ·skip
         refine RW.guardF rfl rfl rfl rfl ?_
         refine RW.guardF rfl rfl rfl rfl ?_
         refine RW.v rfl (V.pickT (d := Bo true) rfl rfl rfl) ?_
         refine RW.nil ?_
         exact ⟨_, by first | rfl | (simp_all; done) | (simp_all; omega) | grind, rfl, Le.c rfl <| Le.c rfl <| Le.c rfl <| Le.c rfl <| Le.c rfl <| Le.c rfl <| Le.e⟩
       ·skip
        refine RW.guardF rfl rfl rfl rfl ?_
        refine RW.guardF rfl rfl rfl rfl ?_
        refine RW.guardF rfl rfl rfl rfl ?_
        refine RW.v rfl (V.pickT (d := Bo true) rfl rfl rfl) ?_
        refine RW.v rfl (V.mv (d := Bo true) rfl rfl) ?_
        refine RW.guardF rfl rfl rfl rfl ?_
        refine RW.guardF rfl rfl rfl rfl ?_
        refine RW.guardF rfl rfl rfl rfl ?_
        refine RW.v rfl (V.pickT (d := Bo true) rfl rfl rfl) ?_
        refine RW.nil ?_
        exact ⟨_, by first | rfl | (simp_all; done) | (simp_all; omega) | grind, rfl, Le.c rfl <| Le.c rfl <| Le.c rfl <| Le.c rfl <| Le.c rfl <| Le.c rfl <| Le.e⟩
      ·intro v20 hv24
       refine CW.cond rfl (fun h25 => ?_) (fun h25 => ?_)
       ·skip
        refine CW.seq ?_
        refine CW.region ?_
        refine RW.v rfl (V.as (d := Bo false) rfl rfl) ?_
        refine RW.nil ?_
        refine CW.le [(4, Bo false)] rfl (Le.of rfl) ?_
        refine CW.ret ?_
        exact Post.one (RV.b rfl (by first | rfl | (exfalso; have p0 := mkVNode_facts (hP); have p1 := mkVNode_facts (okSettle hP i); simp_all [eqNode_refl]; done) | (exfalso; have p0 := mkVNode_facts (hP); have p1 := mkVNode_facts (okSettle hP i); simp_all [eqNode_refl]; omega))) (AOs.a rfl (AOs.r AOs.e))
       ·skip
        refine CW.skip ?_
        refine CW.le [(1, I i), (2, .obj b1 ((Node.c n).map .r)), (6, .obj b6 [I (((settle n i).1).id), I (((settle n i).1).term_), I (((settle n i).1).vote), I (((settle n i).1).role), I (((settle n i).1).lead), .w (sl 1 cI (((settle n i).1).conf)) (g5 0 5), I ((((settle n i).1).log).start), I ((((settle n i).1).log).startTerm), .w (sl 3 Entry.c ((((settle n i).1).log).entries)) (g5 0 8), I (((settle n i).1).commit), I (((settle n i).1).clock), I (((settle n i).1).limit), .w (sl 1 cI (((settle n i).1).votes)) (g5 0 12), .w (sl 4 Peer.c (((settle n i).1).peers)) (g5 0 13)]), (7, Bo ((settle n i).2)), (9, .obj b10 [I (((settle n i).1).id), I (((settle n i).1).term_), I (((settle n i).1).vote), I (((settle n i).1).role), I (((settle n i).1).lead), .w (sl 1 cI (((settle n i).1).conf)) (g9 0 5), I ((((settle n i).1).log).start), I ((((settle n i).1).log).startTerm), .w (sl 3 Entry.c ((((settle n i).1).log).entries)) (g9 0 8), I (((settle n i).1).commit), I (((settle n i).1).clock), I (((settle n i).1).limit), .w (sl 1 cI (((settle n i).1).votes)) (g9 0 12), .w (sl 4 Peer.c (((settle n i).1).peers)) (g9 0 13)])] rfl (Le.of rfl) ?_
        refine CW.seq ?_
        refine CW.region ?_
        refine RW.v rfl (V.as (d := I 1) rfl rfl) ?_
        refine RW.nil ?_
        refine CW.le [(1, I i), (2, .obj b1 ((Node.c n).map .r)), (6, .obj b6 [I (((settle n i).1).id), I (((settle n i).1).term_), I (((settle n i).1).vote), I (((settle n i).1).role), I (((settle n i).1).lead), .w (sl 1 cI (((settle n i).1).conf)) (g5 0 5), I ((((settle n i).1).log).start), I ((((settle n i).1).log).startTerm), .w (sl 3 Entry.c ((((settle n i).1).log).entries)) (g5 0 8), I (((settle n i).1).commit), I (((settle n i).1).clock), I (((settle n i).1).limit), .w (sl 1 cI (((settle n i).1).votes)) (g5 0 12), .w (sl 4 Peer.c (((settle n i).1).peers)) (g5 0 13)]), (7, Bo ((settle n i).2)), (9, .obj b10 [I (((settle n i).1).id), I (((settle n i).1).term_), I (((settle n i).1).vote), I (((settle n i).1).role), I (((settle n i).1).lead), .w (sl 1 cI (((settle n i).1).conf)) (g9 0 5), I ((((settle n i).1).log).start), I ((((settle n i).1).log).startTerm), .w (sl 3 Entry.c ((((settle n i).1).log).entries)) (g9 0 8), I (((settle n i).1).commit), I (((settle n i).1).clock), I (((settle n i).1).limit), .w (sl 1 cI (((settle n i).1).votes)) (g9 0 12), .w (sl 4 Peer.c (((settle n i).1).peers)) (g9 0 13)]), (12, I 1)] rfl (Le.of rfl) ?_
        refine CW.seq ?_
        refine CW.region ?_
        refine RW.v rfl (V.loadAgg rfl rfl rfl rfl rfl (Nat.le_of_ble_eq_true rfl)) ?_
        refine RW.v rfl (V.mv (d := I 1) rfl rfl) ?_
        refine RW.callW (k := 9) (laws_markNode_fn ((settle n i).1) 1 (by decide)) rfl rfl (Nat.le_of_ble_eq_true rfl) (by decide) (.here (AsW.aggO (Hand.v (Hand.v (Hand.v (Hand.v (Hand.v (Hand.w (Hand.v (Hand.v (Hand.w (Hand.v (Hand.v (Hand.v (Hand.w (Hand.w Hand.e))))))))))))))) (.cons (.one (.r .r)) (.nil))) rfl fun g26 q27 => ?_
        refine RW.v rfl (V.as (d := I ((mkVNode ((settle n i).1) 1).2)) rfl rfl) ?_
        refine RW.nil ?_
        refine CW.le [(1, I i), (2, .obj b1 ((Node.c n).map .r)), (6, .obj b6 [I (((settle n i).1).id), I (((settle n i).1).term_), I (((settle n i).1).vote), I (((settle n i).1).role), I (((settle n i).1).lead), .w (sl 1 cI (((settle n i).1).conf)) (g5 0 5), I ((((settle n i).1).log).start), I ((((settle n i).1).log).startTerm), .w (sl 3 Entry.c ((((settle n i).1).log).entries)) (g5 0 8), I (((settle n i).1).commit), I (((settle n i).1).clock), I (((settle n i).1).limit), .w (sl 1 cI (((settle n i).1).votes)) (g5 0 12), .w (sl 4 Peer.c (((settle n i).1).peers)) (g5 0 13)]), (7, Bo ((settle n i).2)), (9, .obj b10 [I (((mkVNode ((settle n i).1) 1).1).id), I (((mkVNode ((settle n i).1) 1).1).term_), I (((mkVNode ((settle n i).1) 1).1).vote), I (((mkVNode ((settle n i).1) 1).1).role), I (((mkVNode ((settle n i).1) 1).1).lead), .w (sl 1 cI (((mkVNode ((settle n i).1) 1).1).conf)) (g9 0 5), I ((((mkVNode ((settle n i).1) 1).1).log).start), I ((((mkVNode ((settle n i).1) 1).1).log).startTerm), .w (sl 3 Entry.c ((((mkVNode ((settle n i).1) 1).1).log).entries)) (g9 0 8), I (((mkVNode ((settle n i).1) 1).1).commit), I (((mkVNode ((settle n i).1) 1).1).clock), I (((mkVNode ((settle n i).1) 1).1).limit), .w (sl 1 cI (((mkVNode ((settle n i).1) 1).1).votes)) (g9 0 12), .w (sl 4 Peer.c (((mkVNode ((settle n i).1) 1).1).peers)) (g9 0 13)]), (12, I ((mkVNode ((settle n i).1) 1).2))] rfl (Le.of rfl) ?_
        refine CW.seq ?_
        refine CW.region ?_
        refine RW.v rfl (V.as (d := I 1) rfl rfl) ?_
        refine RW.nil ?_
        refine CW.le [(1, I i), (2, .obj b1 ((Node.c n).map .r)), (6, .obj b6 [I (((settle n i).1).id), I (((settle n i).1).term_), I (((settle n i).1).vote), I (((settle n i).1).role), I (((settle n i).1).lead), .w (sl 1 cI (((settle n i).1).conf)) (g5 0 5), I ((((settle n i).1).log).start), I ((((settle n i).1).log).startTerm), .w (sl 3 Entry.c ((((settle n i).1).log).entries)) (g5 0 8), I (((settle n i).1).commit), I (((settle n i).1).clock), I (((settle n i).1).limit), .w (sl 1 cI (((settle n i).1).votes)) (g5 0 12), .w (sl 4 Peer.c (((settle n i).1).peers)) (g5 0 13)]), (7, Bo ((settle n i).2)), (9, .obj b10 [I (((mkVNode ((settle n i).1) 1).1).id), I (((mkVNode ((settle n i).1) 1).1).term_), I (((mkVNode ((settle n i).1) 1).1).vote), I (((mkVNode ((settle n i).1) 1).1).role), I (((mkVNode ((settle n i).1) 1).1).lead), .w (sl 1 cI (((mkVNode ((settle n i).1) 1).1).conf)) (g9 0 5), I ((((mkVNode ((settle n i).1) 1).1).log).start), I ((((mkVNode ((settle n i).1) 1).1).log).startTerm), .w (sl 3 Entry.c ((((mkVNode ((settle n i).1) 1).1).log).entries)) (g9 0 8), I (((mkVNode ((settle n i).1) 1).1).commit), I (((mkVNode ((settle n i).1) 1).1).clock), I (((mkVNode ((settle n i).1) 1).1).limit), .w (sl 1 cI (((mkVNode ((settle n i).1) 1).1).votes)) (g9 0 12), .w (sl 4 Peer.c (((mkVNode ((settle n i).1) 1).1).peers)) (g9 0 13)]), (12, I ((mkVNode ((settle n i).1) 1).2)), (13, I 1)] rfl (Le.of rfl) ?_
        refine CW.seq ?_
        refine CW.region ?_
        refine RW.v rfl (V.loadAgg rfl rfl rfl rfl rfl (Nat.le_of_ble_eq_true rfl)) ?_
        refine RW.v rfl (V.mv (d := I 1) rfl rfl) ?_
        refine RW.callOwn rfl (laws_heldNode_fn ((mkVNode ((settle n i).1) 1).1) 1 (by decide)) rfl (.cons (.agg (.cons (.r .r) (.cons (.r .r) (.cons (.r .r) (.cons (.r .r) (.cons (.r .r) (.cons (.r (.alo (k := none) (i := 9) (j := 5) (sz := 1) (V := (g9 0 5)) rfl rfl rfl nofun)) (.cons (.r .r) (.cons (.r .r) (.cons (.r (.alo (k := none) (i := 9) (j := 8) (sz := 3) (V := (g9 0 8)) rfl rfl rfl nofun)) (.cons (.r .r) (.cons (.r .r) (.cons (.r .r) (.cons (.r (.alo (k := none) (i := 9) (j := 12) (sz := 1) (V := (g9 0 12)) rfl rfl rfl nofun)) (.cons (.r (.alo (k := none) (i := 9) (j := 13) (sz := 4) (V := (g9 0 13)) rfl rfl rfl nofun)) (.nil)))))))))))))))) (.cons (.one (.r .r)) (.nil))) rfl fun g28 => ?_
        refine RW.v rfl (V.as (d := I ((hdVNode ((mkVNode ((settle n i).1) 1).1) 1).getD (-1))) rfl rfl) ?_
        refine RW.nil ?_
        refine CW.le [(1, I i), (2, .obj b1 ((Node.c n).map .r)), (6, .obj b6 [I (((settle n i).1).id), I (((settle n i).1).term_), I (((settle n i).1).vote), I (((settle n i).1).role), I (((settle n i).1).lead), .w (sl 1 cI (((settle n i).1).conf)) (g5 0 5), I ((((settle n i).1).log).start), I ((((settle n i).1).log).startTerm), .w (sl 3 Entry.c ((((settle n i).1).log).entries)) (g5 0 8), I (((settle n i).1).commit), I (((settle n i).1).clock), I (((settle n i).1).limit), .w (sl 1 cI (((settle n i).1).votes)) (g5 0 12), .w (sl 4 Peer.c (((settle n i).1).peers)) (g5 0 13)]), (7, Bo ((settle n i).2)), (9, .obj b10 [I (((mkVNode ((settle n i).1) 1).1).id), I (((mkVNode ((settle n i).1) 1).1).term_), I (((mkVNode ((settle n i).1) 1).1).vote), I (((mkVNode ((settle n i).1) 1).1).role), I (((mkVNode ((settle n i).1) 1).1).lead), .w (sl 1 cI (((mkVNode ((settle n i).1) 1).1).conf)) (g9 0 5), I ((((mkVNode ((settle n i).1) 1).1).log).start), I ((((mkVNode ((settle n i).1) 1).1).log).startTerm), .w (sl 3 Entry.c ((((mkVNode ((settle n i).1) 1).1).log).entries)) (g9 0 8), I (((mkVNode ((settle n i).1) 1).1).commit), I (((mkVNode ((settle n i).1) 1).1).clock), I (((mkVNode ((settle n i).1) 1).1).limit), .w (sl 1 cI (((mkVNode ((settle n i).1) 1).1).votes)) (g9 0 12), .w (sl 4 Peer.c (((mkVNode ((settle n i).1) 1).1).peers)) (g9 0 13)]), (12, I ((mkVNode ((settle n i).1) 1).2)), (13, I ((hdVNode ((mkVNode ((settle n i).1) 1).1) 1).getD (-1)))] rfl (Le.of rfl) ?_
        refine CW.seq ?_
        refine CW.seq ?_
        refine CW.region ?_
        refine RW.v rfl (V.mv (d := I ((hdVNode ((mkVNode ((settle n i).1) 1).1) 1).getD (-1))) rfl rfl) ?_
        refine RW.v rfl (V.cmpInt rfl rfl rfl rfl) ?_
        refine RW.nil ?_
        refine CW.le [(1, I i), (2, .obj b1 ((Node.c n).map .r)), (6, .obj b6 [I (((settle n i).1).id), I (((settle n i).1).term_), I (((settle n i).1).vote), I (((settle n i).1).role), I (((settle n i).1).lead), .w (sl 1 cI (((settle n i).1).conf)) (g5 0 5), I ((((settle n i).1).log).start), I ((((settle n i).1).log).startTerm), .w (sl 3 Entry.c ((((settle n i).1).log).entries)) (g5 0 8), I (((settle n i).1).commit), I (((settle n i).1).clock), I (((settle n i).1).limit), .w (sl 1 cI (((settle n i).1).votes)) (g5 0 12), .w (sl 4 Peer.c (((settle n i).1).peers)) (g5 0 13)]), (7, Bo ((settle n i).2)), (9, .obj b10 [I (((mkVNode ((settle n i).1) 1).1).id), I (((mkVNode ((settle n i).1) 1).1).term_), I (((mkVNode ((settle n i).1) 1).1).vote), I (((mkVNode ((settle n i).1) 1).1).role), I (((mkVNode ((settle n i).1) 1).1).lead), .w (sl 1 cI (((mkVNode ((settle n i).1) 1).1).conf)) (g9 0 5), I ((((mkVNode ((settle n i).1) 1).1).log).start), I ((((mkVNode ((settle n i).1) 1).1).log).startTerm), .w (sl 3 Entry.c ((((mkVNode ((settle n i).1) 1).1).log).entries)) (g9 0 8), I (((mkVNode ((settle n i).1) 1).1).commit), I (((mkVNode ((settle n i).1) 1).1).clock), I (((mkVNode ((settle n i).1) 1).1).limit), .w (sl 1 cI (((mkVNode ((settle n i).1) 1).1).votes)) (g9 0 12), .w (sl 4 Peer.c (((mkVNode ((settle n i).1) 1).1).peers)) (g9 0 13)]), (12, I ((mkVNode ((settle n i).1) 1).2)), (13, I ((hdVNode ((mkVNode ((settle n i).1) 1).1) 1).getD (-1))), (73, Bo (decide (((hdVNode ((mkVNode ((settle n i).1) 1).1) 1).getD (-1)) < 0)))] rfl (Le.of rfl) ?_
        refine CW.cond rfl (fun h29 => ?_) (fun h29 => ?_)
        ·skip
         refine CW.seq ?_
         refine CW.region ?_
         refine RW.v rfl (V.as (d := Bo false) rfl rfl) ?_
         refine RW.nil ?_
         refine CW.le [(4, Bo false)] rfl (Le.of rfl) ?_
         refine CW.ret ?_
         exact Post.one (RV.b rfl (by first | rfl | (exfalso; have p0 := mkVNode_facts (hP); have p1 := mkVNode_facts (okSettle hP i); simp_all [eqNode_refl]; done) | (exfalso; have p0 := mkVNode_facts (hP); have p1 := mkVNode_facts (okSettle hP i); simp_all [eqNode_refl]; omega))) (AOs.a rfl (AOs.r AOs.e))
        ·skip
         refine CW.skip ?_
         refine CW.le [(1, I i), (2, .obj b1 ((Node.c n).map .r)), (6, .obj b6 [I (((settle n i).1).id), I (((settle n i).1).term_), I (((settle n i).1).vote), I (((settle n i).1).role), I (((settle n i).1).lead), .w (sl 1 cI (((settle n i).1).conf)) (g5 0 5), I ((((settle n i).1).log).start), I ((((settle n i).1).log).startTerm), .w (sl 3 Entry.c ((((settle n i).1).log).entries)) (g5 0 8), I (((settle n i).1).commit), I (((settle n i).1).clock), I (((settle n i).1).limit), .w (sl 1 cI (((settle n i).1).votes)) (g5 0 12), .w (sl 4 Peer.c (((settle n i).1).peers)) (g5 0 13)]), (7, Bo ((settle n i).2)), (9, .obj b10 [I (((mkVNode ((settle n i).1) 1).1).id), I (((mkVNode ((settle n i).1) 1).1).term_), I (((mkVNode ((settle n i).1) 1).1).vote), I (((mkVNode ((settle n i).1) 1).1).role), I (((mkVNode ((settle n i).1) 1).1).lead), .w (sl 1 cI (((mkVNode ((settle n i).1) 1).1).conf)) (g9 0 5), I ((((mkVNode ((settle n i).1) 1).1).log).start), I ((((mkVNode ((settle n i).1) 1).1).log).startTerm), .w (sl 3 Entry.c ((((mkVNode ((settle n i).1) 1).1).log).entries)) (g9 0 8), I (((mkVNode ((settle n i).1) 1).1).commit), I (((mkVNode ((settle n i).1) 1).1).clock), I (((mkVNode ((settle n i).1) 1).1).limit), .w (sl 1 cI (((mkVNode ((settle n i).1) 1).1).votes)) (g9 0 12), .w (sl 4 Peer.c (((mkVNode ((settle n i).1) 1).1).peers)) (g9 0 13)]), (12, I ((mkVNode ((settle n i).1) 1).2)), (13, I ((hdVNode ((mkVNode ((settle n i).1) 1).1) 1).getD (-1)))] rfl (Le.of rfl) ?_
         refine CW.seq ?_
         refine CW.seq ?_
         refine CW.region ?_
         refine RW.v rfl (V.mv (d := I ((hdVNode ((mkVNode ((settle n i).1) 1).1) 1).getD (-1))) rfl rfl) ?_
         refine RW.v rfl (V.mv (d := I ((mkVNode ((settle n i).1) 1).2)) rfl rfl) ?_
         refine RW.v rfl (V.cmpInt rfl rfl rfl rfl) ?_
         refine RW.nil ?_
         refine CW.le [(1, I i), (2, .obj b1 ((Node.c n).map .r)), (6, .obj b6 [I (((settle n i).1).id), I (((settle n i).1).term_), I (((settle n i).1).vote), I (((settle n i).1).role), I (((settle n i).1).lead), .w (sl 1 cI (((settle n i).1).conf)) (g5 0 5), I ((((settle n i).1).log).start), I ((((settle n i).1).log).startTerm), .w (sl 3 Entry.c ((((settle n i).1).log).entries)) (g5 0 8), I (((settle n i).1).commit), I (((settle n i).1).clock), I (((settle n i).1).limit), .w (sl 1 cI (((settle n i).1).votes)) (g5 0 12), .w (sl 4 Peer.c (((settle n i).1).peers)) (g5 0 13)]), (7, Bo ((settle n i).2)), (9, .obj b10 [I (((mkVNode ((settle n i).1) 1).1).id), I (((mkVNode ((settle n i).1) 1).1).term_), I (((mkVNode ((settle n i).1) 1).1).vote), I (((mkVNode ((settle n i).1) 1).1).role), I (((mkVNode ((settle n i).1) 1).1).lead), .w (sl 1 cI (((mkVNode ((settle n i).1) 1).1).conf)) (g9 0 5), I ((((mkVNode ((settle n i).1) 1).1).log).start), I ((((mkVNode ((settle n i).1) 1).1).log).startTerm), .w (sl 3 Entry.c ((((mkVNode ((settle n i).1) 1).1).log).entries)) (g9 0 8), I (((mkVNode ((settle n i).1) 1).1).commit), I (((mkVNode ((settle n i).1) 1).1).clock), I (((mkVNode ((settle n i).1) 1).1).limit), .w (sl 1 cI (((mkVNode ((settle n i).1) 1).1).votes)) (g9 0 12), .w (sl 4 Peer.c (((mkVNode ((settle n i).1) 1).1).peers)) (g9 0 13)]), (12, I ((mkVNode ((settle n i).1) 1).2)), (76, Bo (((hdVNode ((mkVNode ((settle n i).1) 1).1) 1).getD (-1)) != ((mkVNode ((settle n i).1) 1).2)))] rfl (Le.of rfl) ?_
         refine CW.cond rfl (fun h30 => ?_) (fun h30 => ?_)
         ·skip
          refine CW.seq ?_
          refine CW.region ?_
          refine RW.v rfl (V.as (d := Bo false) rfl rfl) ?_
          refine RW.nil ?_
          refine CW.le [(4, Bo false)] rfl (Le.of rfl) ?_
          refine CW.ret ?_
          exact Post.one (RV.b rfl (by first | rfl | (exfalso; have p0 := mkVNode_facts (hP); have p1 := mkVNode_facts (okSettle hP i); simp_all [eqNode_refl]; done) | (exfalso; have p0 := mkVNode_facts (hP); have p1 := mkVNode_facts (okSettle hP i); simp_all [eqNode_refl]; omega))) (AOs.a rfl (AOs.r AOs.e))
         ·skip
          refine CW.skip ?_
          refine CW.le [(1, I i), (2, .obj b1 ((Node.c n).map .r)), (6, .obj b6 [I (((settle n i).1).id), I (((settle n i).1).term_), I (((settle n i).1).vote), I (((settle n i).1).role), I (((settle n i).1).lead), .w (sl 1 cI (((settle n i).1).conf)) (g5 0 5), I ((((settle n i).1).log).start), I ((((settle n i).1).log).startTerm), .w (sl 3 Entry.c ((((settle n i).1).log).entries)) (g5 0 8), I (((settle n i).1).commit), I (((settle n i).1).clock), I (((settle n i).1).limit), .w (sl 1 cI (((settle n i).1).votes)) (g5 0 12), .w (sl 4 Peer.c (((settle n i).1).peers)) (g5 0 13)]), (7, Bo ((settle n i).2)), (9, .obj b10 [I (((mkVNode ((settle n i).1) 1).1).id), I (((mkVNode ((settle n i).1) 1).1).term_), I (((mkVNode ((settle n i).1) 1).1).vote), I (((mkVNode ((settle n i).1) 1).1).role), I (((mkVNode ((settle n i).1) 1).1).lead), .w (sl 1 cI (((mkVNode ((settle n i).1) 1).1).conf)) (g9 0 5), I ((((mkVNode ((settle n i).1) 1).1).log).start), I ((((mkVNode ((settle n i).1) 1).1).log).startTerm), .w (sl 3 Entry.c ((((mkVNode ((settle n i).1) 1).1).log).entries)) (g9 0 8), I (((mkVNode ((settle n i).1) 1).1).commit), I (((mkVNode ((settle n i).1) 1).1).clock), I (((mkVNode ((settle n i).1) 1).1).limit), .w (sl 1 cI (((mkVNode ((settle n i).1) 1).1).votes)) (g9 0 12), .w (sl 4 Peer.c (((mkVNode ((settle n i).1) 1).1).peers)) (g9 0 13)]), (12, I ((mkVNode ((settle n i).1) 1).2))] rfl (Le.of rfl) ?_
          refine CW.seq ?_
          refine CW.region ?_
          refine RW.v rfl (V.loadAgg rfl rfl rfl rfl rfl (Nat.le_of_ble_eq_true rfl)) ?_
          refine RW.call rfl (laws_toNode_fn n hP) rfl (.cons (.agg (.cons (.r .r) (.cons (.r .r) (.cons (.r .r) (.cons (.r .r) (.cons (.r .r) (.cons (.r .r) (.cons (.r .r) (.cons (.r .r) (.cons (.r .r) (.cons (.r .r) (.cons (.r .r) (.cons (.r .r) (.cons (.r .r) (.cons (.r .r) (.nil)))))))))))))))) (.nil)) fun g31 => ?_
          refine RW.v rfl (V.mv (d := I i) rfl rfl) ?_
          refine RW.callOwn rfl (impl_Settle_fn n i hP) rfl (.cons (.agg (.cons (.r .r) (.cons (.r .r) (.cons (.r .r) (.cons (.r .r) (.cons (.r .r) (.cons (.r (.ala (k := none) (i := 79) (j := 5) (sz := 1) (V := (g31 0 5)) rfl rfl rfl nofun)) (.cons (.r .r) (.cons (.r .r) (.cons (.r (.ala (k := none) (i := 79) (j := 8) (sz := 3) (V := (g31 0 8)) rfl rfl rfl nofun)) (.cons (.r .r) (.cons (.r .r) (.cons (.r .r) (.cons (.r (.ala (k := none) (i := 79) (j := 12) (sz := 1) (V := (g31 0 12)) rfl rfl rfl nofun)) (.cons (.r (.ala (k := none) (i := 79) (j := 13) (sz := 4) (V := (g31 0 13)) rfl rfl rfl nofun)) (.nil)))))))))))))))) (.cons (.one (.r .r)) (.nil))) rfl fun g32 => ?_
          refine RW.moveMove rfl rfl rfl (by decide) (Nat.le_of_ble_eq_true rfl) (Nat.le_of_ble_eq_true rfl) ?_
          refine RW.extract (d := .agg [I (((settle n i).1).id), I (((settle n i).1).term_), I (((settle n i).1).vote), I (((settle n i).1).role), I (((settle n i).1).lead), .w (sl 1 cI (((settle n i).1).conf)) (g32 0 5), I ((((settle n i).1).log).start), I ((((settle n i).1).log).startTerm), .w (sl 3 Entry.c ((((settle n i).1).log).entries)) (g32 0 8), I (((settle n i).1).commit), I (((settle n i).1).clock), I (((settle n i).1).limit), .w (sl 1 cI (((settle n i).1).votes)) (g32 0 12), .w (sl 4 Peer.c (((settle n i).1).peers)) (g32 0 13)]) rfl rfl rfl (by decide) (Nat.le_of_ble_eq_true rfl) rfl rfl ?_
          refine RW.extract (d := Bo ((settle n i).2)) rfl rfl rfl (by decide) (Nat.le_of_ble_eq_true rfl) rfl rfl ?_
          refine RW.alloc (ds := [I 0, I 0, I 0, I 0, I 0, .r (.v (.slice none 0 0)), I 0, I 0, .r (.v (.slice none 0 0)), I 0, I 0, I 0, .r (.v (.slice none 0 0)), .r (.v (.slice none 0 0))]) rfl rfl rfl rfl fun b33 => ?_
          refine RW.storeAgg (es := [I (((settle n i).1).id), I (((settle n i).1).term_), I (((settle n i).1).vote), I (((settle n i).1).role), I (((settle n i).1).lead), .al 82 (some 5) 1 ((((settle n i).1).conf).length) (g32 0 5) 0, I ((((settle n i).1).log).start), I ((((settle n i).1).log).startTerm), .al 82 (some 8) 3 (((((settle n i).1).log).entries).length) (g32 0 8) 0, I (((settle n i).1).commit), I (((settle n i).1).clock), I (((settle n i).1).limit), .al 82 (some 12) 1 ((((settle n i).1).votes).length) (g32 0 12) 0, .al 82 (some 13) 4 ((((settle n i).1).peers).length) (g32 0 13) 0]) rfl rfl rfl rfl rfl rfl rfl rfl (Nat.le_of_ble_eq_true rfl) rfl ?_
          refine RW.le [(6, .obj b6 [I (((settle n i).1).id), I (((settle n i).1).term_), I (((settle n i).1).vote), I (((settle n i).1).role), I (((settle n i).1).lead), .w (sl 1 cI (((settle n i).1).conf)) (g5 0 5), I ((((settle n i).1).log).start), I ((((settle n i).1).log).startTerm), .w (sl 3 Entry.c ((((settle n i).1).log).entries)) (g5 0 8), I (((settle n i).1).commit), I (((settle n i).1).clock), I (((settle n i).1).limit), .w (sl 1 cI (((settle n i).1).votes)) (g5 0 12), .w (sl 4 Peer.c (((settle n i).1).peers)) (g5 0 13)]), (7, Bo ((settle n i).2)), (9, .obj b10 [I (((mkVNode ((settle n i).1) 1).1).id), I (((mkVNode ((settle n i).1) 1).1).term_), I (((mkVNode ((settle n i).1) 1).1).vote), I (((mkVNode ((settle n i).1) 1).1).role), I (((mkVNode ((settle n i).1) 1).1).lead), .w (sl 1 cI (((mkVNode ((settle n i).1) 1).1).conf)) (g9 0 5), I ((((mkVNode ((settle n i).1) 1).1).log).start), I ((((mkVNode ((settle n i).1) 1).1).log).startTerm), .w (sl 3 Entry.c ((((mkVNode ((settle n i).1) 1).1).log).entries)) (g9 0 8), I (((mkVNode ((settle n i).1) 1).1).commit), I (((mkVNode ((settle n i).1) 1).1).clock), I (((mkVNode ((settle n i).1) 1).1).limit), .w (sl 1 cI (((mkVNode ((settle n i).1) 1).1).votes)) (g9 0 12), .w (sl 4 Peer.c (((mkVNode ((settle n i).1) 1).1).peers)) (g9 0 13)]), (12, I ((mkVNode ((settle n i).1) 1).2)), (14, .obj b33 [I (((settle n i).1).id), I (((settle n i).1).term_), I (((settle n i).1).vote), I (((settle n i).1).role), I (((settle n i).1).lead), .al 82 (some 5) 1 ((((settle n i).1).conf).length) (g32 0 5) 0, I ((((settle n i).1).log).start), I ((((settle n i).1).log).startTerm), .al 82 (some 8) 3 (((((settle n i).1).log).entries).length) (g32 0 8) 0, I (((settle n i).1).commit), I (((settle n i).1).clock), I (((settle n i).1).limit), .al 82 (some 12) 1 ((((settle n i).1).votes).length) (g32 0 12) 0, .al 82 (some 13) 4 ((((settle n i).1).peers).length) (g32 0 13) 0]), (82, .agg [I (((settle n i).1).id), I (((settle n i).1).term_), I (((settle n i).1).vote), I (((settle n i).1).role), I (((settle n i).1).lead), .w (sl 1 cI (((settle n i).1).conf)) (g32 0 5), I ((((settle n i).1).log).start), I ((((settle n i).1).log).startTerm), .w (sl 3 Entry.c ((((settle n i).1).log).entries)) (g32 0 8), I (((settle n i).1).commit), I (((settle n i).1).clock), I (((settle n i).1).limit), .w (sl 1 cI (((settle n i).1).votes)) (g32 0 12), .w (sl 4 Peer.c (((settle n i).1).peers)) (g32 0 13)]), (83, Bo ((settle n i).2))] rfl (Le.of rfl) ?_
          refine RW.pullA (k := 14) (l := 82) (j := 5) 14 82 5 rfl rfl rfl (by decide) rfl rfl rfl rfl ?_
          refine RW.le [(6, .obj b6 [I (((settle n i).1).id), I (((settle n i).1).term_), I (((settle n i).1).vote), I (((settle n i).1).role), I (((settle n i).1).lead), .w (sl 1 cI (((settle n i).1).conf)) (g5 0 5), I ((((settle n i).1).log).start), I ((((settle n i).1).log).startTerm), .w (sl 3 Entry.c ((((settle n i).1).log).entries)) (g5 0 8), I (((settle n i).1).commit), I (((settle n i).1).clock), I (((settle n i).1).limit), .w (sl 1 cI (((settle n i).1).votes)) (g5 0 12), .w (sl 4 Peer.c (((settle n i).1).peers)) (g5 0 13)]), (7, Bo ((settle n i).2)), (9, .obj b10 [I (((mkVNode ((settle n i).1) 1).1).id), I (((mkVNode ((settle n i).1) 1).1).term_), I (((mkVNode ((settle n i).1) 1).1).vote), I (((mkVNode ((settle n i).1) 1).1).role), I (((mkVNode ((settle n i).1) 1).1).lead), .w (sl 1 cI (((mkVNode ((settle n i).1) 1).1).conf)) (g9 0 5), I ((((mkVNode ((settle n i).1) 1).1).log).start), I ((((mkVNode ((settle n i).1) 1).1).log).startTerm), .w (sl 3 Entry.c ((((mkVNode ((settle n i).1) 1).1).log).entries)) (g9 0 8), I (((mkVNode ((settle n i).1) 1).1).commit), I (((mkVNode ((settle n i).1) 1).1).clock), I (((mkVNode ((settle n i).1) 1).1).limit), .w (sl 1 cI (((mkVNode ((settle n i).1) 1).1).votes)) (g9 0 12), .w (sl 4 Peer.c (((mkVNode ((settle n i).1) 1).1).peers)) (g9 0 13)]), (12, I ((mkVNode ((settle n i).1) 1).2)), (14, .obj b33 [I (((settle n i).1).id), I (((settle n i).1).term_), I (((settle n i).1).vote), I (((settle n i).1).role), I (((settle n i).1).lead), .w (sl 1 cI (((settle n i).1).conf)) (g32 0 5), I ((((settle n i).1).log).start), I ((((settle n i).1).log).startTerm), .al 82 (some 8) 3 (((((settle n i).1).log).entries).length) (g32 0 8) 0, I (((settle n i).1).commit), I (((settle n i).1).clock), I (((settle n i).1).limit), .al 82 (some 12) 1 ((((settle n i).1).votes).length) (g32 0 12) 0, .al 82 (some 13) 4 ((((settle n i).1).peers).length) (g32 0 13) 0]), (82, .agg [I (((settle n i).1).id), I (((settle n i).1).term_), I (((settle n i).1).vote), I (((settle n i).1).role), I (((settle n i).1).lead), .u, I ((((settle n i).1).log).start), I ((((settle n i).1).log).startTerm), .w (sl 3 Entry.c ((((settle n i).1).log).entries)) (g32 0 8), I (((settle n i).1).commit), I (((settle n i).1).clock), I (((settle n i).1).limit), .w (sl 1 cI (((settle n i).1).votes)) (g32 0 12), .w (sl 4 Peer.c (((settle n i).1).peers)) (g32 0 13)]), (83, Bo ((settle n i).2))] rfl (Le.of rfl) ?_
          refine RW.pullA (k := 14) (l := 82) (j := 8) 14 82 8 rfl rfl rfl (by decide) rfl rfl rfl rfl ?_
          refine RW.le [(6, .obj b6 [I (((settle n i).1).id), I (((settle n i).1).term_), I (((settle n i).1).vote), I (((settle n i).1).role), I (((settle n i).1).lead), .w (sl 1 cI (((settle n i).1).conf)) (g5 0 5), I ((((settle n i).1).log).start), I ((((settle n i).1).log).startTerm), .w (sl 3 Entry.c ((((settle n i).1).log).entries)) (g5 0 8), I (((settle n i).1).commit), I (((settle n i).1).clock), I (((settle n i).1).limit), .w (sl 1 cI (((settle n i).1).votes)) (g5 0 12), .w (sl 4 Peer.c (((settle n i).1).peers)) (g5 0 13)]), (7, Bo ((settle n i).2)), (9, .obj b10 [I (((mkVNode ((settle n i).1) 1).1).id), I (((mkVNode ((settle n i).1) 1).1).term_), I (((mkVNode ((settle n i).1) 1).1).vote), I (((mkVNode ((settle n i).1) 1).1).role), I (((mkVNode ((settle n i).1) 1).1).lead), .w (sl 1 cI (((mkVNode ((settle n i).1) 1).1).conf)) (g9 0 5), I ((((mkVNode ((settle n i).1) 1).1).log).start), I ((((mkVNode ((settle n i).1) 1).1).log).startTerm), .w (sl 3 Entry.c ((((mkVNode ((settle n i).1) 1).1).log).entries)) (g9 0 8), I (((mkVNode ((settle n i).1) 1).1).commit), I (((mkVNode ((settle n i).1) 1).1).clock), I (((mkVNode ((settle n i).1) 1).1).limit), .w (sl 1 cI (((mkVNode ((settle n i).1) 1).1).votes)) (g9 0 12), .w (sl 4 Peer.c (((mkVNode ((settle n i).1) 1).1).peers)) (g9 0 13)]), (12, I ((mkVNode ((settle n i).1) 1).2)), (14, .obj b33 [I (((settle n i).1).id), I (((settle n i).1).term_), I (((settle n i).1).vote), I (((settle n i).1).role), I (((settle n i).1).lead), .w (sl 1 cI (((settle n i).1).conf)) (g32 0 5), I ((((settle n i).1).log).start), I ((((settle n i).1).log).startTerm), .w (sl 3 Entry.c ((((settle n i).1).log).entries)) (g32 0 8), I (((settle n i).1).commit), I (((settle n i).1).clock), I (((settle n i).1).limit), .al 82 (some 12) 1 ((((settle n i).1).votes).length) (g32 0 12) 0, .al 82 (some 13) 4 ((((settle n i).1).peers).length) (g32 0 13) 0]), (82, .agg [I (((settle n i).1).id), I (((settle n i).1).term_), I (((settle n i).1).vote), I (((settle n i).1).role), I (((settle n i).1).lead), .u, I ((((settle n i).1).log).start), I ((((settle n i).1).log).startTerm), .u, I (((settle n i).1).commit), I (((settle n i).1).clock), I (((settle n i).1).limit), .w (sl 1 cI (((settle n i).1).votes)) (g32 0 12), .w (sl 4 Peer.c (((settle n i).1).peers)) (g32 0 13)]), (83, Bo ((settle n i).2))] rfl (Le.of rfl) ?_
          refine RW.pullA (k := 14) (l := 82) (j := 12) 14 82 12 rfl rfl rfl (by decide) rfl rfl rfl rfl ?_
          refine RW.le [(6, .obj b6 [I (((settle n i).1).id), I (((settle n i).1).term_), I (((settle n i).1).vote), I (((settle n i).1).role), I (((settle n i).1).lead), .w (sl 1 cI (((settle n i).1).conf)) (g5 0 5), I ((((settle n i).1).log).start), I ((((settle n i).1).log).startTerm), .w (sl 3 Entry.c ((((settle n i).1).log).entries)) (g5 0 8), I (((settle n i).1).commit), I (((settle n i).1).clock), I (((settle n i).1).limit), .w (sl 1 cI (((settle n i).1).votes)) (g5 0 12), .w (sl 4 Peer.c (((settle n i).1).peers)) (g5 0 13)]), (7, Bo ((settle n i).2)), (9, .obj b10 [I (((mkVNode ((settle n i).1) 1).1).id), I (((mkVNode ((settle n i).1) 1).1).term_), I (((mkVNode ((settle n i).1) 1).1).vote), I (((mkVNode ((settle n i).1) 1).1).role), I (((mkVNode ((settle n i).1) 1).1).lead), .w (sl 1 cI (((mkVNode ((settle n i).1) 1).1).conf)) (g9 0 5), I ((((mkVNode ((settle n i).1) 1).1).log).start), I ((((mkVNode ((settle n i).1) 1).1).log).startTerm), .w (sl 3 Entry.c ((((mkVNode ((settle n i).1) 1).1).log).entries)) (g9 0 8), I (((mkVNode ((settle n i).1) 1).1).commit), I (((mkVNode ((settle n i).1) 1).1).clock), I (((mkVNode ((settle n i).1) 1).1).limit), .w (sl 1 cI (((mkVNode ((settle n i).1) 1).1).votes)) (g9 0 12), .w (sl 4 Peer.c (((mkVNode ((settle n i).1) 1).1).peers)) (g9 0 13)]), (12, I ((mkVNode ((settle n i).1) 1).2)), (14, .obj b33 [I (((settle n i).1).id), I (((settle n i).1).term_), I (((settle n i).1).vote), I (((settle n i).1).role), I (((settle n i).1).lead), .w (sl 1 cI (((settle n i).1).conf)) (g32 0 5), I ((((settle n i).1).log).start), I ((((settle n i).1).log).startTerm), .w (sl 3 Entry.c ((((settle n i).1).log).entries)) (g32 0 8), I (((settle n i).1).commit), I (((settle n i).1).clock), I (((settle n i).1).limit), .w (sl 1 cI (((settle n i).1).votes)) (g32 0 12), .al 82 (some 13) 4 ((((settle n i).1).peers).length) (g32 0 13) 0]), (82, .agg [I (((settle n i).1).id), I (((settle n i).1).term_), I (((settle n i).1).vote), I (((settle n i).1).role), I (((settle n i).1).lead), .u, I ((((settle n i).1).log).start), I ((((settle n i).1).log).startTerm), .u, I (((settle n i).1).commit), I (((settle n i).1).clock), I (((settle n i).1).limit), .u, .w (sl 4 Peer.c (((settle n i).1).peers)) (g32 0 13)]), (83, Bo ((settle n i).2))] rfl (Le.of rfl) ?_
          refine RW.pullA (k := 14) (l := 82) (j := 13) 14 82 13 rfl rfl rfl (by decide) rfl rfl rfl rfl ?_
          refine RW.le [(6, .obj b6 [I (((settle n i).1).id), I (((settle n i).1).term_), I (((settle n i).1).vote), I (((settle n i).1).role), I (((settle n i).1).lead), .w (sl 1 cI (((settle n i).1).conf)) (g5 0 5), I ((((settle n i).1).log).start), I ((((settle n i).1).log).startTerm), .w (sl 3 Entry.c ((((settle n i).1).log).entries)) (g5 0 8), I (((settle n i).1).commit), I (((settle n i).1).clock), I (((settle n i).1).limit), .w (sl 1 cI (((settle n i).1).votes)) (g5 0 12), .w (sl 4 Peer.c (((settle n i).1).peers)) (g5 0 13)]), (7, Bo ((settle n i).2)), (9, .obj b10 [I (((mkVNode ((settle n i).1) 1).1).id), I (((mkVNode ((settle n i).1) 1).1).term_), I (((mkVNode ((settle n i).1) 1).1).vote), I (((mkVNode ((settle n i).1) 1).1).role), I (((mkVNode ((settle n i).1) 1).1).lead), .w (sl 1 cI (((mkVNode ((settle n i).1) 1).1).conf)) (g9 0 5), I ((((mkVNode ((settle n i).1) 1).1).log).start), I ((((mkVNode ((settle n i).1) 1).1).log).startTerm), .w (sl 3 Entry.c ((((mkVNode ((settle n i).1) 1).1).log).entries)) (g9 0 8), I (((mkVNode ((settle n i).1) 1).1).commit), I (((mkVNode ((settle n i).1) 1).1).clock), I (((mkVNode ((settle n i).1) 1).1).limit), .w (sl 1 cI (((mkVNode ((settle n i).1) 1).1).votes)) (g9 0 12), .w (sl 4 Peer.c (((mkVNode ((settle n i).1) 1).1).peers)) (g9 0 13)]), (12, I ((mkVNode ((settle n i).1) 1).2)), (14, .obj b33 [I (((settle n i).1).id), I (((settle n i).1).term_), I (((settle n i).1).vote), I (((settle n i).1).role), I (((settle n i).1).lead), .w (sl 1 cI (((settle n i).1).conf)) (g32 0 5), I ((((settle n i).1).log).start), I ((((settle n i).1).log).startTerm), .w (sl 3 Entry.c ((((settle n i).1).log).entries)) (g32 0 8), I (((settle n i).1).commit), I (((settle n i).1).clock), I (((settle n i).1).limit), .w (sl 1 cI (((settle n i).1).votes)) (g32 0 12), .w (sl 4 Peer.c (((settle n i).1).peers)) (g32 0 13)]), (83, Bo ((settle n i).2))] rfl (Le.of rfl) ?_
          refine RW.v rfl (V.as (d := Bo ((settle n i).2)) rfl rfl) ?_
          refine RW.nil ?_
          refine CW.le [(6, .obj b6 [I (((settle n i).1).id), I (((settle n i).1).term_), I (((settle n i).1).vote), I (((settle n i).1).role), I (((settle n i).1).lead), .w (sl 1 cI (((settle n i).1).conf)) (g5 0 5), I ((((settle n i).1).log).start), I ((((settle n i).1).log).startTerm), .w (sl 3 Entry.c ((((settle n i).1).log).entries)) (g5 0 8), I (((settle n i).1).commit), I (((settle n i).1).clock), I (((settle n i).1).limit), .w (sl 1 cI (((settle n i).1).votes)) (g5 0 12), .w (sl 4 Peer.c (((settle n i).1).peers)) (g5 0 13)]), (7, Bo ((settle n i).2)), (9, .obj b10 [I (((mkVNode ((settle n i).1) 1).1).id), I (((mkVNode ((settle n i).1) 1).1).term_), I (((mkVNode ((settle n i).1) 1).1).vote), I (((mkVNode ((settle n i).1) 1).1).role), I (((mkVNode ((settle n i).1) 1).1).lead), .w (sl 1 cI (((mkVNode ((settle n i).1) 1).1).conf)) (g9 0 5), I ((((mkVNode ((settle n i).1) 1).1).log).start), I ((((mkVNode ((settle n i).1) 1).1).log).startTerm), .w (sl 3 Entry.c ((((mkVNode ((settle n i).1) 1).1).log).entries)) (g9 0 8), I (((mkVNode ((settle n i).1) 1).1).commit), I (((mkVNode ((settle n i).1) 1).1).clock), I (((mkVNode ((settle n i).1) 1).1).limit), .w (sl 1 cI (((mkVNode ((settle n i).1) 1).1).votes)) (g9 0 12), .w (sl 4 Peer.c (((mkVNode ((settle n i).1) 1).1).peers)) (g9 0 13)]), (12, I ((mkVNode ((settle n i).1) 1).2)), (14, .obj b33 [I (((settle n i).1).id), I (((settle n i).1).term_), I (((settle n i).1).vote), I (((settle n i).1).role), I (((settle n i).1).lead), .w (sl 1 cI (((settle n i).1).conf)) (g32 0 5), I ((((settle n i).1).log).start), I ((((settle n i).1).log).startTerm), .w (sl 3 Entry.c ((((settle n i).1).log).entries)) (g32 0 8), I (((settle n i).1).commit), I (((settle n i).1).clock), I (((settle n i).1).limit), .w (sl 1 cI (((settle n i).1).votes)) (g32 0 12), .w (sl 4 Peer.c (((settle n i).1).peers)) (g32 0 13)]), (15, Bo ((settle n i).2))] rfl (Le.of rfl) ?_
          refine CW.seq ?_
          refine CW.seqJ 101 (fun (v34 : Bool) => [(9, .obj b10 [I (((mkVNode ((settle n i).1) 1).1).id), I (((mkVNode ((settle n i).1) 1).1).term_), I (((mkVNode ((settle n i).1) 1).1).vote), I (((mkVNode ((settle n i).1) 1).1).role), I (((mkVNode ((settle n i).1) 1).1).lead), .w (sl 1 cI (((mkVNode ((settle n i).1) 1).1).conf)) (g9 0 5), I ((((mkVNode ((settle n i).1) 1).1).log).start), I ((((mkVNode ((settle n i).1) 1).1).log).startTerm), .w (sl 3 Entry.c ((((mkVNode ((settle n i).1) 1).1).log).entries)) (g9 0 8), I (((mkVNode ((settle n i).1) 1).1).commit), I (((mkVNode ((settle n i).1) 1).1).clock), I (((mkVNode ((settle n i).1) 1).1).limit), .w (sl 1 cI (((mkVNode ((settle n i).1) 1).1).votes)) (g9 0 12), .w (sl 4 Peer.c (((mkVNode ((settle n i).1) 1).1).peers)) (g9 0 13)]), (12, I ((mkVNode ((settle n i).1) 1).2)), (92, Bo v34)]) (fun v34 => v34 = ((!(eqNode ((settle n i).1) ((settle n i).1))) || (!(((settle n i).2) == ((settle n i).2))))) ?_ ?_
          ·refine CW.region ?_
           refine RW.v rfl (V.loadAgg rfl rfl rfl rfl rfl (Nat.le_of_ble_eq_true rfl)) ?_
           refine RW.v rfl (V.loadAgg rfl rfl rfl rfl rfl (Nat.le_of_ble_eq_true rfl)) ?_
           refine RW.callOwn rfl (laws_eqNode_fn ((settle n i).1) ((settle n i).1)) rfl (.cons (.agg (.cons (.r .r) (.cons (.r .r) (.cons (.r .r) (.cons (.r .r) (.cons (.r .r) (.cons (.r (.alo (k := none) (i := 14) (j := 5) (sz := 1) (V := (g32 0 5)) rfl rfl rfl nofun)) (.cons (.r .r) (.cons (.r .r) (.cons (.r (.alo (k := none) (i := 14) (j := 8) (sz := 3) (V := (g32 0 8)) rfl rfl rfl nofun)) (.cons (.r .r) (.cons (.r .r) (.cons (.r .r) (.cons (.r (.alo (k := none) (i := 14) (j := 12) (sz := 1) (V := (g32 0 12)) rfl rfl rfl nofun)) (.cons (.r (.alo (k := none) (i := 14) (j := 13) (sz := 4) (V := (g32 0 13)) rfl rfl rfl nofun)) (.nil)))))))))))))))) (.cons (.agg (.cons (.r .r) (.cons (.r .r) (.cons (.r .r) (.cons (.r .r) (.cons (.r .r) (.cons (.r (.alo (k := none) (i := 6) (j := 5) (sz := 1) (V := (g5 0 5)) rfl rfl rfl nofun)) (.cons (.r .r) (.cons (.r .r) (.cons (.r (.alo (k := none) (i := 6) (j := 8) (sz := 3) (V := (g5 0 8)) rfl rfl rfl nofun)) (.cons (.r .r) (.cons (.r .r) (.cons (.r .r) (.cons (.r (.alo (k := none) (i := 6) (j := 12) (sz := 1) (V := (g5 0 12)) rfl rfl rfl nofun)) (.cons (.r (.alo (k := none) (i := 6) (j := 13) (sz := 4) (V := (g5 0 13)) rfl rfl rfl nofun)) (.nil)))))))))))))))) (.nil))) rfl fun g35 => ?_
           refine RW.v rfl (V.not rfl rfl) ?_
           refine RW.v rfl (V.mv (d := Bo (!(eqNode ((settle n i).1) ((settle n i).1)))) rfl rfl) ?_
           refine RW.gv rfl rfl rfl rfl (fun h36 => V.mv (d := Bo ((settle n i).2)) rfl rfl) (fun h36 => ?_) (fun h36 => ?_)
           ·skip
            refine RW.gt rfl rfl rfl rfl (V.mv (d := Bo ((settle n i).2)) rfl rfl) ?_
            refine RW.gt rfl rfl rfl rfl (V.eqBool rfl rfl rfl (by kernel_rfl) (.inr ⟨rfl, rfl⟩)) ?_
            refine RW.v rfl (V.pickF (d := Bo (!(((settle n i).2) == ((settle n i).2)))) rfl rfl rfl) ?_
            refine RW.nil ?_
            exact ⟨_, by first | rfl | (simp_all; done) | (simp_all; omega) | grind, rfl, Le.c rfl <| Le.c rfl <| Le.c rfl <| Le.e⟩
           ·skip
            refine RW.guardF rfl rfl rfl rfl ?_
            refine RW.guardF rfl rfl rfl rfl ?_
            refine RW.v rfl (V.pickT (d := Bo true) rfl rfl rfl) ?_
            refine RW.nil ?_
            exact ⟨_, by first | rfl | (simp_all; done) | (simp_all; omega) | grind, rfl, Le.c rfl <| Le.c rfl <| Le.c rfl <| Le.e⟩
          ·intro v34 hv37
           refine CW.cond rfl (fun h38 => ?_) (fun h38 => ?_)
           ·skip
            refine CW.seq ?_
            refine CW.region ?_
            refine RW.v rfl (V.as (d := Bo false) rfl rfl) ?_
            refine RW.nil ?_
            refine CW.le [(4, Bo false)] rfl (Le.of rfl) ?_
            refine CW.ret ?_
            exact Post.one (RV.b rfl (by first | rfl | (exfalso; have p0 := mkVNode_facts (hP); have p1 := mkVNode_facts (okSettle hP i); simp_all [eqNode_refl]; done) | (exfalso; have p0 := mkVNode_facts (hP); have p1 := mkVNode_facts (okSettle hP i); simp_all [eqNode_refl]; omega))) (AOs.a rfl (AOs.r AOs.e))
           ·skip
            refine CW.skip ?_
            refine CW.le [(9, .obj b10 [I (((mkVNode ((settle n i).1) 1).1).id), I (((mkVNode ((settle n i).1) 1).1).term_), I (((mkVNode ((settle n i).1) 1).1).vote), I (((mkVNode ((settle n i).1) 1).1).role), I (((mkVNode ((settle n i).1) 1).1).lead), .w (sl 1 cI (((mkVNode ((settle n i).1) 1).1).conf)) (g9 0 5), I ((((mkVNode ((settle n i).1) 1).1).log).start), I ((((mkVNode ((settle n i).1) 1).1).log).startTerm), .w (sl 3 Entry.c ((((mkVNode ((settle n i).1) 1).1).log).entries)) (g9 0 8), I (((mkVNode ((settle n i).1) 1).1).commit), I (((mkVNode ((settle n i).1) 1).1).clock), I (((mkVNode ((settle n i).1) 1).1).limit), .w (sl 1 cI (((mkVNode ((settle n i).1) 1).1).votes)) (g9 0 12), .w (sl 4 Peer.c (((mkVNode ((settle n i).1) 1).1).peers)) (g9 0 13)]), (12, I ((mkVNode ((settle n i).1) 1).2))] rfl (Le.of rfl) ?_
            refine CW.seq ?_
            refine CW.region ?_
            refine RW.v rfl (V.as (d := I 1) rfl rfl) ?_
            refine RW.nil ?_
            refine CW.le [(9, .obj b10 [I (((mkVNode ((settle n i).1) 1).1).id), I (((mkVNode ((settle n i).1) 1).1).term_), I (((mkVNode ((settle n i).1) 1).1).vote), I (((mkVNode ((settle n i).1) 1).1).role), I (((mkVNode ((settle n i).1) 1).1).lead), .w (sl 1 cI (((mkVNode ((settle n i).1) 1).1).conf)) (g9 0 5), I ((((mkVNode ((settle n i).1) 1).1).log).start), I ((((mkVNode ((settle n i).1) 1).1).log).startTerm), .w (sl 3 Entry.c ((((mkVNode ((settle n i).1) 1).1).log).entries)) (g9 0 8), I (((mkVNode ((settle n i).1) 1).1).commit), I (((mkVNode ((settle n i).1) 1).1).clock), I (((mkVNode ((settle n i).1) 1).1).limit), .w (sl 1 cI (((mkVNode ((settle n i).1) 1).1).votes)) (g9 0 12), .w (sl 4 Peer.c (((mkVNode ((settle n i).1) 1).1).peers)) (g9 0 13)]), (12, I ((mkVNode ((settle n i).1) 1).2)), (13, I 1)] rfl (Le.of rfl) ?_
            refine CW.seq ?_
            refine CW.region ?_
            refine RW.v rfl (V.loadAgg rfl rfl rfl rfl rfl (Nat.le_of_ble_eq_true rfl)) ?_
            refine RW.v rfl (V.mv (d := I 1) rfl rfl) ?_
            refine RW.callOwn rfl (laws_heldNode_fn ((mkVNode ((settle n i).1) 1).1) 1 (by decide)) rfl (.cons (.agg (.cons (.r .r) (.cons (.r .r) (.cons (.r .r) (.cons (.r .r) (.cons (.r .r) (.cons (.r (.alo (k := none) (i := 9) (j := 5) (sz := 1) (V := (g9 0 5)) rfl rfl rfl nofun)) (.cons (.r .r) (.cons (.r .r) (.cons (.r (.alo (k := none) (i := 9) (j := 8) (sz := 3) (V := (g9 0 8)) rfl rfl rfl nofun)) (.cons (.r .r) (.cons (.r .r) (.cons (.r .r) (.cons (.r (.alo (k := none) (i := 9) (j := 12) (sz := 1) (V := (g9 0 12)) rfl rfl rfl nofun)) (.cons (.r (.alo (k := none) (i := 9) (j := 13) (sz := 4) (V := (g9 0 13)) rfl rfl rfl nofun)) (.nil)))))))))))))))) (.cons (.one (.r .r)) (.nil))) rfl fun g39 => ?_
            refine RW.v rfl (V.as (d := I ((hdVNode ((mkVNode ((settle n i).1) 1).1) 1).getD (-1))) rfl rfl) ?_
            refine RW.nil ?_
            refine CW.le [(12, I ((mkVNode ((settle n i).1) 1).2)), (13, I ((hdVNode ((mkVNode ((settle n i).1) 1).1) 1).getD (-1)))] rfl (Le.of rfl) ?_
            refine CW.seq ?_
            refine CW.seq ?_
            refine CW.region ?_
            refine RW.v rfl (V.mv (d := I ((hdVNode ((mkVNode ((settle n i).1) 1).1) 1).getD (-1))) rfl rfl) ?_
            refine RW.v rfl (V.cmpInt rfl rfl rfl rfl) ?_
            refine RW.nil ?_
            refine CW.le [(12, I ((mkVNode ((settle n i).1) 1).2)), (13, I ((hdVNode ((mkVNode ((settle n i).1) 1).1) 1).getD (-1))), (97, Bo (decide (((hdVNode ((mkVNode ((settle n i).1) 1).1) 1).getD (-1)) < 0)))] rfl (Le.of rfl) ?_
            refine CW.cond rfl (fun h40 => ?_) (fun h40 => ?_)
            ·skip
             refine CW.seq ?_
             refine CW.region ?_
             refine RW.v rfl (V.as (d := Bo false) rfl rfl) ?_
             refine RW.nil ?_
             refine CW.le [(4, Bo false)] rfl (Le.of rfl) ?_
             refine CW.ret ?_
             exact Post.one (RV.b rfl (by first | rfl | (exfalso; have p0 := mkVNode_facts (hP); have p1 := mkVNode_facts (okSettle hP i); simp_all [eqNode_refl]; done) | (exfalso; have p0 := mkVNode_facts (hP); have p1 := mkVNode_facts (okSettle hP i); simp_all [eqNode_refl]; omega))) (AOs.a rfl (AOs.r AOs.e))
            ·skip
             refine CW.skip ?_
             refine CW.le [(12, I ((mkVNode ((settle n i).1) 1).2)), (13, I ((hdVNode ((mkVNode ((settle n i).1) 1).1) 1).getD (-1)))] rfl (Le.of rfl) ?_
             refine CW.seq ?_
             refine CW.seq ?_
             refine CW.region ?_
             refine RW.v rfl (V.mv (d := I ((hdVNode ((mkVNode ((settle n i).1) 1).1) 1).getD (-1))) rfl rfl) ?_
             refine RW.v rfl (V.mv (d := I ((mkVNode ((settle n i).1) 1).2)) rfl rfl) ?_
             refine RW.v rfl (V.cmpInt rfl rfl rfl rfl) ?_
             refine RW.nil ?_
             refine CW.le [(100, Bo (((hdVNode ((mkVNode ((settle n i).1) 1).1) 1).getD (-1)) != ((mkVNode ((settle n i).1) 1).2)))] rfl (Le.of rfl) ?_
             refine CW.cond rfl (fun h41 => ?_) (fun h41 => ?_)
             ·skip
              refine CW.seq ?_
              refine CW.region ?_
              refine RW.v rfl (V.as (d := Bo false) rfl rfl) ?_
              refine RW.nil ?_
              refine CW.le [(4, Bo false)] rfl (Le.of rfl) ?_
              refine CW.ret ?_
              exact Post.one (RV.b rfl (by first | rfl | (exfalso; have p0 := mkVNode_facts (hP); have p1 := mkVNode_facts (okSettle hP i); simp_all [eqNode_refl]; done) | (exfalso; have p0 := mkVNode_facts (hP); have p1 := mkVNode_facts (okSettle hP i); simp_all [eqNode_refl]; omega))) (AOs.a rfl (AOs.r AOs.e))
             ·skip
              refine CW.skip ?_
              refine CW.le [] rfl (Le.of rfl) ?_
              refine CW.seq ?_
              refine CW.region ?_
              refine RW.v rfl (V.as (d := Bo true) rfl rfl) ?_
              refine RW.nil ?_
              refine CW.le [(4, Bo true)] rfl (Le.of rfl) ?_
              refine CW.ret ?_
              exact Post.one (RV.b rfl (by first | rfl | (exfalso; have p0 := mkVNode_facts (hP); have p1 := mkVNode_facts (okSettle hP i); simp_all [eqNode_refl]; done) | (exfalso; have p0 := mkVNode_facts (hP); have p1 := mkVNode_facts (okSettle hP i); simp_all [eqNode_refl]; omega))) (AOs.a rfl (AOs.r AOs.e))
end Go.Proofs.Ytbiocicogminlaa.Y
