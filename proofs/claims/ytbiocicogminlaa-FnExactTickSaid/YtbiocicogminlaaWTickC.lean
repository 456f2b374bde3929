import Derived.Test.YtbiocicogminlaaWTickB
namespace Go.Proofs.Ytbiocicogminlaa.Y
open Go Go.RowKit Go.Eng Go.Proofs
set_option maxRecDepth 10000
set_option maxHeartbeats 4000000 in
theorem __impl_Node__stand_fn (n : Node) (hl : logB n.log) (hok : okToNode n) (ht : 0 ≤ n.term_ ∧ n.term_ < 100000) : Eng.Fn E.P 109 [.ob ((Node.c n).map .w)] (.one (.one (.w (sl 12 Message.c ((standN n).2))))) [.ob ((Node.c ((standN n).1)).map .w)] := by
 refine Eng.Fn.intro (E := E) (rvs := [.tmp 2]) Try.func109 rfl rfl rfl (by simp [outSlots, moved, rvSlot, sl]) ?_
 intro B g bo
 refine CW.keep 79 [0] rfl ?_;(conv=>whnf);refine ⟨?_⟩
 refine CW.k XK 79 2 [0] rfl ?_
 (conv=>whnf);refine ⟨rfl,?_⟩
 refine CW.anyJ2 (fc := []) (L0 := []) 79 (fun (Xo1_12_1 : Value) => [(0, .obj (bo 0) [I n.id, I (IntKind.i64.wrap (n.term_ + 1)), I n.id, I 1, I 0, .w (sl 1 cI n.conf) (g 0 5), I n.log.start, I n.log.startTerm, .w (sl 3 Entry.c n.log.entries) (g 0 8), I n.commit, I n.clock, I n.limit, .w (sl 1 cI ([n.id])) Xo1_12_1, .w (sl 4 Peer.c n.peers) (g 0 13)])]) (fun all hall f hf b0 hb K hK => ?_) ?_
 ·skip
  have ro1_12 : ∀ B, ∀ (Xo1_12_1 : Value), RA f E B all 0 (bt 25 33554431) ⟨79, [(0, .obj (bo 0) [I n.id, I (IntKind.i64.wrap (n.term_ + 1)), I n.id, I 1, I 0, .w (sl 1 cI n.conf) (g 0 5), I n.log.start, I n.log.startTerm, .w (sl 3 Entry.c n.log.entries) (g 0 8), I n.commit, I n.clock, I n.limit, .w (sl 1 cI ([n.id])) Xo1_12_1, .w (sl 4 Peer.c n.peers) (g 0 13)])] ++ b0⟩ K := by
   intro B Xo1_12_1
   exact RA.of2 hall hf hb (RA.finH (Tell.of rfl) (by kernel_rfl) (hK Xo1_12_1 _ rfl (Le.of rfl)))
  have ro1_11 : ∀ B, ∀ (Xo1_12_1 : Value), RA f E B all 1 (bt 25 16777215) ⟨79, [(0, .obj (bo 0) [I n.id, I (IntKind.i64.wrap (n.term_ + 1)), I n.id, I 1, I 0, .w (sl 1 cI n.conf) (g 0 5), I n.log.start, I n.log.startTerm, .w (sl 3 Entry.c n.log.entries) (g 0 8), I n.commit, I n.clock, I n.limit, .w (sl 1 cI n.votes) (g 0 12), .w (sl 4 Peer.c n.peers) (g 0 13)]), (27, .w (sl 1 cI ([n.id])) Xo1_12_1), (35, .pt 0 (bo 0) 12)] ++ b0⟩ K := by
   intro B Xo1_12_1
   refine RA.of2 hall hf hb (RA.stepH (L := [24]) (Tell.of rfl) (by kernel_rfl) (by simp) (RA.each ?_ (RA.each0)))
   ·skip
    refine RO.store (d := .al 27 none 1 (([n.id]).length) Xo1_12_1 0) rfl rfl rfl rfl rfl rfl rfl rfl rfl (Nat.le_of_ble_eq_true rfl) rfl rfl ?_
    refine RA.keep 79 [0,27] rfl ?_;(conv=>whnf);refine ⟨?_⟩
    refine RA.pullT (k := 0) (l := 27) (j := 12) 0 27 12 rfl rfl rfl (by decide) rfl rfl rfl ?_
    refine RA.keep 79 [0] rfl ?_;(conv=>whnf);refine ⟨?_⟩
    exact RA.to2 hall hf hb (ro1_12 B Xo1_12_1) rfl rfl (by kernel_rfl)
  have ro1_10 : ∀ B, RA f E B all 4 (bt 25 4190207) ⟨79, [(0, .obj (bo 0) [I n.id, I (IntKind.i64.wrap (n.term_ + 1)), I n.id, I 1, I 0, .w (sl 1 cI n.conf) (g 0 5), I n.log.start, I n.log.startTerm, .w (sl 3 Entry.c n.log.entries) (g 0 8), I n.commit, I n.clock, I n.limit, .w (sl 1 cI n.votes) (g 0 12), .w (sl 4 Peer.c n.peers) (g 0 13)]), (18, .pt 0 (bo 0) 0), (26, I n.id)] ++ b0⟩ K := by
   intro B
   refine RA.of2 hall hf hb (RA.stepH (L := [12]) (Tell.of rfl) (by kernel_rfl) (by simp) (RA.each ?_ (RA.each0)))
   ·skip
    refine RO.build1c (c := cI) (v := n.id) (u := .v (.int .i64 n.id)) rfl rfl rfl rfl rfl rfl rfl rfl (.inl rfl) rfl rfl fun Xo1_12_1 => ?_
    refine RA.fr XK 79 1 [22,23] (bt 25 16777215) rfl rfl (by kernel_rfl) (Tell.of rfl) ?_
    (conv=>whnf);refine ⟨rfl,fun B=>?_⟩
    exact RA.to2 hall hf hb (ro1_11 B Xo1_12_1) rfl rfl (by kernel_rfl)
  have ro1_9 : ∀ B, ∀ (Xo1_12_1 : Value), RA f E B all 4 (bt 25 2097151) ⟨79, [(0, .obj (bo 0) [I n.id, I (IntKind.i64.wrap (n.term_ + 1)), I n.id, I 1, I n.lead, .w (sl 1 cI n.conf) (g 0 5), I n.log.start, I n.log.startTerm, .w (sl 3 Entry.c n.log.entries) (g 0 8), I n.commit, I n.clock, I n.limit, .w (sl 1 cI n.votes) (g 0 12), .w (sl 4 Peer.c n.peers) (g 0 13)]), (18, .pt 0 (bo 0) 0), (27, .w (sl 1 cI ([n.id])) Xo1_12_1), (33, .pt 0 (bo 0) 4)] ++ b0⟩ K := by
   intro B Xo1_12_1
   refine RA.of2 hall hf hb (RA.stepH (L := [21]) (Tell.of rfl) (by kernel_rfl) (by simp) (RA.each ?_ (RA.each0)))
   ·skip
    refine RO.store (d := I 0) rfl rfl rfl rfl rfl rfl rfl rfl rfl (Nat.le_of_ble_eq_true rfl) rfl rfl ?_
    refine RA.fr XK 79 1 [22,23] (bt 25 16777215) rfl rfl (by kernel_rfl) (Tell.of rfl) ?_
    (conv=>whnf);refine ⟨rfl,fun B=>?_⟩
    exact RA.to2 hall hf hb (ro1_11 B Xo1_12_1) rfl rfl (by kernel_rfl)
  have ro1_8 : ∀ B, RA f E B all 5 (bt 25 2093055) ⟨79, [(0, .obj (bo 0) [I n.id, I (IntKind.i64.wrap (n.term_ + 1)), I n.id, I 1, I n.lead, .w (sl 1 cI n.conf) (g 0 5), I n.log.start, I n.log.startTerm, .w (sl 3 Entry.c n.log.entries) (g 0 8), I n.commit, I n.clock, I n.limit, .w (sl 1 cI n.votes) (g 0 12), .w (sl 4 Peer.c n.peers) (g 0 13)]), (18, .pt 0 (bo 0) 0), (26, I n.id), (33, .pt 0 (bo 0) 4)] ++ b0⟩ K := by
   intro B
   refine RA.of2 hall hf hb (RA.stepH (L := [12, 21]) (Tell.of rfl) (by kernel_rfl) (by simp) (RA.each ?_ (RA.each ?_ (RA.each0))))
   ·skip
    refine RO.build1c (c := cI) (v := n.id) (u := .v (.int .i64 n.id)) rfl rfl rfl rfl rfl rfl rfl rfl (.inl rfl) rfl rfl fun Xo1_12_1 => ?_
    exact RA.to2 hall hf hb (ro1_9 B Xo1_12_1) rfl rfl (by kernel_rfl)
   ·skip
    refine RO.store (d := I 0) rfl rfl rfl rfl rfl rfl rfl rfl rfl (Nat.le_of_ble_eq_true rfl) rfl rfl ?_
    exact RA.to2 hall hf hb (ro1_10 B) rfl rfl (by kernel_rfl)
  have ro1_7 : ∀ B, ∀ (Xo1_12_1 : Value), RA f E B all 7 (bt 25 262143) ⟨79, [(0, .obj (bo 0) [I n.id, I (IntKind.i64.wrap (n.term_ + 1)), I n.id, I n.role, I n.lead, .w (sl 1 cI n.conf) (g 0 5), I n.log.start, I n.log.startTerm, .w (sl 3 Entry.c n.log.entries) (g 0 8), I n.commit, I n.clock, I n.limit, .w (sl 1 cI n.votes) (g 0 12), .w (sl 4 Peer.c n.peers) (g 0 13)]), (17, .pt 0 (bo 0) 0), (18, .pt 0 (bo 0) 0), (27, .w (sl 1 cI ([n.id])) Xo1_12_1), (31, .pt 0 (bo 0) 3)] ++ b0⟩ K := by
   intro B Xo1_12_1
   refine RA.of2 hall hf hb (RA.stepH (L := [18]) (Tell.of rfl) (by kernel_rfl) (by simp) (RA.each ?_ (RA.each0)))
   ·skip
    refine RO.store (d := I 1) rfl rfl rfl rfl rfl rfl rfl rfl rfl (Nat.le_of_ble_eq_true rfl) rfl rfl ?_
    refine RA.fr XK 79 4 [19,20] (bt 25 2097151) rfl rfl (by kernel_rfl) (Tell.of rfl) ?_
    (conv=>whnf);refine ⟨rfl,fun B=>?_⟩
    exact RA.to2 hall hf hb (ro1_9 B Xo1_12_1) rfl rfl (by kernel_rfl)
  have ro1_6 : ∀ B, RA f E B all 8 (bt 25 258047) ⟨79, [(0, .obj (bo 0) [I n.id, I (IntKind.i64.wrap (n.term_ + 1)), I n.id, I n.role, I n.lead, .w (sl 1 cI n.conf) (g 0 5), I n.log.start, I n.log.startTerm, .w (sl 3 Entry.c n.log.entries) (g 0 8), I n.commit, I n.clock, I n.limit, .w (sl 1 cI n.votes) (g 0 12), .w (sl 4 Peer.c n.peers) (g 0 13)]), (17, .pt 0 (bo 0) 0), (18, .pt 0 (bo 0) 0), (26, I n.id), (31, .pt 0 (bo 0) 3)] ++ b0⟩ K := by
   intro B
   refine RA.of2 hall hf hb (RA.stepH (L := [12, 18]) (Tell.of rfl) (by kernel_rfl) (by simp) (RA.each ?_ (RA.each ?_ (RA.each0))))
   ·skip
    refine RO.build1c (c := cI) (v := n.id) (u := .v (.int .i64 n.id)) rfl rfl rfl rfl rfl rfl rfl rfl (.inl rfl) rfl rfl fun Xo1_12_1 => ?_
    exact RA.to2 hall hf hb (ro1_7 B Xo1_12_1) rfl rfl (by kernel_rfl)
   ·skip
    refine RO.store (d := I 1) rfl rfl rfl rfl rfl rfl rfl rfl rfl (Nat.le_of_ble_eq_true rfl) rfl rfl ?_
    refine RA.fr XK 79 5 [19,20] (bt 25 2093055) rfl rfl (by kernel_rfl) (Tell.of rfl) ?_
    (conv=>whnf);refine ⟨rfl,fun B=>?_⟩
    exact RA.to2 hall hf hb (ro1_8 B) rfl rfl (by kernel_rfl)
  have ro1_5 : ∀ B, ∀ (Xo1_12_1 : Value), RA f E B all 10 (bt 25 32767) ⟨79, [(0, .obj (bo 0) [I n.id, I (IntKind.i64.wrap (n.term_ + 1)), I n.vote, I n.role, I n.lead, .w (sl 1 cI n.conf) (g 0 5), I n.log.start, I n.log.startTerm, .w (sl 3 Entry.c n.log.entries) (g 0 8), I n.commit, I n.clock, I n.limit, .w (sl 1 cI n.votes) (g 0 12), .w (sl 4 Peer.c n.peers) (g 0 13)]), (16, .pt 0 (bo 0) 0), (17, .pt 0 (bo 0) 0), (18, .pt 0 (bo 0) 0), (22, I n.id), (27, .w (sl 1 cI ([n.id])) Xo1_12_1), (29, .pt 0 (bo 0) 2)] ++ b0⟩ K := by
   intro B Xo1_12_1
   refine RA.of2 hall hf hb (RA.stepH (L := [15]) (Tell.of rfl) (by kernel_rfl) (by simp) (RA.each ?_ (RA.each0)))
   ·skip
    refine RO.store (d := I n.id) rfl rfl rfl rfl rfl rfl rfl rfl rfl (Nat.le_of_ble_eq_true rfl) rfl rfl ?_
    refine RA.fr XK 79 7 [16,17] (bt 25 262143) rfl rfl (by kernel_rfl) (Tell.of rfl) ?_
    (conv=>whnf);refine ⟨rfl,fun B=>?_⟩
    exact RA.to2 hall hf hb (ro1_7 B Xo1_12_1) rfl rfl (by kernel_rfl)
  have ro1_4 : ∀ B, RA f E B all 11 (bt 25 28671) ⟨79, [(0, .obj (bo 0) [I n.id, I (IntKind.i64.wrap (n.term_ + 1)), I n.vote, I n.role, I n.lead, .w (sl 1 cI n.conf) (g 0 5), I n.log.start, I n.log.startTerm, .w (sl 3 Entry.c n.log.entries) (g 0 8), I n.commit, I n.clock, I n.limit, .w (sl 1 cI n.votes) (g 0 12), .w (sl 4 Peer.c n.peers) (g 0 13)]), (16, .pt 0 (bo 0) 0), (17, .pt 0 (bo 0) 0), (18, .pt 0 (bo 0) 0), (22, I n.id), (26, I n.id), (29, .pt 0 (bo 0) 2)] ++ b0⟩ K := by
   intro B
   refine RA.of2 hall hf hb (RA.stepH (L := [12, 15]) (Tell.of rfl) (by kernel_rfl) (by simp) (RA.each ?_ (RA.each ?_ (RA.each0))))
   ·skip
    refine RO.build1c (c := cI) (v := n.id) (u := .v (.int .i64 n.id)) rfl rfl rfl rfl rfl rfl rfl rfl (.inl rfl) rfl rfl fun Xo1_12_1 => ?_
    exact RA.to2 hall hf hb (ro1_5 B Xo1_12_1) rfl rfl (by kernel_rfl)
   ·skip
    refine RO.store (d := I n.id) rfl rfl rfl rfl rfl rfl rfl rfl rfl (Nat.le_of_ble_eq_true rfl) rfl rfl ?_
    refine RA.fr XK 79 8 [16,17] (bt 25 258047) rfl rfl (by kernel_rfl) (Tell.of rfl) ?_
    (conv=>whnf);refine ⟨rfl,fun B=>?_⟩
    exact RA.to2 hall hf hb (ro1_6 B) rfl rfl (by kernel_rfl)
  have ro1_3 : ∀ B, ∀ (Xo1_12_1 : Value), RA f E B all 13 (bt 25 8063) ⟨79, [(0, .obj (bo 0) [I n.id, I (IntKind.i64.wrap (n.term_ + 1)), I n.vote, I n.role, I n.lead, .w (sl 1 cI n.conf) (g 0 5), I n.log.start, I n.log.startTerm, .w (sl 3 Entry.c n.log.entries) (g 0 8), I n.commit, I n.clock, I n.limit, .w (sl 1 cI n.votes) (g 0 12), .w (sl 4 Peer.c n.peers) (g 0 13)]), (15, .pt 0 (bo 0) 0), (16, .pt 0 (bo 0) 0), (17, .pt 0 (bo 0) 0), (18, .pt 0 (bo 0) 0), (21, .pt 0 (bo 0) 0), (27, .w (sl 1 cI ([n.id])) Xo1_12_1)] ++ b0⟩ K := by
   intro B Xo1_12_1
   refine RA.of2 hall hf hb (RA.stepH (L := [7]) (Tell.of rfl) (by kernel_rfl) (by simp) (RA.each ?_ (RA.each0)))
   ·skip
    refine RO.v rfl rfl (V.loadPrim (d := I n.id) rfl rfl (.inl rfl) rfl rfl rfl) rfl ?_
    refine RA.fr XK 79 10 [13,14] (bt 25 32767) rfl rfl (by kernel_rfl) (Tell.of rfl) ?_
    (conv=>whnf);refine ⟨rfl,fun B=>?_⟩
    exact RA.to2 hall hf hb (ro1_5 B Xo1_12_1) rfl rfl (by kernel_rfl)
  have ro1_2 : ∀ B, RA f E B all 14 (bt 25 3967) ⟨79, [(0, .obj (bo 0) [I n.id, I (IntKind.i64.wrap (n.term_ + 1)), I n.vote, I n.role, I n.lead, .w (sl 1 cI n.conf) (g 0 5), I n.log.start, I n.log.startTerm, .w (sl 3 Entry.c n.log.entries) (g 0 8), I n.commit, I n.clock, I n.limit, .w (sl 1 cI n.votes) (g 0 12), .w (sl 4 Peer.c n.peers) (g 0 13)]), (15, .pt 0 (bo 0) 0), (16, .pt 0 (bo 0) 0), (17, .pt 0 (bo 0) 0), (18, .pt 0 (bo 0) 0), (21, .pt 0 (bo 0) 0), (26, I n.id)] ++ b0⟩ K := by
   intro B
   refine RA.of2 hall hf hb (RA.stepH (L := [7, 12]) (Tell.of rfl) (by kernel_rfl) (by simp) (RA.each ?_ (RA.each ?_ (RA.each0))))
   ·skip
    refine RO.v rfl rfl (V.loadPrim (d := I n.id) rfl rfl (.inl rfl) rfl rfl rfl) rfl ?_
    refine RA.fr XK 79 11 [13,14] (bt 25 28671) rfl rfl (by kernel_rfl) (Tell.of rfl) ?_
    (conv=>whnf);refine ⟨rfl,fun B=>?_⟩
    exact RA.to2 hall hf hb (ro1_4 B) rfl rfl (by kernel_rfl)
   ·skip
    refine RO.build1c (c := cI) (v := n.id) (u := .v (.int .i64 n.id)) rfl rfl rfl rfl rfl rfl rfl rfl (.inl rfl) rfl rfl fun Xo1_12_1 => ?_
    exact RA.to2 hall hf hb (ro1_3 B Xo1_12_1) rfl rfl (by kernel_rfl)
  have ro1_1 : ∀ B, RA f E B all 14 (bt 25 2047) ⟨79, [(0, .obj (bo 0) [I n.id, I (IntKind.i64.wrap (n.term_ + 1)), I n.vote, I n.role, I n.lead, .w (sl 1 cI n.conf) (g 0 5), I n.log.start, I n.log.startTerm, .w (sl 3 Entry.c n.log.entries) (g 0 8), I n.commit, I n.clock, I n.limit, .w (sl 1 cI n.votes) (g 0 12), .w (sl 4 Peer.c n.peers) (g 0 13)]), (15, .pt 0 (bo 0) 0), (16, .pt 0 (bo 0) 0), (17, .pt 0 (bo 0) 0), (18, .pt 0 (bo 0) 0), (22, I n.id), (25, .pt 0 (bo 0) 0)] ++ b0⟩ K := by
   intro B
   refine RA.of2 hall hf hb (RA.stepH (L := [11]) (Tell.of rfl) (by kernel_rfl) (by simp) (RA.each ?_ (RA.each0)))
   ·skip
    refine RO.v rfl rfl (V.loadPrim (d := I n.id) rfl rfl (.inl rfl) rfl rfl rfl) rfl ?_
    refine RA.fr XK 79 11 [13,14] (bt 25 28671) rfl rfl (by kernel_rfl) (Tell.of rfl) ?_
    (conv=>whnf);refine ⟨rfl,fun B=>?_⟩
    exact RA.to2 hall hf hb (ro1_4 B) rfl rfl (by kernel_rfl)
  have ro1_0 : ∀ B, RA f E B all 15 (bt 25 1919) ⟨79, [(0, .obj (bo 0) [I n.id, I (IntKind.i64.wrap (n.term_ + 1)), I n.vote, I n.role, I n.lead, .w (sl 1 cI n.conf) (g 0 5), I n.log.start, I n.log.startTerm, .w (sl 3 Entry.c n.log.entries) (g 0 8), I n.commit, I n.clock, I n.limit, .w (sl 1 cI n.votes) (g 0 12), .w (sl 4 Peer.c n.peers) (g 0 13)]), (15, .pt 0 (bo 0) 0), (16, .pt 0 (bo 0) 0), (17, .pt 0 (bo 0) 0), (18, .pt 0 (bo 0) 0), (21, .pt 0 (bo 0) 0), (25, .pt 0 (bo 0) 0)] ++ b0⟩ K := by
   intro B
   refine RA.of2 hall hf hb (RA.stepH (L := [7, 11]) (Tell.of rfl) (by kernel_rfl) (by simp) (RA.each ?_ (RA.each ?_ (RA.each0))))
   ·skip
    refine RO.v rfl rfl (V.loadPrim (d := I n.id) rfl rfl (.inl rfl) rfl rfl rfl) rfl ?_
    exact RA.to2 hall hf hb (ro1_1 B) rfl rfl (by kernel_rfl)
   ·skip
    refine RO.v rfl rfl (V.loadPrim (d := I n.id) rfl rfl (.inl rfl) rfl rfl rfl) rfl ?_
    exact RA.to2 hall hf hb (ro1_2 B) rfl rfl (by kernel_rfl)
  refine RA.start (by kernel_rfl) (by kernel_rfl) (m := 25) (ls' := (bt 25 0)) ?_
  refine RA.fr XK 79 15 [0,1,2,3,4,5,6,8,9,10] (bt 25 1919) rfl rfl (by kernel_rfl) (Tell.of rfl) ?_
  (conv=>whnf);refine ⟨rfl,fun B=>?_⟩
  exact RA.to2 hall hf hb (ro1_0 B) rfl rfl (by kernel_rfl)
 ·rintro Xo1_12_1
  refine CW.seq ?_
  refine CW.region ?_
  refine RW.k XK 79 3 rfl ?_
  (conv=>whnf);refine ⟨rfl,?_⟩
  refine RW.callOwn rfl (impl_ConfOf_fn (⟨n.id, (IntKind.i64.wrap (n.term_ + 1)), n.id, 1, 0, n.conf, n.log, n.commit, n.clock, n.limit, [n.id], n.peers⟩ : Node) (okStand hok)) rfl (.cons (.agg (.cons (.r .r) (.cons (.r .r) (.cons (.r .r) (.cons (.r .r) (.cons (.r .r) (.cons (.r (.alo (k := none) (i := 0) (j := 5) (sz := 1) (V := (g 0 5)) rfl rfl rfl nofun)) (.cons (.r .r) (.cons (.r .r) (.cons (.r (.alo (k := none) (i := 0) (j := 8) (sz := 3) (V := (g 0 8)) rfl rfl rfl nofun)) (.cons (.r .r) (.cons (.r .r) (.cons (.r .r) (.cons (.r (.alo (k := none) (i := 0) (j := 12) (sz := 1) (V := Xo1_12_1) rfl rfl rfl nofun)) (.cons (.r (.alo (k := none) (i := 0) (j := 13) (sz := 4) (V := (g 0 13)) rfl rfl rfl nofun)) (.nil)))))))))))))))) (.nil)) rfl fun g2 => ?_
  refine RW.assignMove rfl rfl rfl (by decide) (Nat.le_of_ble_eq_true rfl) (Nat.le_of_ble_eq_true rfl) ?_
  refine RW.nil ?_
  refine CW.keep 79 [0,3] rfl ?_;(conv=>whnf);refine ⟨?_⟩
  refine CW.seq ?_
  refine CW.seq ?_
  refine CW.region ?_
  refine RW.k XK 79 5 rfl ?_
  (conv=>whnf);refine ⟨rfl,?_⟩
  refine RW.callOwn rfl (impl_Most_fn ((lastC (⟨n.id, (IntKind.i64.wrap (n.term_ + 1)), n.id, 1, 0, n.conf, n.log, n.commit, n.clock, n.limit, [n.id], n.peers⟩ : Node) (logLast (⟨n.id, (IntKind.i64.wrap (n.term_ + 1)), n.id, 1, 0, n.conf, n.log, n.commit, n.clock, n.limit, [n.id], n.peers⟩ : Node).log).1).2) ([n.id])) rfl (.cons (.one (.r (.al (k := none) (i := 3) (sz := 1) (V := (g2 0 0)) rfl rfl nofun))) (.cons (.one (.r (.alo (k := none) (i := 0) (j := 12) (sz := 1) (V := Xo1_12_1) rfl rfl rfl nofun))) (.nil))) rfl fun g3 => ?_
  refine RW.nil ?_
  refine CW.keep 79 [0,3,45] rfl ?_;(conv=>whnf);refine ⟨?_⟩
  refine CW.cond rfl (fun h4 => ?_) (fun h4 => ?_)
  ·skip
   have hmy : most (confN n) [n.id] = true := h4
   refine CW.seq ?_
   refine CW.region ?_
   refine RW.k XK 79 1 rfl ?_
   (conv=>whnf);refine ⟨rfl,?_⟩
   refine RW.callW (k := 0) (__impl_Node__lead_fn (⟨n.id, (IntKind.i64.wrap (n.term_ + 1)), n.id, 1, 0, n.conf, n.log, n.commit, n.clock, n.limit, [n.id], n.peers⟩ : Node) hl (okStand hok) (by have h1 := ht.1; have h2 := ht.2; show 0 ≤ IntKind.i64.wrap (n.term_ + 1); rw [IntKind.wrap_i64]; omega)) rfl rfl (Nat.le_of_ble_eq_true rfl) (by decide) (.here (AsW.ob (DT.v (DT.v (DT.v (DT.v (DT.v (DT.w (DT.v (DT.v (DT.w (DT.v (DT.v (DT.v (DT.w (DT.w DT.e)))))))))))))) rfl) (.nil)) rfl fun g5 q6 => ?_
   refine RW.assignMove rfl rfl rfl (by decide) (Nat.le_of_ble_eq_true rfl) (Nat.le_of_ble_eq_true rfl) ?_
   refine RW.nil ?_
   refine CW.keep 79 [0,2] rfl ?_;(conv=>whnf);refine ⟨?_⟩
   refine CW.ret ?_
   exact Post.one (RV.w rfl (by rw [standN_yes hmy]; rfl)) (AOs.obE (f := fun e => (Node.c e).map .w) (e' := (leadN (⟨n.id, (IntKind.i64.wrap (n.term_ + 1)), n.id, 1, 0, n.conf, n.log, n.commit, n.clock, n.limit, [n.id], n.peers⟩ : Node))) rfl (DT.v (DT.v (DT.v (DT.v (DT.v (DT.w (DT.v (DT.v (DT.w (DT.v (DT.v (DT.v (DT.w (DT.w DT.e)))))))))))))) (by rw [standN_yes hmy]; rfl) AOs.e)
  ·skip
   have hmn : most (confN n) [n.id] = false := h4
   refine CW.skip ?_
   refine CW.keep 79 [0,3] rfl ?_;(conv=>whnf);refine ⟨?_⟩
   refine CW.seq ?_
   refine CW.region ?_
   refine RW.build0 Message.c rfl rfl rfl rfl rfl fun X7 => ?_
   refine RW.assignMove rfl rfl rfl (by decide) (Nat.le_of_ble_eq_true rfl) (Nat.le_of_ble_eq_true rfl) ?_
   refine RW.nil ?_
   refine CW.keep 79 [0,3,4] rfl ?_;(conv=>whnf);refine ⟨?_⟩
   refine CW.seq ?_
   refine CW.seq ?_
   refine CW.region ?_
   refine RW.k XK 79 5 rfl ?_
   (conv=>whnf);refine ⟨rfl,?_⟩
   refine RW.callOwn rfl (impl_without_fn ((lastC (⟨n.id, (IntKind.i64.wrap (n.term_ + 1)), n.id, 1, 0, n.conf, n.log, n.commit, n.clock, n.limit, [n.id], n.peers⟩ : Node) (logLast (⟨n.id, (IntKind.i64.wrap (n.term_ + 1)), n.id, 1, 0, n.conf, n.log, n.commit, n.clock, n.limit, [n.id], n.peers⟩ : Node).log).1).2) n.id (lastC_len hok _)) rfl (.cons (.one (.r (.al (k := none) (i := 3) (sz := 1) (V := (g2 0 0)) rfl rfl nofun))) (.cons (.one (.r .r)) (.nil))) rfl fun g8 => ?_
   refine RW.k XK 79 2 rfl ?_
   (conv=>whnf);refine ⟨rfl,?_⟩
   refine RW.nil ?_
   obtain ⟨L9, hn10⟩ : ∃ z : List Int, z = others ((lastC (⟨n.id, (IntKind.i64.wrap (n.term_ + 1)), n.id, 1, 0, n.conf, n.log, n.commit, n.clock, n.limit, [n.id], n.peers⟩ : Node) (logLast (⟨n.id, (IntKind.i64.wrap (n.term_ + 1)), n.id, 1, 0, n.conf, n.log, n.commit, n.clock, n.limit, [n.id], n.peers⟩ : Node).log).1).2) n.id := ⟨_, rfl⟩
   refine CW.le [(0, .obj (bo 0) [I n.id, I (IntKind.i64.wrap (n.term_ + 1)), I n.id, I 1, I 0, .w (sl 1 cI n.conf) (g 0 5), I n.log.start, I n.log.startTerm, .w (sl 3 Entry.c n.log.entries) (g 0 8), I n.commit, I n.clock, I n.limit, .w (sl 1 cI ([n.id])) Xo1_12_1, .w (sl 4 Peer.c n.peers) (g 0 13)]), (4, .w (sl 12 Message.c ([] : List Message)) X7), (54, .w (sl 1 cI L9) (g8 0 0)), (55, I (L9.length : Int)), (56, I 0)] rfl (Le.c rfl <| Le.c rfl <| Le.c (by subst hn10; rfl) <| Le.c (by subst hn10; rfl) <| Le.c rfl <| Le.e) ?_
   refine CW.keep 79 [0,4,54,55,56] rfl ?_;(conv=>whnf);refine ⟨?_⟩
   refine CW.block ?_
   refine CW.loopI 79 (fun (zz : Nat × Value) => match zz with | (i, X) => [(0, .obj (bo 0) [I n.id, I (IntKind.i64.wrap (n.term_ + 1)), I n.id, I 1, I 0, .w (sl 1 cI n.conf) (g 0 5), I n.log.start, I n.log.startTerm, .w (sl 3 Entry.c n.log.entries) (g 0 8), I n.commit, I n.clock, I n.limit, .w (sl 1 cI ([n.id])) Xo1_12_1, .w (sl 4 Peer.c n.peers) (g 0 13)]), (4, .w (sl 12 Message.c ((L9.take i).map fun q => (⟨1, n.id, q, IntKind.i64.wrap (n.term_ + 1), (logLast n.log).1, (logLast n.log).2, 0, false, [], [], ⟨#[]⟩, false⟩ : Message))) X), (54, .w (sl 1 cI L9) (g8 0 0)), (55, I (L9.length : Int)), (56, I (i : Int))]) (fun (zz : Nat × Value) => match zz with | (i, X) => i ≤ L9.length) (fun (zz : Nat × Value) => match zz with | (i, X) => L9.length - i) (0, _) rfl (Le.c rfl <| Le.c rfl <| Le.c rfl <| Le.c rfl <| Le.c rfl <| Le.e) (by omega) ?_
   rintro ⟨i, X⟩ hb
   have hlL : L9.length ≤ 1048576 := by rw [hn10]; exact Nat.le_trans (others_len _ _) (lastC_len hok _)
   have hl0 : L9.length ≤ maxLen := Nat.le_trans hlL (by decide)
   refine CW.k XK 79 1 [0,4,54,55,56,57] rfl ?_
   (conv=>whnf);refine ⟨rfl,?_⟩
   refine CW.seq ?_
   refine CW.cond rfl (fun h11 => ?_) (fun h11 => ?_)
   ·skip
    have hii : i < L9.length := by have := h11; simp at this; first | exact this | omega | (simp; done) | (simp; omega)
    obtain ⟨ei, hei⟩ : ∃ e, L9[i]? = some e := ⟨_, List.getElem?_eq_getElem hii⟩
    have hdi := drop_get hei
    refine CW.skip ?_
    refine CW.keep 79 [0,4,54,55,56] rfl ?_;(conv=>whnf);refine ⟨?_⟩
    refine CW.seq ?_
    refine CW.block ?_
    refine CW.seq ?_
    refine CW.region ?_
    refine RW.v rfl (V.indexW rfl rfl rfl rfl rfl rfl rfl hii) ?_
    refine RW.v rfl (V.loadF (m := i) (off := 0) rfl rfl (.inl rfl) rfl rfl cI.len hei (by decide) rfl) ?_
    refine RW.k XK 79 1 rfl ?_
    (conv=>whnf);refine ⟨rfl,?_⟩
    refine RW.nil ?_
    refine CW.keep 79 [0,4,6,54,55,56] rfl ?_;(conv=>whnf);refine ⟨?_⟩
    refine CW.seq ?_
    refine CW.region ?_
    refine RW.k XK 79 2 rfl ?_
    (conv=>whnf);refine ⟨rfl,?_⟩
    refine RW.callOwn rfl (__impl_Node__message_fn (⟨n.id, (IntKind.i64.wrap (n.term_ + 1)), n.id, 1, 0, n.conf, n.log, n.commit, n.clock, n.limit, [n.id], n.peers⟩ : Node) 1 ei) rfl (.cons (.one (.r (.pt rfl rfl (DRd.r (DRd.r (DRd.r (DRd.r (DRd.r (DRd.ow (DRd.r (DRd.r (DRd.ow (DRd.r (DRd.r (DRd.r (DRd.ow (DRd.ow DRd.e)))))))))))))) nofun))) (.cons (.one (.r .r)) (.cons (.one (.r .r)) (.nil)))) rfl fun g12 => ?_
    refine RW.k XK 79 2 rfl ?_
    (conv=>whnf);intro b13;(conv=>whnf);refine ⟨rfl,?_⟩
    refine RW.keep 79 [0,4,7,54,55,56,62] rfl ?_;(conv=>whnf);refine ⟨?_⟩
    refine RW.pullA (k := 7) (l := 62) (j := 8) 7 62 8 rfl rfl rfl (by decide) rfl rfl rfl rfl ?_
    refine RW.keep 79 [0,4,7,54,55,56,62] rfl ?_;(conv=>whnf);refine ⟨?_⟩
    refine RW.pullA (k := 7) (l := 62) (j := 9) 7 62 9 rfl rfl rfl (by decide) rfl rfl rfl rfl ?_
    refine RW.keep 79 [0,4,7,54,55,56] rfl ?_;(conv=>whnf);refine ⟨?_⟩
    refine RW.nil ?_
    refine CW.keep 79 [0,4,7,54,55,56] rfl ?_;(conv=>whnf);refine ⟨?_⟩
    refine CW.seq ?_
    refine CW.region ?_
    refine RW.k XK 79 4 rfl ?_
    (conv=>whnf);refine ⟨rfl,?_⟩
    refine RW.callOwn rfl (impl_LogLast_fn n.log (hok.2.1)) rfl (.cons (.agg (.cons (.r .r) (.cons (.r .r) (.cons (.r (.alo (k := none) (i := 0) (j := 8) (sz := 3) (V := (g 0 8)) rfl rfl rfl nofun)) (.nil))))) (.nil)) rfl fun g14 => ?_
    refine RW.k XK 79 7 rfl ?_
    (conv=>whnf);refine ⟨rfl,?_⟩
    refine RW.nil ?_
    refine CW.keep 79 [0,4,7,54,55,56] rfl ?_;(conv=>whnf);refine ⟨?_⟩
    refine CW.region ?_
    refine RW.k XK 79 2 rfl ?_
    (conv=>whnf);refine ⟨rfl,?_⟩
    refine RW.takeAgg 74 7 (by decide) rfl rfl rfl ?_
    refine RW.build1O (c := Message.c) (v := (⟨(msgN (⟨n.id, (IntKind.i64.wrap (n.term_ + 1)), n.id, 1, 0, n.conf, n.log, n.commit, n.clock, n.limit, [n.id], n.peers⟩ : Node) 1 ei).kind, (msgN (⟨n.id, (IntKind.i64.wrap (n.term_ + 1)), n.id, 1, 0, n.conf, n.log, n.commit, n.clock, n.limit, [n.id], n.peers⟩ : Node) 1 ei).from_, (msgN (⟨n.id, (IntKind.i64.wrap (n.term_ + 1)), n.id, 1, 0, n.conf, n.log, n.commit, n.clock, n.limit, [n.id], n.peers⟩ : Node) 1 ei).to, (msgN (⟨n.id, (IntKind.i64.wrap (n.term_ + 1)), n.id, 1, 0, n.conf, n.log, n.commit, n.clock, n.limit, [n.id], n.peers⟩ : Node) 1 ei).term_, ((logLast n.log).1), ((logLast n.log).2), (msgN (⟨n.id, (IntKind.i64.wrap (n.term_ + 1)), n.id, 1, 0, n.conf, n.log, n.commit, n.clock, n.limit, [n.id], n.peers⟩ : Node) 1 ei).commit, (msgN (⟨n.id, (IntKind.i64.wrap (n.term_ + 1)), n.id, 1, 0, n.conf, n.log, n.commit, n.clock, n.limit, [n.id], n.peers⟩ : Node) 1 ei).ok, (msgN (⟨n.id, (IntKind.i64.wrap (n.term_ + 1)), n.id, 1, 0, n.conf, n.log, n.commit, n.clock, n.limit, [n.id], n.peers⟩ : Node) 1 ei).entries, (msgN (⟨n.id, (IntKind.i64.wrap (n.term_ + 1)), n.id, 1, 0, n.conf, n.log, n.commit, n.clock, n.limit, [n.id], n.peers⟩ : Node) 1 ei).conf, (msgN (⟨n.id, (IntKind.i64.wrap (n.term_ + 1)), n.id, 1, 0, n.conf, n.log, n.commit, n.clock, n.limit, [n.id], n.peers⟩ : Node) 1 ei).data, (msgN (⟨n.id, (IntKind.i64.wrap (n.term_ + 1)), n.id, 1, 0, n.conf, n.log, n.commit, n.clock, n.limit, [n.id], n.peers⟩ : Node) 1 ei).last⟩ : Message)) rfl rfl rfl rfl rfl rfl rfl (DW.v (DW.v (DW.v (DW.v (DW.v (DW.v (DW.v (DW.v (DW.w (DW.w (DW.v (DW.v DW.e)))))))))))) Message.len (by decide) (by decide) (by decide) (Nat.le_of_ble_eq_true rfl) fun X15 => ?_
    refine RW.appendSS (c := Message.c) (l1 := ((L9.take i).map fun q => (⟨1, n.id, q, IntKind.i64.wrap (n.term_ + 1), (logLast n.log).1, (logLast n.log).2, 0, false, [], [], ⟨#[]⟩, false⟩ : Message))) (l2 := [(⟨(msgN (⟨n.id, (IntKind.i64.wrap (n.term_ + 1)), n.id, 1, 0, n.conf, n.log, n.commit, n.clock, n.limit, [n.id], n.peers⟩ : Node) 1 ei).kind, (msgN (⟨n.id, (IntKind.i64.wrap (n.term_ + 1)), n.id, 1, 0, n.conf, n.log, n.commit, n.clock, n.limit, [n.id], n.peers⟩ : Node) 1 ei).from_, (msgN (⟨n.id, (IntKind.i64.wrap (n.term_ + 1)), n.id, 1, 0, n.conf, n.log, n.commit, n.clock, n.limit, [n.id], n.peers⟩ : Node) 1 ei).to, (msgN (⟨n.id, (IntKind.i64.wrap (n.term_ + 1)), n.id, 1, 0, n.conf, n.log, n.commit, n.clock, n.limit, [n.id], n.peers⟩ : Node) 1 ei).term_, ((logLast n.log).1), ((logLast n.log).2), (msgN (⟨n.id, (IntKind.i64.wrap (n.term_ + 1)), n.id, 1, 0, n.conf, n.log, n.commit, n.clock, n.limit, [n.id], n.peers⟩ : Node) 1 ei).commit, (msgN (⟨n.id, (IntKind.i64.wrap (n.term_ + 1)), n.id, 1, 0, n.conf, n.log, n.commit, n.clock, n.limit, [n.id], n.peers⟩ : Node) 1 ei).ok, (msgN (⟨n.id, (IntKind.i64.wrap (n.term_ + 1)), n.id, 1, 0, n.conf, n.log, n.commit, n.clock, n.limit, [n.id], n.peers⟩ : Node) 1 ei).entries, (msgN (⟨n.id, (IntKind.i64.wrap (n.term_ + 1)), n.id, 1, 0, n.conf, n.log, n.commit, n.clock, n.limit, [n.id], n.peers⟩ : Node) 1 ei).conf, (msgN (⟨n.id, (IntKind.i64.wrap (n.term_ + 1)), n.id, 1, 0, n.conf, n.log, n.commit, n.clock, n.limit, [n.id], n.peers⟩ : Node) 1 ei).data, (msgN (⟨n.id, (IntKind.i64.wrap (n.term_ + 1)), n.id, 1, 0, n.conf, n.log, n.commit, n.clock, n.limit, [n.id], n.peers⟩ : Node) 1 ei).last⟩ : Message)]) rfl rfl rfl rfl rfl rfl rfl rfl rfl rfl (by decide) (by decide) (by decide) (Nat.le_of_ble_eq_true rfl) Message.len (fun _ => rfl) rfl (by simp only [maxLen, List.length_append, List.length_map, List.length_take, List.length_singleton]; omega) (by simp only [maxLen, List.length_append, List.length_map, List.length_take, List.length_singleton]; omega) fun X16 => ?_
    refine RW.assignMove rfl rfl rfl (by decide) (Nat.le_of_ble_eq_true rfl) (Nat.le_of_ble_eq_true rfl) ?_
    refine RW.nil ?_
    refine CW.keep 79 [0,4,54,55,56] rfl ?_;(conv=>whnf);refine ⟨?_⟩
    refine CW.region ?_
    refine RW.v rfl (V.inc rfl rfl rfl hii hl0) ?_
    refine RW.k XK 79 1 rfl ?_
    (conv=>whnf);refine ⟨rfl,?_⟩
    refine RW.nil ?_
    exact ⟨(i + 1, _), by show L9.length - (i + 1) < L9.length - i; omega, (by omega), rfl, Le.c rfl <| Le.c (Dw_congr (by rw [take_snoc hei, List.map_append]; rfl)) <| Le.c rfl <| Le.c rfl <| Le.c rfl <| Le.e⟩
   ·skip
    have hii : L9.length ≤ i := by have := h11; simp at this; first | exact this | omega | (simp; done) | (simp; omega)
    have hdi : L9.drop i = [] := List.drop_eq_nil_of_le hii
    refine CW.exit ?_
    refine CW.keep 79 [0,4] rfl ?_;(conv=>whnf);refine ⟨?_⟩
    refine CW.seq ?_
    refine CW.region ?_
    refine RW.k XK 79 2 rfl ?_
    (conv=>whnf);refine ⟨rfl,?_⟩
    refine RW.pullS 2 4 (by decide) rfl rfl ?_
    refine RW.nil ?_
    refine CW.keep 79 [0,2] rfl ?_;(conv=>whnf);refine ⟨?_⟩
    refine CW.ret ?_
    exact Post.one (RV.w rfl (by subst hn10; rw [standN_no hmn, List.take_of_length_le hii]; rfl)) (AOs.obE (f := fun e => (Node.c e).map .w) (e' := (⟨n.id, (IntKind.i64.wrap (n.term_ + 1)), n.id, 1, 0, n.conf, n.log, n.commit, n.clock, n.limit, [n.id], n.peers⟩ : Node)) rfl (DT.v (DT.v (DT.v (DT.v (DT.v (DT.w (DT.v (DT.v (DT.w (DT.v (DT.v (DT.v (DT.w (DT.w DT.e)))))))))))))) (by rw [standN_no hmn]; rfl) AOs.e)
set_option maxHeartbeats 4000000 in
theorem impl_Tick_fn (n : Node) (limit : Int) (hok : okToNode n) : Eng.Fn E.P 39 [.agg ((Node.c n).map .r), .one (.r (.v (.int .i64 limit)))] (.tup [.agg ((Node.c ((tickN n limit).1)).map .w), .one (.w (sl 12 Message.c ((tickN n limit).2.1))), .one (.w (.v (.bool ((tickN n limit).2.2))))]) [.agg ((Node.c n).map .r), .one (.r (.v (.int .i64 limit)))] := by
 refine Eng.Fn.intro (E := E) (rvs := [.cell 4 47, .tmp 5, .tmp 6]) Try.func39 rfl rfl rfl (by simp [outSlots, moved, rvSlot, sl]) ?_
 intro B g bo
 refine CW.keep 53 [0,1] rfl ?_;(conv=>whnf);refine ⟨?_⟩
 refine CW.seq ?_
 refine CW.region ?_
 refine RW.k XK 53 1 rfl ?_
 (conv=>whnf);intro b1;(conv=>whnf);refine ⟨rfl,?_⟩
 refine RW.freezeB (ts := (Node.c n)) 2 rfl (DRd.r (DRd.r (DRd.r (DRd.r (DRd.r (DRd.r (DRd.r (DRd.r (DRd.r (DRd.r (DRd.r (DRd.r (DRd.r (DRd.r DRd.e)))))))))))))) ?_
 refine RW.k XK 53 3 rfl ?_
 (conv=>whnf);intro b2;(conv=>whnf);refine ⟨rfl,?_⟩
 refine RW.nil ?_
 refine CW.keep 53 [1,2,4] rfl ?_;(conv=>whnf);refine ⟨?_⟩
 refine CW.seq ?_
 refine CW.seqJ 53 (fun (v3 : Bool) => [(1, I limit), (2, .rp (Node.c n)), (4, .obj b2 [I 0, I 0, I 0, I 0, I 0, .r (.v (.slice none 0 0)), I 0, I 0, .r (.v (.slice none 0 0)), I 0, I 0, I 0, .r (.v (.slice none 0 0)), .r (.v (.slice none 0 0))]), (16, Bo v3)]) (fun v3 => v3 = ((!(nodeOk n)) || (!(inR limit 1 20)))) ?_ ?_
 ·refine CW.region ?_
  refine RW.k XK 53 1 rfl ?_
  (conv=>whnf);refine ⟨rfl,?_⟩
  refine RW.call rfl (impl_NodeOk_fn n hok) rfl (.cons (.agg (.cons (.r .r) (.cons (.r .r) (.cons (.r .r) (.cons (.r .r) (.cons (.r .r) (.cons (.r .r) (.cons (.r .r) (.cons (.r .r) (.cons (.r .r) (.cons (.r .r) (.cons (.r .r) (.cons (.r .r) (.cons (.r .r) (.cons (.r .r) (.nil)))))))))))))))) (.nil)) fun g4 => ?_
  refine RW.k XK 53 2 rfl ?_
  (conv=>whnf);refine ⟨rfl,?_⟩
  refine RW.gv rfl rfl rfl rfl (fun h5 => V.mv (d := I limit) rfl rfl) (fun h5 => ?_) (fun h5 => ?_)
  ·skip
   refine RW.gcall rfl rfl rfl rfl (impl_within_fn limit 1 20) rfl (.cons (.one (.r .r)) (.cons (.one (.r .r)) (.cons (.one (.r .r)) (.nil)))) fun g6 => ?_
   refine RW.k XK 53 2 rfl ?_
   (conv=>whnf);refine ⟨rfl,?_⟩
   refine RW.nil ?_
   exact ⟨_, by first | rfl | (simp_all; done) | (simp_all; omega) | grind, rfl, Le.of rfl⟩
  ·skip
   refine RW.k XK 53 3 rfl ?_
   (conv=>whnf);refine ⟨rfl,?_⟩
   refine RW.nil ?_
   exact ⟨_, by first | rfl | (simp_all; done) | (simp_all; omega) | grind, rfl, Le.of rfl⟩
 ·intro v3 hv7
  refine CW.cond rfl (fun h8 => ?_) (fun h8 => ?_)
  ·skip
   have hbad : (nodeOk n && inR limit 1 20) = false := by rw [hv7] at h8; revert h8; cases nodeOk n <;> cases inR limit 1 20 <;> simp
   refine CW.k XK 53 1 [4,5,6] rfl ?_
   (conv=>whnf);refine ⟨rfl,?_⟩
   refine CW.ret ?_
   exact Post.tup (by decide) (RVs.c (RV.c (f := fun e => (Node.c e).map .w) (e' := (⟨0, 0, 0, 0, 0, [], (⟨0, 0, []⟩ : Log), 0, 0, 0, [], []⟩ : Node)) rfl rfl rfl rfl (DT.v (DT.v (DT.v (DT.v (DT.v (DT.n (DT.v (DT.v (DT.n (DT.v (DT.v (DT.v (DT.n (DT.n DT.e)))))))))))))) (by rw [tick_bad hbad]; rfl)) (RVs.c (RV.n rfl (by rw [tick_bad hbad])) (RVs.c (RV.b rfl (by rw [tick_bad hbad])) RVs.e))) (AOs.a rfl (AOs.r AOs.e))
  ·skip
   have hn : nodeOk n = true := by simp_all
   have hgd : (nodeOk n && inR limit 1 20) = true := by simp_all
   have hl : logB n.log := logOk_hs (nodeOk_in hn).1
   have htm := (nodeOk_in hn).2.1
   refine CW.skip ?_
   refine CW.keep 53 [1,2,4] rfl ?_;(conv=>whnf);refine ⟨?_⟩
   refine CW.seq ?_
   refine CW.region ?_
   refine RW.k XK 53 1 rfl ?_
   (conv=>whnf);refine ⟨rfl,?_⟩
   refine RW.call rfl (impl_copyNode_fn n hok) rfl (.cons (.agg (.cons (.r .r) (.cons (.r .r) (.cons (.r .r) (.cons (.r .r) (.cons (.r .r) (.cons (.r .r) (.cons (.r .r) (.cons (.r .r) (.cons (.r .r) (.cons (.r .r) (.cons (.r .r) (.cons (.r .r) (.cons (.r .r) (.cons (.r .r) (.nil)))))))))))))))) (.nil)) fun g9 => ?_
   refine RW.k XK 53 2 rfl ?_
   (conv=>whnf);intro b10;(conv=>whnf);refine ⟨rfl,?_⟩
   refine RW.keep 53 [1,2,4,7,19] rfl ?_;(conv=>whnf);refine ⟨?_⟩
   refine RW.pullA (k := 7) (l := 19) (j := 5) 7 19 5 rfl rfl rfl (by decide) rfl rfl rfl rfl ?_
   refine RW.keep 53 [1,2,4,7,19] rfl ?_;(conv=>whnf);refine ⟨?_⟩
   refine RW.pullA (k := 7) (l := 19) (j := 8) 7 19 8 rfl rfl rfl (by decide) rfl rfl rfl rfl ?_
   refine RW.keep 53 [1,2,4,7,19] rfl ?_;(conv=>whnf);refine ⟨?_⟩
   refine RW.pullA (k := 7) (l := 19) (j := 12) 7 19 12 rfl rfl rfl (by decide) rfl rfl rfl rfl ?_
   refine RW.keep 53 [1,2,4,7,19] rfl ?_;(conv=>whnf);refine ⟨?_⟩
   refine RW.pullA (k := 7) (l := 19) (j := 13) 7 19 13 rfl rfl rfl (by decide) rfl rfl rfl rfl ?_
   refine RW.keep 53 [1,2,4,7] rfl ?_;(conv=>whnf);refine ⟨?_⟩
   refine RW.nil ?_
   refine CW.keep 53 [1,2,4,7] rfl ?_;(conv=>whnf);refine ⟨?_⟩
   refine CW.seq ?_
   refine CW.k XK 53 1 [1,2,4,7,22] rfl ?_
   (conv=>whnf);refine ⟨rfl,?_⟩
   refine CW.cond rfl (fun h11 => ?_) (fun h11 => ?_)
   ·skip
    have hr2 : n.role = 2 := by simpa using h11
    refine CW.anyJ2 (fc := []) (L0 := []) 53 (fun (go12_1_1 : (Nat → Nat → Value)) => [(4, .obj b2 [I n.id, I n.term_, I n.vote, I n.role, I n.lead, .w (sl 1 cI n.conf) (g9 0 5), I n.log.start, I n.log.startTerm, .w (sl 3 Entry.c n.log.entries) (g9 0 8), I n.commit, I n.clock, I n.limit, .w (sl 1 cI n.votes) (g9 0 12), .w (sl 4 Peer.c n.peers) (g9 0 13)]), (5, .w (sl 12 Message.c (n.peers.map (sendN n))) (go12_1_1 0 0)), (6, Bo true)]) (fun all hall f hf b0 hb K hK => ?_) ?_
    ·skip
     have ro12_5 : ∀ B, ∀ (go12_1_1 : Nat → Nat → Value), RA f E B all 0 (bt 5 31) ⟨53, [(4, .obj b2 [I n.id, I n.term_, I n.vote, I n.role, I n.lead, .w (sl 1 cI n.conf) (g9 0 5), I n.log.start, I n.log.startTerm, .w (sl 3 Entry.c n.log.entries) (g9 0 8), I n.commit, I n.clock, I n.limit, .w (sl 1 cI n.votes) (g9 0 12), .w (sl 4 Peer.c n.peers) (g9 0 13)]), (5, .w (sl 12 Message.c (n.peers.map (sendN n))) (go12_1_1 0 0)), (6, Bo true)] ++ b0⟩ K := by
      intro B go12_1_1
      exact RA.of2 hall hf hb (RA.finH (Tell.of rfl) (by kernel_rfl) (hK go12_1_1 _ rfl (Le.of rfl)))
     have ro12_4 : ∀ B, ∀ (go12_1_1 : Nat → Nat → Value), RA f E B all 2 (bt 5 7) ⟨53, [(4, .obj b2 [I n.id, I n.term_, I n.vote, I n.role, I n.lead, .w (sl 1 cI n.conf) (g9 0 5), I n.log.start, I n.log.startTerm, .w (sl 3 Entry.c n.log.entries) (g9 0 8), I n.commit, I n.clock, I n.limit, .w (sl 1 cI n.votes) (g9 0 12), .w (sl 4 Peer.c n.peers) (g9 0 13)]), (24, .w (sl 12 Message.c (n.peers.map (sendN n))) (go12_1_1 0 0))] ++ b0⟩ K := by
      intro B go12_1_1
      refine RA.of2 hall hf hb (RA.stepH (L := [3]) (Tell.of rfl) (by kernel_rfl) (by simp) (RA.each ?_ (RA.each0)))
      ·skip
       refine RO.assignMove rfl rfl rfl rfl rfl (by decide) (Nat.le_of_ble_eq_true rfl) (Nat.le_of_ble_eq_true rfl) ?_
       refine RA.fr XK 53 0 [4] (bt 5 31) rfl rfl (by kernel_rfl) (Tell.of rfl) ?_
       (conv=>whnf);refine ⟨rfl,fun B=>?_⟩
       exact RA.to2 hall hf hb (ro12_5 B go12_1_1) rfl rfl (by kernel_rfl)
     have ro12_3 : ∀ B, ∀ (go12_1_1 : Nat → Nat → Value), RA f E B all 3 (bt 5 3) ⟨53, [(4, .obj b2 [I 0, I 0, I 0, I 0, I 0, .r (.v (.slice none 0 0)), I 0, I 0, .r (.v (.slice none 0 0)), I 0, I 0, I 0, .r (.v (.slice none 0 0)), .r (.v (.slice none 0 0))]), (7, .obj b10 [I n.id, I n.term_, I n.vote, I n.role, I n.lead, .w (sl 1 cI n.conf) (g9 0 5), I n.log.start, I n.log.startTerm, .w (sl 3 Entry.c n.log.entries) (g9 0 8), I n.commit, I n.clock, I n.limit, .w (sl 1 cI n.votes) (g9 0 12), .w (sl 4 Peer.c n.peers) (g9 0 13)]), (23, .agg [I n.id, I n.term_, I n.vote, I n.role, I n.lead, .al 7 (some 5) 1 n.conf.length (g9 0 5) 0, I n.log.start, I n.log.startTerm, .al 7 (some 8) 3 n.log.entries.length (g9 0 8) 0, I n.commit, I n.clock, I n.limit, .al 7 (some 12) 1 n.votes.length (g9 0 12) 0, .al 7 (some 13) 4 n.peers.length (g9 0 13) 0]), (24, .w (sl 12 Message.c (n.peers.map (sendN n))) (go12_1_1 0 0))] ++ b0⟩ K := by
      intro B go12_1_1
      refine RA.of2 hall hf hb (RA.stepH (L := [2]) (Tell.of rfl) (by kernel_rfl) (by simp) (RA.each ?_ (RA.each0)))
      ·skip
       refine RO.storeAgg (es := [I n.id, I n.term_, I n.vote, I n.role, I n.lead, .al 7 (some 5) 1 n.conf.length (g9 0 5) 0, I n.log.start, I n.log.startTerm, .al 7 (some 8) 3 n.log.entries.length (g9 0 8) 0, I n.commit, I n.clock, I n.limit, .al 7 (some 12) 1 n.votes.length (g9 0 12) 0, .al 7 (some 13) 4 n.peers.length (g9 0 13) 0]) rfl rfl rfl rfl rfl rfl rfl rfl rfl rfl (Nat.le_of_ble_eq_true rfl) rfl ?_
       refine RA.keep 53 [4,7,24] rfl ?_;(conv=>whnf);refine ⟨?_⟩
       refine RA.pullO (k := 4) (l := 7) (j := 5) 4 7 5 rfl rfl rfl (by decide) rfl rfl rfl rfl ?_
       refine RA.keep 53 [4,7,24] rfl ?_;(conv=>whnf);refine ⟨?_⟩
       refine RA.pullO (k := 4) (l := 7) (j := 8) 4 7 8 rfl rfl rfl (by decide) rfl rfl rfl rfl ?_
       refine RA.keep 53 [4,7,24] rfl ?_;(conv=>whnf);refine ⟨?_⟩
       refine RA.pullO (k := 4) (l := 7) (j := 12) 4 7 12 rfl rfl rfl (by decide) rfl rfl rfl rfl ?_
       refine RA.keep 53 [4,7,24] rfl ?_;(conv=>whnf);refine ⟨?_⟩
       refine RA.pullO (k := 4) (l := 7) (j := 13) 4 7 13 rfl rfl rfl (by decide) rfl rfl rfl rfl ?_
       refine RA.keep 53 [4,24] rfl ?_;(conv=>whnf);refine ⟨?_⟩
       exact RA.to2 hall hf hb (ro12_4 B go12_1_1) rfl rfl (by kernel_rfl)
     have ro12_2 : ∀ B, ∀ (go12_1_1 : Nat → Nat → Value), RA f E B all 4 (bt 5 2) ⟨53, [(4, .obj b2 [I 0, I 0, I 0, I 0, I 0, .r (.v (.slice none 0 0)), I 0, I 0, .r (.v (.slice none 0 0)), I 0, I 0, I 0, .r (.v (.slice none 0 0)), .r (.v (.slice none 0 0))]), (7, .obj b10 [I n.id, I n.term_, I n.vote, I n.role, I n.lead, .w (sl 1 cI n.conf) (g9 0 5), I n.log.start, I n.log.startTerm, .w (sl 3 Entry.c n.log.entries) (g9 0 8), I n.commit, I n.clock, I n.limit, .w (sl 1 cI n.votes) (g9 0 12), .w (sl 4 Peer.c n.peers) (g9 0 13)]), (24, .w (sl 12 Message.c (n.peers.map (sendN n))) (go12_1_1 0 0))] ++ b0⟩ K := by
      intro B go12_1_1
      refine RA.of2 hall hf hb (RA.stepH (L := [0]) (Tell.of rfl) (by kernel_rfl) (by simp) (RA.each ?_ (RA.each0)))
      ·skip
       refine RO.v rfl rfl (V.loadAgg rfl rfl rfl rfl rfl (Nat.le_of_ble_eq_true rfl)) rfl ?_
       exact RA.to2 hall hf hb (ro12_3 B go12_1_1) rfl rfl (by kernel_rfl)
     have ro12_1 : ∀ B, RA f E B all 4 (bt 5 1) ⟨53, [(4, .obj b2 [I 0, I 0, I 0, I 0, I 0, .r (.v (.slice none 0 0)), I 0, I 0, .r (.v (.slice none 0 0)), I 0, I 0, I 0, .r (.v (.slice none 0 0)), .r (.v (.slice none 0 0))]), (7, .obj b10 [I n.id, I n.term_, I n.vote, I n.role, I n.lead, .w (sl 1 cI n.conf) (g9 0 5), I n.log.start, I n.log.startTerm, .w (sl 3 Entry.c n.log.entries) (g9 0 8), I n.commit, I n.clock, I n.limit, .w (sl 1 cI n.votes) (g9 0 12), .w (sl 4 Peer.c n.peers) (g9 0 13)]), (23, .agg [I n.id, I n.term_, I n.vote, I n.role, I n.lead, .al 7 (some 5) 1 n.conf.length (g9 0 5) 0, I n.log.start, I n.log.startTerm, .al 7 (some 8) 3 n.log.entries.length (g9 0 8) 0, I n.commit, I n.clock, I n.limit, .al 7 (some 12) 1 n.votes.length (g9 0 12) 0, .al 7 (some 13) 4 n.peers.length (g9 0 13) 0])] ++ b0⟩ K := by
      intro B
      refine RA.of2 hall hf hb (RA.stepH (L := [1]) (Tell.of rfl) (by kernel_rfl) (by simp) (RA.each ?_ (RA.each0)))
      ·skip
       refine RO.callOwn rfl rfl (__impl_Node__sendAll_fn n hl (nodeOk_peers hn hl hr2) hok.1.1 hok.2.2.2.1) rfl (.cons (.one (.r (.pt rfl rfl (DRd.r (DRd.r (DRd.r (DRd.r (DRd.r (DRd.ow (DRd.r (DRd.r (DRd.ow (DRd.r (DRd.r (DRd.r (DRd.ow (DRd.ow DRd.e)))))))))))))) nofun))) (.nil)) rfl rfl fun go12_1_1 => ?_
       exact RA.to2 hall hf hb (ro12_3 B go12_1_1) rfl rfl (by kernel_rfl)
     have ro12_0 : ∀ B, RA f E B all 5 (bt 5 0) ⟨53, [(4, .obj b2 [I 0, I 0, I 0, I 0, I 0, .r (.v (.slice none 0 0)), I 0, I 0, .r (.v (.slice none 0 0)), I 0, I 0, I 0, .r (.v (.slice none 0 0)), .r (.v (.slice none 0 0))]), (7, .obj b10 [I n.id, I n.term_, I n.vote, I n.role, I n.lead, .w (sl 1 cI n.conf) (g9 0 5), I n.log.start, I n.log.startTerm, .w (sl 3 Entry.c n.log.entries) (g9 0 8), I n.commit, I n.clock, I n.limit, .w (sl 1 cI n.votes) (g9 0 12), .w (sl 4 Peer.c n.peers) (g9 0 13)])] ++ b0⟩ K := by
      intro B
      refine RA.of2 hall hf hb (RA.stepH (L := [0, 1]) (Tell.of rfl) (by kernel_rfl) (by simp) (RA.each ?_ (RA.each ?_ (RA.each0))))
      ·skip
       refine RO.v rfl rfl (V.loadAgg rfl rfl rfl rfl rfl (Nat.le_of_ble_eq_true rfl)) rfl ?_
       exact RA.to2 hall hf hb (ro12_1 B) rfl rfl (by kernel_rfl)
      ·skip
       refine RO.callOwn rfl rfl (__impl_Node__sendAll_fn n hl (nodeOk_peers hn hl hr2) hok.1.1 hok.2.2.2.1) rfl (.cons (.one (.r (.pt rfl rfl (DRd.r (DRd.r (DRd.r (DRd.r (DRd.r (DRd.ow (DRd.r (DRd.r (DRd.ow (DRd.r (DRd.r (DRd.r (DRd.ow (DRd.ow DRd.e)))))))))))))) nofun))) (.nil)) rfl rfl fun go12_1_1 => ?_
       exact RA.to2 hall hf hb (ro12_2 B go12_1_1) rfl rfl (by kernel_rfl)
     exact RA.start (by kernel_rfl) (by kernel_rfl) (RA.to2 hall hf hb (ro12_0 B) rfl rfl rfl)
    ·rintro go12_1_1
     refine CW.ret ?_
     exact Post.tup (by decide) (RVs.c (RV.c (f := fun e => (Node.c e).map .w) (e' := n) rfl rfl rfl rfl (DT.v (DT.v (DT.v (DT.v (DT.v (DT.w (DT.v (DT.v (DT.w (DT.v (DT.v (DT.v (DT.w (DT.w DT.e)))))))))))))) (by rw [tick_lead hgd h11])) (RVs.c (RV.w rfl (by rw [tick_lead hgd h11])) (RVs.c (RV.b rfl (by rw [tick_lead hgd h11])) RVs.e))) (AOs.a rfl (AOs.r AOs.e))
   ·skip
    refine CW.skip ?_
    refine CW.keep 53 [1,2,4,7] rfl ?_;(conv=>whnf);refine ⟨?_⟩
    refine CW.k XK 53 1 [1,2,4,7] rfl ?_
    (conv=>whnf);refine ⟨rfl,?_⟩
    refine CW.seq ?_
    refine CW.k XK 53 1 [1,2,4,7,33] rfl ?_
    (conv=>whnf);refine ⟨rfl,?_⟩
    refine CW.cond rfl (fun h13 => ?_) (fun h13 => ?_)
    ·skip
     refine CW.seq ?_
     refine CW.region ?_
     refine RW.k XK 53 2 rfl ?_
     (conv=>whnf);refine ⟨rfl,?_⟩
     refine RW.keep 53 [4,7] rfl ?_;(conv=>whnf);refine ⟨?_⟩
     refine RW.pullO (k := 4) (l := 7) (j := 5) 4 7 5 rfl rfl rfl (by decide) rfl rfl rfl rfl ?_
     refine RW.keep 53 [4,7] rfl ?_;(conv=>whnf);refine ⟨?_⟩
     refine RW.pullO (k := 4) (l := 7) (j := 8) 4 7 8 rfl rfl rfl (by decide) rfl rfl rfl rfl ?_
     refine RW.keep 53 [4,7] rfl ?_;(conv=>whnf);refine ⟨?_⟩
     refine RW.pullO (k := 4) (l := 7) (j := 12) 4 7 12 rfl rfl rfl (by decide) rfl rfl rfl rfl ?_
     refine RW.keep 53 [4,7] rfl ?_;(conv=>whnf);refine ⟨?_⟩
     refine RW.pullO (k := 4) (l := 7) (j := 13) 4 7 13 rfl rfl rfl (by decide) rfl rfl rfl rfl ?_
     refine RW.keep 53 [4,7] rfl ?_;(conv=>whnf);refine ⟨?_⟩
     refine RW.k XK 53 2 rfl ?_
     (conv=>whnf);refine ⟨rfl,?_⟩
     refine RW.nil ?_
     refine CW.keep 53 [4,5,6] rfl ?_;(conv=>whnf);refine ⟨?_⟩
     refine CW.ret ?_
     exact Post.tup (by decide) (RVs.c (RV.c (f := fun e => (Node.c e).map .w) (e' := (⟨n.id, n.term_, n.vote, n.role, n.lead, n.conf, n.log, n.commit, (IntKind.i64.wrap (n.clock + 1)), n.limit, n.votes, n.peers⟩ : Node)) rfl rfl rfl rfl (DT.v (DT.v (DT.v (DT.v (DT.v (DT.w (DT.v (DT.v (DT.w (DT.v (DT.v (DT.v (DT.w (DT.w DT.e)))))))))))))) (by rw [tick_wait hgd h11 h13])) (RVs.c (RV.n rfl (by rw [tick_wait hgd h11 h13])) (RVs.c (RV.b rfl (by rw [tick_wait hgd h11 h13])) RVs.e))) (AOs.a rfl (AOs.r AOs.e))
    ·skip
     refine CW.skip ?_
     refine CW.keep 53 [1,2,4,7] rfl ?_;(conv=>whnf);refine ⟨?_⟩
     refine CW.k XK 53 1 [2,4,7] rfl ?_
     (conv=>whnf);refine ⟨rfl,?_⟩
     refine CW.seq ?_
     refine CW.anyP (fc := [(4, b2, [.int .i64 0, .int .i64 0, .int .i64 0, .int .i64 0, .int .i64 0, .slice none 0 0, .int .i64 0, .int .i64 0, .slice none 0 0, .int .i64 0, .int .i64 0, .int .i64 0, .slice none 0 0, .slice none 0 0]), (7, b10, [.int .i64 n.id, .int .i64 n.term_, .int .i64 n.vote, .int .i64 n.role, .int .i64 n.lead, (g9 0 5), .int .i64 n.log.start, .int .i64 n.log.startTerm, (g9 0 8), .int .i64 n.commit, .int .i64 0, .int .i64 limit, (g9 0 12), (g9 0 13)])]) 53 (fun (v14 : Bool) => [(4, .obj b2 [I 0, I 0, I 0, I 0, I 0, .r (.v (.slice none 0 0)), I 0, I 0, .r (.v (.slice none 0 0)), I 0, I 0, I 0, .r (.v (.slice none 0 0)), .r (.v (.slice none 0 0))]), (7, .obj b10 [I n.id, I n.term_, I n.vote, I n.role, I n.lead, .w (sl 1 cI n.conf) (g9 0 5), I n.log.start, I n.log.startTerm, .w (sl 3 Entry.c n.log.entries) (g9 0 8), I n.commit, I 0, I limit, .w (sl 1 cI n.votes) (g9 0 12), .w (sl 4 Peer.c n.peers) (g9 0 13)]), (48, Bo v14)]) (fun (v14 : Bool) => v14 = (decide (n.term_ ≥ 100000) || (!(hasI ((lastC n (logLast n.log).1).2) n.id)))) (fun K hK => ?_) ?_
     ·refine RA.start (m := 11) (ls' := (bt 11 0)) (by kernel_rfl) (by kernel_rfl) ?_
      refine RA.keep 53 [2,4,7] rfl ?_;(conv=>whnf);refine ⟨?_⟩
      refine RA.fr XK 53 7 [0,1,2,3] (bt 11 15) rfl rfl (by kernel_rfl) (Tell.of rfl) ?_
      (conv=>whnf);refine ⟨rfl,fun B=>?_⟩
      refine RA.keep 53 [2,4,7,41] rfl ?_;(conv=>whnf);refine ⟨?_⟩
      refine RA.bool 41 rfl (fun h15 => ?_) (fun h15 => ?_)
      ·skip
       refine RA.firstF (i := 4) (ls' := (bt 11 31)) (Tell.of rfl) (by kernel_rfl) rfl rfl rfl rfl rfl (.inl rfl) ?_
       refine RA.firstF (i := 5) (ls' := (bt 11 63)) (Tell.of rfl) (by kernel_rfl) rfl rfl rfl rfl rfl (.inl rfl) ?_
       refine RA.firstF (i := 6) (ls' := (bt 11 127)) (Tell.of rfl) (by kernel_rfl) rfl rfl rfl rfl rfl (.inl rfl) ?_
       refine RA.firstF (i := 7) (ls' := (bt 11 255)) (Tell.of rfl) (by kernel_rfl) rfl rfl rfl rfl rfl (.inl rfl) ?_
       refine RA.firstF (i := 8) (ls' := (bt 11 511)) (Tell.of rfl) (by kernel_rfl) rfl rfl rfl rfl rfl (.inl rfl) ?_
       refine RA.firstF (i := 9) (ls' := (bt 11 1023)) (Tell.of rfl) (by kernel_rfl) rfl rfl rfl rfl rfl (.inl rfl) ?_
       refine RA.fr XK 53 0 [10] (bt 11 2047) rfl rfl (by kernel_rfl) (Tell.of rfl) ?_
       (conv=>whnf);refine ⟨rfl,fun B=>?_⟩
       exact RA.finH (Tell.of rfl) (by kernel_rfl) (hK _ _ (by first | rfl | (simp_all; done) | grind) rfl (Le.of rfl))
      ·skip
       refine RA.firstT (i := 6) (ls' := (bt 11 79)) (Tell.of rfl) (by kernel_rfl) rfl rfl rfl rfl rfl rfl (VF.p (V.fieldR rfl rfl rfl rfl (by decide) rfl (Nat.le_of_ble_eq_true rfl))) ?_
       refine RA.keep 53 [2,4,7,41,44] rfl ?_;(conv=>whnf);refine ⟨?_⟩
       refine RA.stepG (L := [4, 7]) (Tell.of rfl) (by kernel_rfl) (by simp) (RA.eachG ?_ (RA.eachG ?_ (RA.eachG0)))
       ·skip
        refine RG.v rfl (.inr ⟨_, _, _, _, rfl, rfl, rfl, rfl⟩) (V.loadAggR rfl rfl rfl rfl (Nat.le_of_ble_eq_true rfl)) rfl ?_
        refine RA.keep 53 [4,7,41,42,44] rfl ?_;(conv=>whnf);refine ⟨?_⟩
        refine RA.stepG (L := [5, 7]) (Tell.of rfl) (by kernel_rfl) (by simp) (RA.eachG ?_ (RA.eachG ?_ (RA.eachG0)))
        ·skip
         refine RG.call rfl (.inr ⟨_, _, _, _, rfl, rfl, rfl, rfl⟩) (impl_ConfOf_fn n hok) rfl (.cons (.agg (.cons (.r .r) (.cons (.r .r) (.cons (.r .r) (.cons (.r .r) (.cons (.r .r) (.cons (.r .r) (.cons (.r .r) (.cons (.r .r) (.cons (.r .r) (.cons (.r .r) (.cons (.r .r) (.cons (.r .r) (.cons (.r .r) (.cons (.r .r) (.nil)))))))))))))))) (.nil)) rfl fun g16 => ?_
         refine RA.keep 53 [4,7,41,43,44] rfl ?_;(conv=>whnf);refine ⟨?_⟩
         refine RA.oneV (i := 7) (ls' := (bt 11 255)) (Tell.of rfl) (by kernel_rfl) rfl rfl rfl rfl rfl rfl (V.loadPrimR (t0 := .v (.int .i64 n.id)) rfl rfl (.inl rfl) rfl rfl) ?_
         refine RA.keep 53 [4,7,41,43,45] rfl ?_;(conv=>whnf);refine ⟨?_⟩
         refine RA.oneCallOwn (i := 8) (ls' := (bt 11 511)) (Tell.of rfl) (by kernel_rfl) rfl rfl rfl rfl rfl rfl (slices_Contains___int_int__fn ((lastC n (logLast n.log).1).2) n.id) rfl (.cons (.one (.r (.al (k := none) (i := 43) (sz := 1) (V := (g16 0 0)) rfl rfl nofun))) (.cons (.one (.r .r)) (.nil))) rfl fun g17 => ?_
         refine RA.firstT (i := 9) (ls' := (bt 11 1023)) (Tell.of rfl) (by kernel_rfl) rfl rfl rfl rfl rfl rfl (VF.p (V.not rfl rfl)) ?_
         refine RA.fr XK 53 0 [10] (bt 11 2047) rfl rfl (by kernel_rfl) (Tell.of rfl) ?_
         (conv=>whnf);refine ⟨rfl,fun B=>?_⟩
         exact RA.finH (Tell.of rfl) (by kernel_rfl) (hK _ _ (by first | rfl | (simp_all; done) | grind) rfl (Le.of rfl))
        ·skip
         refine RG.v rfl (.inr ⟨_, _, _, _, rfl, rfl, rfl, rfl⟩) (V.loadPrimR (t0 := .v (.int .i64 n.id)) rfl rfl (.inl rfl) rfl rfl) rfl ?_
         refine RA.keep 53 [4,7,41,42,45] rfl ?_;(conv=>whnf);refine ⟨?_⟩
         refine RA.oneCall (i := 5) (ls' := (bt 11 255)) (Tell.of rfl) (by kernel_rfl) rfl rfl rfl rfl rfl rfl (impl_ConfOf_fn n hok) rfl (.cons (.agg (.cons (.r .r) (.cons (.r .r) (.cons (.r .r) (.cons (.r .r) (.cons (.r .r) (.cons (.r .r) (.cons (.r .r) (.cons (.r .r) (.cons (.r .r) (.cons (.r .r) (.cons (.r .r) (.cons (.r .r) (.cons (.r .r) (.cons (.r .r) (.nil)))))))))))))))) (.nil)) fun g18 => ?_
         refine RA.keep 53 [4,7,41,43,45] rfl ?_;(conv=>whnf);refine ⟨?_⟩
         refine RA.oneCallOwn (i := 8) (ls' := (bt 11 511)) (Tell.of rfl) (by kernel_rfl) rfl rfl rfl rfl rfl rfl (slices_Contains___int_int__fn ((lastC n (logLast n.log).1).2) n.id) rfl (.cons (.one (.r (.al (k := none) (i := 43) (sz := 1) (V := (g18 0 0)) rfl rfl nofun))) (.cons (.one (.r .r)) (.nil))) rfl fun g19 => ?_
         refine RA.firstT (i := 9) (ls' := (bt 11 1023)) (Tell.of rfl) (by kernel_rfl) rfl rfl rfl rfl rfl rfl (VF.p (V.not rfl rfl)) ?_
         refine RA.fr XK 53 0 [10] (bt 11 2047) rfl rfl (by kernel_rfl) (Tell.of rfl) ?_
         (conv=>whnf);refine ⟨rfl,fun B=>?_⟩
         exact RA.finH (Tell.of rfl) (by kernel_rfl) (hK _ _ (by first | rfl | (simp_all; done) | grind) rfl (Le.of rfl))
       ·skip
        refine RG.v rfl (.inr ⟨_, _, _, _, rfl, rfl, rfl, rfl⟩) (V.loadPrimR (t0 := .v (.int .i64 n.id)) rfl rfl (.inl rfl) rfl rfl) rfl ?_
        refine RA.keep 53 [2,4,7,41,45] rfl ?_;(conv=>whnf);refine ⟨?_⟩
        refine RA.oneV (i := 4) (ls' := (bt 11 223)) (Tell.of rfl) (by kernel_rfl) rfl rfl rfl rfl rfl rfl (V.loadAggR rfl rfl rfl rfl (Nat.le_of_ble_eq_true rfl)) ?_
        refine RA.keep 53 [4,7,41,42,45] rfl ?_;(conv=>whnf);refine ⟨?_⟩
        refine RA.oneCall (i := 5) (ls' := (bt 11 255)) (Tell.of rfl) (by kernel_rfl) rfl rfl rfl rfl rfl rfl (impl_ConfOf_fn n hok) rfl (.cons (.agg (.cons (.r .r) (.cons (.r .r) (.cons (.r .r) (.cons (.r .r) (.cons (.r .r) (.cons (.r .r) (.cons (.r .r) (.cons (.r .r) (.cons (.r .r) (.cons (.r .r) (.cons (.r .r) (.cons (.r .r) (.cons (.r .r) (.cons (.r .r) (.nil)))))))))))))))) (.nil)) fun g20 => ?_
        refine RA.keep 53 [4,7,41,43,45] rfl ?_;(conv=>whnf);refine ⟨?_⟩
        refine RA.oneCallOwn (i := 8) (ls' := (bt 11 511)) (Tell.of rfl) (by kernel_rfl) rfl rfl rfl rfl rfl rfl (slices_Contains___int_int__fn ((lastC n (logLast n.log).1).2) n.id) rfl (.cons (.one (.r (.al (k := none) (i := 43) (sz := 1) (V := (g20 0 0)) rfl rfl nofun))) (.cons (.one (.r .r)) (.nil))) rfl fun g21 => ?_
        refine RA.firstT (i := 9) (ls' := (bt 11 1023)) (Tell.of rfl) (by kernel_rfl) rfl rfl rfl rfl rfl rfl (VF.p (V.not rfl rfl)) ?_
        refine RA.fr XK 53 0 [10] (bt 11 2047) rfl rfl (by kernel_rfl) (Tell.of rfl) ?_
        (conv=>whnf);refine ⟨rfl,fun B=>?_⟩
        exact RA.finH (Tell.of rfl) (by kernel_rfl) (hK _ _ (by first | rfl | (simp_all; done) | grind) rfl (Le.of rfl))
     ·rintro v14 hv22
      refine CW.cond rfl (fun h23 => ?_) (fun h23 => ?_)
      ·skip
       have hst : (decide (n.term_ ≥ 100000) || !hasI (confN n) n.id) = true := hv22.symm.trans h23
       refine CW.seq ?_
       refine CW.region ?_
       refine RW.k XK 53 2 rfl ?_
       (conv=>whnf);refine ⟨rfl,?_⟩
       refine RW.keep 53 [4,7] rfl ?_;(conv=>whnf);refine ⟨?_⟩
       refine RW.pullO (k := 4) (l := 7) (j := 5) 4 7 5 rfl rfl rfl (by decide) rfl rfl rfl rfl ?_
       refine RW.keep 53 [4,7] rfl ?_;(conv=>whnf);refine ⟨?_⟩
       refine RW.pullO (k := 4) (l := 7) (j := 8) 4 7 8 rfl rfl rfl (by decide) rfl rfl rfl rfl ?_
       refine RW.keep 53 [4,7] rfl ?_;(conv=>whnf);refine ⟨?_⟩
       refine RW.pullO (k := 4) (l := 7) (j := 12) 4 7 12 rfl rfl rfl (by decide) rfl rfl rfl rfl ?_
       refine RW.keep 53 [4,7] rfl ?_;(conv=>whnf);refine ⟨?_⟩
       refine RW.pullO (k := 4) (l := 7) (j := 13) 4 7 13 rfl rfl rfl (by decide) rfl rfl rfl rfl ?_
       refine RW.keep 53 [4,7] rfl ?_;(conv=>whnf);refine ⟨?_⟩
       refine RW.k XK 53 2 rfl ?_
       (conv=>whnf);refine ⟨rfl,?_⟩
       refine RW.nil ?_
       refine CW.keep 53 [4,5,6] rfl ?_;(conv=>whnf);refine ⟨?_⟩
       refine CW.ret ?_
       exact Post.tup (by decide) (RVs.c (RV.c (f := fun e => (Node.c e).map .w) (e' := (⟨n.id, n.term_, n.vote, n.role, n.lead, n.conf, n.log, n.commit, 0, limit, n.votes, n.peers⟩ : Node)) rfl rfl rfl rfl (DT.v (DT.v (DT.v (DT.v (DT.v (DT.w (DT.v (DT.v (DT.w (DT.v (DT.v (DT.v (DT.w (DT.w DT.e)))))))))))))) (by rw [tick_stay hgd h11 h13 hst])) (RVs.c (RV.n rfl (by rw [tick_stay hgd h11 h13 hst])) (RVs.c (RV.b rfl (by rw [tick_stay hgd h11 h13 hst])) RVs.e))) (AOs.a rfl (AOs.r AOs.e))
      ·skip
       have hst : (decide (n.term_ ≥ 100000) || !hasI (confN n) n.id) = false := hv22.symm.trans h23
       have hterm : 0 ≤ n.term_ ∧ n.term_ < 100000 := by unfold inR at htm; simp at htm hst; omega
       refine CW.skip ?_
       refine CW.keep 53 [4,7] rfl ?_;(conv=>whnf);refine ⟨?_⟩
       refine CW.seq ?_
       refine CW.region ?_
       refine RW.callW (k := 7) (__impl_Node__stand_fn (⟨n.id, n.term_, n.vote, n.role, n.lead, n.conf, n.log, n.commit, 0, limit, n.votes, n.peers⟩ : Node) hl hok hterm) rfl rfl (Nat.le_of_ble_eq_true rfl) (by decide) (.here (AsW.ob (DT.v (DT.v (DT.v (DT.v (DT.v (DT.w (DT.v (DT.v (DT.w (DT.v (DT.v (DT.v (DT.w (DT.w DT.e)))))))))))))) rfl) (.nil)) rfl fun g24 q25 => ?_
       refine RW.assignMove rfl rfl rfl (by decide) (Nat.le_of_ble_eq_true rfl) (Nat.le_of_ble_eq_true rfl) ?_
       refine RW.nil ?_
       refine CW.keep 53 [4,7,8] rfl ?_;(conv=>whnf);refine ⟨?_⟩
       refine CW.seq ?_
       refine CW.region ?_
       refine RW.k XK 53 3 rfl ?_
       (conv=>whnf);refine ⟨rfl,?_⟩
       refine RW.keep 53 [4,7,8,52] rfl ?_;(conv=>whnf);refine ⟨?_⟩
       refine RW.pullO (k := 4) (l := 7) (j := 5) 4 7 5 rfl rfl rfl (by decide) rfl rfl rfl rfl ?_
       refine RW.keep 53 [4,7,8,52] rfl ?_;(conv=>whnf);refine ⟨?_⟩
       refine RW.pullO (k := 4) (l := 7) (j := 8) 4 7 8 rfl rfl rfl (by decide) rfl rfl rfl rfl ?_
       refine RW.keep 53 [4,7,8,52] rfl ?_;(conv=>whnf);refine ⟨?_⟩
       refine RW.pullO (k := 4) (l := 7) (j := 12) 4 7 12 rfl rfl rfl (by decide) rfl rfl rfl rfl ?_
       refine RW.keep 53 [4,7,8,52] rfl ?_;(conv=>whnf);refine ⟨?_⟩
       refine RW.pullO (k := 4) (l := 7) (j := 13) 4 7 13 rfl rfl rfl (by decide) rfl rfl rfl rfl ?_
       refine RW.keep 53 [4,7,8,52] rfl ?_;(conv=>whnf);refine ⟨?_⟩
       refine RW.k XK 53 1 rfl ?_
       (conv=>whnf);refine ⟨rfl,?_⟩
       refine RW.pullS 5 8 (by decide) rfl rfl ?_
       refine RW.k XK 53 1 rfl ?_
       (conv=>whnf);refine ⟨rfl,?_⟩
       refine RW.nil ?_
       refine CW.keep 53 [4,5,6] rfl ?_;(conv=>whnf);refine ⟨?_⟩
       refine CW.ret ?_
       exact Post.tup (by decide) (RVs.c (RV.c (f := fun e => (Node.c e).map .w) (e' := ((standN (⟨n.id, n.term_, n.vote, n.role, n.lead, n.conf, n.log, n.commit, 0, limit, n.votes, n.peers⟩ : Node)).1)) rfl rfl rfl rfl (DT.v (DT.v (DT.v (DT.v (DT.v (DT.w (DT.v (DT.v (DT.w (DT.v (DT.v (DT.v (DT.w (DT.w DT.e)))))))))))))) (by rw [tick_go hgd h11 h13 hst])) (RVs.c (RV.w rfl (by rw [tick_go hgd h11 h13 hst])) (RVs.c (RV.b rfl (by rw [tick_go hgd h11 h13 hst])) RVs.e))) (AOs.a rfl (AOs.r AOs.e))
set_option maxHeartbeats 4000000 in
theorem spec_l01In_fn (n : Int) (x : Int) (y : Int) : Eng.Fn E.P 56 [.one (.r (.v (.int .i64 n))), .one (.r (.v (.int .i64 x))), .one (.r (.v (.int .i64 y)))] (.one (.one (.w (.v (.bool (inR n x y)))))) [.one (.r (.v (.int .i64 n))), .one (.r (.v (.int .i64 x))), .one (.r (.v (.int .i64 y)))] := by
 refine Eng.Fn.intro (E := E) (rvs := [.tmp 6]) Try.func56 rfl rfl rfl (by simp [outSlots, moved, rvSlot, sl]) ?_
 intro B g bo
 refine CW.keep 15 [0,1,2] rfl ?_;(conv=>whnf);refine ⟨?_⟩
 refine CW.k XK 15 1 [0,1,2] rfl ?_
 (conv=>whnf);refine ⟨rfl,?_⟩
 refine CW.seqJ 15 (fun (v1 : Bool) => [(6, Bo v1)]) (fun v1 => v1 = (decide (n ≥ x) && decide (n ≤ y))) ?_ ?_
 ·refine CW.region ?_
  refine RW.k XK 15 4 rfl ?_
  (conv=>whnf);refine ⟨rfl,?_⟩
  refine RW.gv rfl rfl rfl rfl (fun h2 => V.mv (d := I n) rfl rfl) (fun h2 => ?_) (fun h2 => ?_)
  ·skip
   refine RW.k XK 15 4 rfl ?_
   (conv=>whnf);refine ⟨rfl,?_⟩
   refine RW.nil ?_
   exact ⟨_, by first | rfl | (simp_all; done) | (simp_all; omega) | grind, rfl, Le.of rfl⟩
  ·skip
   refine RW.k XK 15 4 rfl ?_
   (conv=>whnf);refine ⟨rfl,?_⟩
   refine RW.nil ?_
   exact ⟨_, by first | rfl | (simp_all; done) | (simp_all; omega) | grind, rfl, Le.of rfl⟩
 ·intro v1 hv3
  refine CW.ret ?_
  exact Post.one (RV.b rfl (by simp_all [inR])) (AOs.r (AOs.r (AOs.r AOs.e)))
set_option maxHeartbeats 4000000 in
theorem spec_l05Rise_fn (a : List Int) (lo : Int) (hi : Int) : Eng.Fn E.P 60 [.one (.r (sl 1 cI a)), .one (.r (.v (.int .i64 lo))), .one (.r (.v (.int .i64 hi)))] (.one (.one (.w (.v (.bool (riseOk lo hi none a)))))) [.one (.r (sl 1 cI a)), .one (.r (.v (.int .i64 lo))), .one (.r (.v (.int .i64 hi)))] := by
 refine Eng.Fn.intro (E := E) (rvs := [.tmp 6]) Try.func60 rfl rfl rfl (by simp [outSlots, moved, rvSlot, sl]) ?_
 intro B g bo
 refine CW.bound (x := .tmp 0) (n := a.length) (AsT.r) (fun hl0 => ?_)
 refine CW.keep 38 [0,1,2] rfl ?_;(conv=>whnf);refine ⟨?_⟩
 refine CW.k XK 38 1 [0,1,2] rfl ?_
 (conv=>whnf);refine ⟨rfl,?_⟩
 refine CW.seq ?_
 refine CW.k XK 38 1 [0,1,2,7] rfl ?_
 (conv=>whnf);refine ⟨rfl,?_⟩
 refine CW.block ?_
 refine CW.loopI 38 (fun (i : Nat) => [(0, .r (sl 1 cI a)), (1, I lo), (2, I hi), (7, I (i : Int))]) (fun (i : Nat) => i ≤ a.length ∧ riseOk lo hi (prevI a i) (a.drop i) = riseOk lo hi none a) (fun (i : Nat) => a.length - i) 0 rfl (Le.c rfl <| Le.c rfl <| Le.c rfl <| Le.c rfl <| Le.e) ⟨by omega, by simp [prevI]⟩ ?_
 rintro i ⟨hb, hr⟩
 refine CW.seq ?_
 refine CW.k XK 38 1 [0,1,2,7,11] rfl ?_
 (conv=>whnf);refine ⟨rfl,?_⟩
 refine CW.cond rfl (fun h1 => ?_) (fun h1 => ?_)
 ·skip
  have hii : i < a.length := by have := h1; simp at this; first | exact this | omega | (simp; done) | (simp; omega)
  obtain ⟨ei, hei⟩ : ∃ e, a[i]? = some e := ⟨_, List.getElem?_eq_getElem hii⟩
  have hdi := drop_get hei
  refine CW.skip ?_
  refine CW.keep 38 [0,1,2,7] rfl ?_;(conv=>whnf);refine ⟨?_⟩
  refine CW.seq ?_
  refine CW.block ?_
  refine CW.seqJ 38 (fun (v2 : Bool) => [(0, .r (sl 1 cI a)), (1, I lo), (2, I hi), (7, I (i : Int)), (37, Bo v2)]) (fun v2 => v2 = ((!(inR ei lo hi)) || (decide ((i : Int) > 0) && decide ((a.getD (i - 1) 0) ≥ ei)))) ?_ ?_
  ·refine CW.drawn (by kernel_rfl) ?_
   refine RQ.k XK 38 2 rfl ?_
   (conv=>whnf);refine ⟨rfl,?_⟩
   refine RQ.v rfl (V.indexS rfl rfl rfl rfl rfl rfl cI.len hei) ?_
   refine RQ.k XK 38 3 rfl ?_
   (conv=>whnf);refine ⟨rfl,?_⟩
   refine RQ.cons rfl (QOK.call (spec_l01In_fn ei lo hi) rfl (.cons (.one (.r .r)) (.cons (.one (.r .r)) (.cons (.one (.r .r)) (.nil)))) ?_)
   refine RQ.k XK 38 2 rfl ?_
   (conv=>whnf);refine ⟨rfl,?_⟩
   refine RQ.gv rfl rfl rfl rfl (fun h3 => V.mv (d := I (i : Int)) rfl rfl) (fun h3 => ?_) (fun h3 => ?_)
   ·skip
    refine RQ.k XK 38 2 rfl ?_
    (conv=>whnf);refine ⟨rfl,?_⟩
    refine RQ.gv rfl rfl rfl rfl (fun h4 => V.mv (d := .r (sl 1 cI a)) rfl rfl) (fun h4 => ?_) (fun h4 => ?_)
    ·skip
     refine RQ.k XK 38 1 rfl ?_
     (conv=>whnf);refine ⟨rfl,?_⟩
     refine RQ.gt rfl rfl rfl rfl (V.dec (m := i) rfl rfl rfl (by have := h4; simp at this; omega) (by omega)) ?_
     refine RQ.gt rfl rfl rfl rfl (V.indexS rfl rfl rfl rfl rfl rfl cI.len (getD_some (l := a) (j := i - 1) (z := 0) (by omega))) ?_
     refine RQ.k XK 38 3 rfl ?_
     (conv=>whnf);refine ⟨rfl,?_⟩
     refine RQ.gt rfl rfl rfl rfl (V.indexS rfl rfl rfl rfl rfl rfl cI.len hei) ?_
     refine RQ.k XK 38 4 rfl ?_
     (conv=>whnf);refine ⟨rfl,?_⟩
     refine RQ.nil ?_
     exact ⟨_, by first | rfl | (simp_all; done) | (simp_all; omega) | grind, rfl, Le.of rfl⟩
    ·skip
     refine RQ.k XK 38 11 rfl ?_
     (conv=>whnf);refine ⟨rfl,?_⟩
     refine RQ.nil ?_
     exact ⟨_, by first | rfl | (simp_all; done) | (simp_all; omega) | grind, rfl, Le.of rfl⟩
   ·skip
    refine RQ.k XK 38 14 rfl ?_
    (conv=>whnf);refine ⟨rfl,?_⟩
    refine RQ.nil ?_
    exact ⟨_, by first | rfl | (simp_all; done) | (simp_all; omega) | grind, rfl, Le.of rfl⟩
  ·intro v2 hv5
   refine CW.cond rfl (fun h6 => ?_) (fun h6 => ?_)
   ·skip
    refine CW.k XK 38 1 [6] rfl ?_
    (conv=>whnf);refine ⟨rfl,?_⟩
    refine CW.ret ?_
    exact Post.one (RV.b rfl (by rw [← hr, hdi, riseOk_cons]; grind [prevI])) (AOs.r (AOs.r (AOs.r AOs.e)))
   ·skip
    refine CW.skip ?_
    refine CW.keep 38 [0,1,2,7] rfl ?_;(conv=>whnf);refine ⟨?_⟩
    refine CW.region ?_
    refine RW.k XK 38 1 rfl ?_
    (conv=>whnf);refine ⟨rfl,?_⟩
    refine RW.v rfl (V.inc rfl rfl rfl hii hl0) ?_
    refine RW.k XK 38 1 rfl ?_
    (conv=>whnf);refine ⟨rfl,?_⟩
    refine RW.nil ?_
    exact ⟨i + 1, by omega, ⟨by omega, by rw [← hr, hdi, riseOk_cons, prevI_succ hei]; grind [prevI]⟩, rfl, Le.c rfl <| Le.c rfl <| Le.c rfl <| Le.c rfl <| Le.e⟩
 ·skip
  have hii : a.length ≤ i := by have := h1; simp at this; first | exact this | omega | (simp; done) | (simp; omega)
  have hdi : a.drop i = [] := List.drop_eq_nil_of_le hii
  refine CW.exit ?_
  refine CW.keep 38 [] rfl ?_;(conv=>whnf);refine ⟨?_⟩
  refine CW.k XK 38 1 [6] rfl ?_
  (conv=>whnf);refine ⟨rfl,?_⟩
  refine CW.ret ?_
  exact Post.one (RV.b rfl (by rw [← hr, hdi, riseOk_nil])) (AOs.r (AOs.r (AOs.r AOs.e)))
set_option maxHeartbeats 4000000 in
theorem spec_ConfOk_fn (a : List Int) : Eng.Fn E.P 57 [.one (.r (sl 1 cI a))] (.one (.one (.w (.v (.bool (confOk a)))))) [.one (.r (sl 1 cI a))] := by
 refine Eng.Fn.intro (E := E) (rvs := [.tmp 2]) Try.func57 rfl rfl rfl (by simp [outSlots, moved, rvSlot, sl]) ?_
 intro B g bo
 refine CW.bound (x := .tmp 0) (n := a.length) (AsT.r) (fun hl0 => ?_)
 refine CW.keep 10 [0] rfl ?_;(conv=>whnf);refine ⟨?_⟩
 refine CW.k XK 10 1 [0] rfl ?_
 (conv=>whnf);refine ⟨rfl,?_⟩
 refine CW.seqJ 10 (fun (v1 : Bool) => [(2, Bo v1)]) (fun v1 => v1 = ((inR (a.length : Int) 1 4) && (riseOk 1 4 none a))) ?_ ?_
 ·refine CW.region ?_
  refine RW.k XK 10 2 rfl ?_
  (conv=>whnf);refine ⟨rfl,?_⟩
  refine RW.call rfl (spec_l01In_fn (a.length : Int) 1 4) rfl (.cons (.one (.r .r)) (.cons (.one (.r .r)) (.cons (.one (.r .r)) (.nil)))) fun g2 => ?_
  refine RW.k XK 10 1 rfl ?_
  (conv=>whnf);refine ⟨rfl,?_⟩
  refine RW.gv rfl rfl rfl rfl (fun h3 => V.mv (d := .r (sl 1 cI a)) rfl rfl) (fun h3 => ?_) (fun h3 => ?_)
  ·skip
   refine RW.gcall rfl rfl rfl rfl (spec_l05Rise_fn a 1 4) rfl (.cons (.one (.r .r)) (.cons (.one (.r .r)) (.cons (.one (.r .r)) (.nil)))) fun g4 => ?_
   refine RW.k XK 10 2 rfl ?_
   (conv=>whnf);refine ⟨rfl,?_⟩
   refine RW.nil ?_
   exact ⟨_, by first | rfl | (simp_all; done) | (simp_all; omega) | grind, rfl, Le.of rfl⟩
  ·skip
   refine RW.k XK 10 3 rfl ?_
   (conv=>whnf);refine ⟨rfl,?_⟩
   refine RW.nil ?_
   exact ⟨_, by first | rfl | (simp_all; done) | (simp_all; omega) | grind, rfl, Le.of rfl⟩
 ·intro v1 hv5
  refine CW.ret ?_
  exact Post.one (RV.b rfl (by simp_all [confOk])) (AOs.r AOs.e)
set_option maxHeartbeats 4000000 in
theorem spec_ReadConf_fn (s : ByteArray) (hm : s.size ≤ 1048576) : Eng.Fn E.P 90 [.one (.r (.v (.string s)))] (.tup [.one (.w (sl 1 cI ((readConf s).1))), .one (.w (.v (.bool ((readConf s).2))))]) [.one (.r (.v (.string s)))] := by
 refine Eng.Fn.intro (E := E) (rvs := [.tmp 2, .tmp 3]) Try.func90 rfl rfl rfl (by simp [outSlots, moved, rvSlot, sl]) ?_
 intro B g bo
 refine CW.keep 36 [0] rfl ?_;(conv=>whnf);refine ⟨?_⟩
 refine CW.k XK 36 1 [0] rfl ?_
 (conv=>whnf);refine ⟨rfl,?_⟩
 refine CW.seq ?_
 refine CW.region ?_
 refine RW.build0 cI rfl rfl rfl rfl rfl fun X1 => ?_
 refine RW.assignMove rfl rfl rfl (by decide) (Nat.le_of_ble_eq_true rfl) (Nat.le_of_ble_eq_true rfl) ?_
 refine RW.nil ?_
 refine CW.keep 36 [0,4] rfl ?_;(conv=>whnf);refine ⟨?_⟩
 refine CW.seq ?_
 refine CW.k XK 36 1 [0,4,5] rfl ?_
 (conv=>whnf);refine ⟨rfl,?_⟩
 refine CW.block ?_
 refine CW.loopI 36 (fun (zz : Nat × Value) => match zz with | (i, X) => [(0, S s), (4, .w (sl 1 cI (bys s i)) X), (5, I (i : Int))]) (fun (zz : Nat × Value) => match zz with | (i, X) => i ≤ s.size ∧ i ≤ 5) (fun (zz : Nat × Value) => match zz with | (i, X) => s.size - i) (0, _) rfl (Le.c rfl <| Le.c rfl <| Le.c rfl <| Le.e) ⟨by omega, by omega⟩ ?_
 rintro ⟨i, X⟩ ⟨hb, hq⟩
 refine CW.seq ?_
 refine CW.seqJ 36 (fun (v2 : Bool) => [(0, S s), (4, .w (sl 1 cI (bys s i)) X), (5, I (i : Int)), (14, Bo v2)]) (fun v2 => v2 = (decide ((i : Int) < (s.size : Int)) && decide ((i : Int) ≤ 4))) ?_ ?_
 ·refine CW.region ?_
  refine RW.k XK 36 5 rfl ?_
  (conv=>whnf);refine ⟨rfl,?_⟩
  refine RW.gv rfl rfl rfl rfl (fun h3 => V.mv (d := I (i : Int)) rfl rfl) (fun h3 => ?_) (fun h3 => ?_)
  ·skip
   refine RW.k XK 36 2 rfl ?_
   (conv=>whnf);refine ⟨rfl,?_⟩
   refine RW.nil ?_
   exact ⟨_, by first | rfl | (simp_all; done) | (simp_all; omega) | grind, rfl, Le.of rfl⟩
  ·skip
   refine RW.k XK 36 2 rfl ?_
   (conv=>whnf);refine ⟨rfl,?_⟩
   refine RW.nil ?_
   exact ⟨_, by first | rfl | (simp_all; done) | (simp_all; omega) | grind, rfl, Le.of rfl⟩
 ·intro v2 hv4
  refine CW.cond rfl (fun h5 => ?_) (fun h5 => ?_)
  ·skip
   have hlt : i < s.size := by rw [hv4] at h5; simp at h5; omega
   have hl4 : i ≤ 4 := by rw [hv4] at h5; simp at h5; omega
   refine CW.skip ?_
   refine CW.keep 36 [0,4,5] rfl ?_;(conv=>whnf);refine ⟨?_⟩
   refine CW.seq ?_
   refine CW.block ?_
   refine CW.region ?_
   refine RW.k XK 36 3 rfl ?_
   (conv=>whnf);refine ⟨rfl,?_⟩
   refine RW.v rfl (V.idxStr (m := i) rfl (by kernel_rfl) rfl rfl hlt) ?_
   refine RW.k XK 36 1 rfl ?_
   (conv=>whnf);refine ⟨rfl,?_⟩
   refine RW.build1c (c := cI) (v := (IntKind.i64.wrap (bat s i))) (u := .v (.int .i64 (IntKind.i64.wrap (bat s i)))) rfl rfl rfl rfl rfl rfl (.inl rfl) rfl rfl fun X6 => ?_
   refine RW.appendSR (c := cI) (l1 := (bys s i)) (l2 := [(IntKind.i64.wrap (bat s i))]) rfl rfl rfl rfl rfl rfl rfl rfl (.al (k := none) (i := 22) (sz := 1) (V := X6) rfl rfl nofun) (by decide) (Nat.le_of_ble_eq_true rfl) cI.len (fun _ => rfl) rfl (by simp only [maxLen, bys_len, List.length_singleton]; omega) (by simp only [maxLen, bys_len, List.length_singleton]; omega) fun X7 => ?_
   refine RW.assignMove rfl rfl rfl (by decide) (Nat.le_of_ble_eq_true rfl) (Nat.le_of_ble_eq_true rfl) ?_
   refine RW.nil ?_
   refine CW.keep 36 [0,4,5] rfl ?_;(conv=>whnf);refine ⟨?_⟩
   refine CW.region ?_
   refine RW.k XK 36 1 rfl ?_
   (conv=>whnf);refine ⟨rfl,?_⟩
   refine RW.v rfl (V.inc rfl rfl rfl hlt (by simp only [maxLen]; omega)) ?_
   refine RW.k XK 36 1 rfl ?_
   (conv=>whnf);refine ⟨rfl,?_⟩
   refine RW.nil ?_
   exact ⟨(i + 1, _), by simp only []; omega, ⟨by omega, by omega⟩, rfl, Le.c rfl <| Le.c (Dw_congr (bys_succ s i).symm) <| Le.c rfl <| Le.e⟩
  ·skip
   refine CW.exit ?_
   refine CW.keep 36 [0,4] rfl ?_;(conv=>whnf);refine ⟨?_⟩
   refine CW.seq ?_
   refine CW.seqJ 36 (fun (v8 : Bool) => [(4, .w (sl 1 cI (bys s i)) X), (33, Bo v8)]) (fun v8 => v8 = ((((bys s i).length : Int) != (s.size : Int)) || (!(confOk (bys s i))))) ?_ ?_
   ·refine CW.region ?_
    refine RW.k XK 36 6 rfl ?_
    (conv=>whnf);refine ⟨rfl,?_⟩
    refine RW.gv rfl rfl rfl rfl (fun h9 => V.mv (d := .al 4 none 1 ((bys s i).length) X 0) rfl rfl) (fun h9 => ?_) (fun h9 => ?_)
    ·skip
     refine RW.gcallOwn rfl rfl rfl rfl (spec_ConfOk_fn (bys s i)) rfl (.cons (.one (.r (.al (k := none) (i := 4) (sz := 1) (V := X) rfl rfl nofun))) (.nil)) rfl fun g10 => ?_
     refine RW.k XK 36 2 rfl ?_
     (conv=>whnf);refine ⟨rfl,?_⟩
     refine RW.nil ?_
     exact ⟨_, by first | rfl | (simp_all; done) | (simp_all; omega) | grind, rfl, Le.of rfl⟩
    ·skip
     refine RW.k XK 36 3 rfl ?_
     (conv=>whnf);refine ⟨rfl,?_⟩
     refine RW.nil ?_
     exact ⟨_, by first | rfl | (simp_all; done) | (simp_all; omega) | grind, rfl, Le.of rfl⟩
   ·intro v8 hv11
    refine CW.cond rfl (fun h12 => ?_) (fun h12 => ?_)
    ·skip
     refine CW.seq ?_
     refine CW.region ?_
     refine RW.build0 cI rfl rfl rfl rfl rfl fun X13 => ?_
     refine RW.assignMove rfl rfl rfl (by decide) (Nat.le_of_ble_eq_true rfl) (Nat.le_of_ble_eq_true rfl) ?_
     refine RW.k XK 36 1 rfl ?_
     (conv=>whnf);refine ⟨rfl,?_⟩
     refine RW.nil ?_
     refine CW.keep 36 [2,3] rfl ?_;(conv=>whnf);refine ⟨?_⟩
     refine CW.ret ?_
     exact Post.tup (by decide) (RVs.c (RV.w rfl (by rw [rc_no (rc_exit hq hb hv4 h5) (by simp_all)])) (RVs.c (RV.b rfl (by rw [rc_no (rc_exit hq hb hv4 h5) (by simp_all)])) RVs.e)) (AOs.r AOs.e)
    ·skip
     refine CW.skip ?_
     refine CW.keep 36 [4] rfl ?_;(conv=>whnf);refine ⟨?_⟩
     refine CW.seq ?_
     refine CW.region ?_
     refine RW.k XK 36 2 rfl ?_
     (conv=>whnf);refine ⟨rfl,?_⟩
     refine RW.pullS 2 4 (by decide) rfl rfl ?_
     refine RW.k XK 36 1 rfl ?_
     (conv=>whnf);refine ⟨rfl,?_⟩
     refine RW.nil ?_
     refine CW.keep 36 [2,3] rfl ?_;(conv=>whnf);refine ⟨?_⟩
     refine CW.ret ?_
     exact Post.tup (by decide) (RVs.c (RV.w rfl (by rw [rc_yes (i := i) (by simp_all)])) (RVs.c (RV.b rfl (by rw [rc_yes (i := i) (by simp_all)])) RVs.e)) (AOs.r AOs.e)
set_option maxHeartbeats 4000000 in
theorem spec_EntryOk_fn (e : Entry) (hok : okToEntry e) : Eng.Fn E.P 88 [.agg ((Entry.c e).map .r)] (.one (.one (.w (.v (.bool (entOk e)))))) [.agg ((Entry.c e).map .r)] := by
 refine Eng.Fn.intro (E := E) (rvs := [.tmp 2]) Try.func88 rfl rfl rfl (by simp [outSlots, moved, rvSlot, sl]) ?_
 intro B g bo
 refine CW.keep 31 [0] rfl ?_;(conv=>whnf);refine ⟨?_⟩
 refine CW.seq ?_
 refine CW.region ?_
 refine RW.k XK 31 1 rfl ?_
 (conv=>whnf);intro b1;(conv=>whnf);refine ⟨rfl,?_⟩
 refine RW.freezeB (ts := (Entry.c e)) 1 rfl (DRd.r (DRd.r (DRd.r DRd.e))) ?_
 refine RW.k XK 31 1 rfl ?_
 (conv=>whnf);refine ⟨rfl,?_⟩
 refine RW.nil ?_
 refine CW.keep 31 [1] rfl ?_;(conv=>whnf);refine ⟨?_⟩
 refine CW.seq ?_
 refine CW.seq ?_
 refine CW.region ?_
 refine RW.k XK 31 2 rfl ?_
 (conv=>whnf);refine ⟨rfl,?_⟩
 refine RW.call rfl (spec_l01In_fn e.term_ 0 100000) rfl (.cons (.one (.r .r)) (.cons (.one (.r .r)) (.cons (.one (.r .r)) (.nil)))) fun g2 => ?_
 refine RW.k XK 31 1 rfl ?_
 (conv=>whnf);refine ⟨rfl,?_⟩
 refine RW.nil ?_
 refine CW.keep 31 [1,8] rfl ?_;(conv=>whnf);refine ⟨?_⟩
 refine CW.cond rfl (fun h3 => ?_) (fun h3 => ?_)
 ·skip
  refine CW.k XK 31 1 [2] rfl ?_
  (conv=>whnf);refine ⟨rfl,?_⟩
  refine CW.ret ?_
  exact Post.one (RV.b rfl (by first | (simp_all [entOk]; done) | grind [entOk])) (AOs.a rfl AOs.e)
 ·skip
  refine CW.skip ?_
  refine CW.keep 31 [1] rfl ?_;(conv=>whnf);refine ⟨?_⟩
  refine CW.seq ?_
  refine CW.k XK 31 1 [1,10] rfl ?_
  (conv=>whnf);refine ⟨rfl,?_⟩
  refine CW.block ?_
  refine CW.k XK 31 1 [1,10,11] rfl ?_
  (conv=>whnf);refine ⟨rfl,?_⟩
  refine CW.cond rfl (fun h4 => ?_) (fun h4 => ?_)
  ·skip
   refine CW.k XK 31 1 [2] rfl ?_
   (conv=>whnf);refine ⟨rfl,?_⟩
   refine CW.ret ?_
   exact Post.one (RV.b rfl (by first | (simp_all [entOk]; done) | grind [entOk])) (AOs.a rfl AOs.e)
  ·skip
   refine CW.k XK 31 1 [1,10,16] rfl ?_
   (conv=>whnf);refine ⟨rfl,?_⟩
   refine CW.cond rfl (fun h5 => ?_) (fun h5 => ?_)
   ·skip
    refine CW.seq ?_
    refine CW.region ?_
    refine RW.k XK 31 2 rfl ?_
    (conv=>whnf);refine ⟨rfl,?_⟩
    refine RW.call rfl (spec_ReadConf_fn e.data hok) rfl (.cons (.one (.r .r)) (.nil)) fun g6 => ?_
    refine RW.k XK 31 3 rfl ?_
    (conv=>whnf);refine ⟨rfl,?_⟩
    refine RW.assignMove rfl rfl rfl (by decide) (Nat.le_of_ble_eq_true rfl) (Nat.le_of_ble_eq_true rfl) ?_
    refine RW.k XK 31 1 rfl ?_
    (conv=>whnf);refine ⟨rfl,?_⟩
    refine RW.nil ?_
    refine CW.keep 31 [4] rfl ?_;(conv=>whnf);refine ⟨?_⟩
    refine CW.k XK 31 1 [2] rfl ?_
    (conv=>whnf);refine ⟨rfl,?_⟩
    refine CW.ret ?_
    exact Post.one (RV.b rfl (by first | (simp_all [entOk]; done) | grind [entOk])) (AOs.a rfl AOs.e)
   ·skip
    refine CW.k XK 31 1 [1,25] rfl ?_
    (conv=>whnf);refine ⟨rfl,?_⟩
    refine CW.cond rfl (fun h7 => ?_) (fun h7 => ?_)
    ·skip
     refine CW.k XK 31 1 [2] rfl ?_
     (conv=>whnf);refine ⟨rfl,?_⟩
     refine CW.ret ?_
     exact Post.one (RV.b rfl (by first | (simp_all [entOk]; done) | grind [entOk])) (AOs.a rfl AOs.e)
    ·skip
     refine CW.skip ?_
     refine CW.keep 31 [] rfl ?_;(conv=>whnf);refine ⟨?_⟩
     refine CW.k XK 31 1 [2] rfl ?_
     (conv=>whnf);refine ⟨rfl,?_⟩
     refine CW.ret ?_
     exact Post.one (RV.b rfl (by first | (simp_all [entOk]; done) | grind [entOk])) (AOs.a rfl AOs.e)
set_option maxHeartbeats 4000000 in
theorem spec_LogOk_fn (l : Log) (hok : okToLog l) : Eng.Fn E.P 58 [.agg ((Log.c l).map .r)] (.one (.one (.w (.v (.bool (logOk l)))))) [.agg ((Log.c l).map .r)] := by
 refine Eng.Fn.intro (E := E) (rvs := [.tmp 2]) Try.func58 rfl rfl rfl (by simp [outSlots, moved, rvSlot, sl]) ?_
 intro B g bo
 refine CW.keep 62 [0] rfl ?_;(conv=>whnf);refine ⟨?_⟩
 have hl0 : l.entries.length ≤ maxLen := by have := hok.1; simp only [maxLen]; omega
 refine CW.seq ?_
 refine CW.region ?_
 refine RW.k XK 62 1 rfl ?_
 (conv=>whnf);intro b1;(conv=>whnf);refine ⟨rfl,?_⟩
 refine RW.freezeB (ts := (Log.c l)) 1 rfl (DRd.r (DRd.r (DRd.r DRd.e))) ?_
 refine RW.k XK 62 1 rfl ?_
 (conv=>whnf);refine ⟨rfl,?_⟩
 refine RW.nil ?_
 refine CW.keep 62 [1] rfl ?_;(conv=>whnf);refine ⟨?_⟩
 refine CW.seq ?_
 refine CW.seqJ 62 (fun (v2 : Bool) => [(1, .rp (Log.c l)), (29, Bo v2)]) (fun v2 => v2 = ((((!(inR l.start 0 1000000)) || (!(inR l.startTerm 0 100000))) || decide ((l.entries.length : Int) > 60)) || decide ((IntKind.i64.wrap (l.start + (l.entries.length : Int))) > 1000000))) ?_ ?_
 ·refine CW.region ?_
  refine RW.k XK 62 2 rfl ?_
  (conv=>whnf);refine ⟨rfl,?_⟩
  refine RW.call rfl (spec_l01In_fn l.start 0 1000000) rfl (.cons (.one (.r .r)) (.cons (.one (.r .r)) (.cons (.one (.r .r)) (.nil)))) fun g3 => ?_
  refine RW.k XK 62 2 rfl ?_
  (conv=>whnf);refine ⟨rfl,?_⟩
  refine RW.gv rfl rfl rfl rfl (fun h4 => V.fieldR rfl rfl rfl rfl (by decide) rfl (Nat.le_of_ble_eq_true rfl)) (fun h4 => ?_) (fun h4 => ?_)
  ·skip
   refine RW.k XK 62 1 rfl ?_
   (conv=>whnf);refine ⟨rfl,?_⟩
   refine RW.gcall rfl rfl rfl rfl (spec_l01In_fn l.startTerm 0 100000) rfl (.cons (.one (.r .r)) (.cons (.one (.r .r)) (.cons (.one (.r .r)) (.nil)))) fun g5 => ?_
   refine RW.k XK 62 3 rfl ?_
   (conv=>whnf);refine ⟨rfl,?_⟩
   refine RW.gv rfl rfl rfl rfl (fun h6 => V.fieldR rfl rfl rfl rfl (by decide) rfl (Nat.le_of_ble_eq_true rfl)) (fun h6 => ?_) (fun h6 => ?_)
   ·skip
    refine RW.k XK 62 5 rfl ?_
    (conv=>whnf);refine ⟨rfl,?_⟩
    refine RW.gv rfl rfl rfl rfl (fun h7 => V.fieldR rfl rfl rfl rfl (by decide) rfl (Nat.le_of_ble_eq_true rfl)) (fun h7 => ?_) (fun h7 => ?_)
    ·skip
     refine RW.k XK 62 7 rfl ?_
     (conv=>whnf);refine ⟨rfl,?_⟩
     refine RW.nil ?_
     exact ⟨_, by first | rfl | (simp_all; done) | (simp_all; omega) | grind, rfl, Le.of rfl⟩
    ·skip
     refine RW.k XK 62 7 rfl ?_
     (conv=>whnf);refine ⟨rfl,?_⟩
     refine RW.nil ?_
     exact ⟨_, by first | rfl | (simp_all; done) | (simp_all; omega) | grind, rfl, Le.of rfl⟩
   ·skip
    refine RW.k XK 62 13 rfl ?_
    (conv=>whnf);refine ⟨rfl,?_⟩
    refine RW.nil ?_
    exact ⟨_, by first | rfl | (simp_all; done) | (simp_all; omega) | grind, rfl, Le.of rfl⟩
  ·skip
   refine RW.k XK 62 19 rfl ?_
   (conv=>whnf);refine ⟨rfl,?_⟩
   refine RW.nil ?_
   exact ⟨_, by first | rfl | (simp_all; done) | (simp_all; omega) | grind, rfl, Le.of rfl⟩
 ·intro v2 hv8
  refine CW.cond rfl (fun h9 => ?_) (fun h9 => ?_)
  ·skip
   refine CW.k XK 62 1 [2] rfl ?_
   (conv=>whnf);refine ⟨rfl,?_⟩
   refine CW.ret ?_
   exact Post.one (RV.b rfl (by first | (simp_all [logOk]; done) | grind [logOk])) (AOs.a rfl AOs.e)
  ·skip
   refine CW.skip ?_
   refine CW.keep 62 [1] rfl ?_;(conv=>whnf);refine ⟨?_⟩
   refine CW.k XK 62 1 [1,3] rfl ?_
   (conv=>whnf);refine ⟨rfl,?_⟩
   refine CW.seq ?_
   refine CW.k XK 62 1 [1,3,4] rfl ?_
   (conv=>whnf);refine ⟨rfl,?_⟩
   refine CW.block ?_
   refine CW.loopI 62 (fun (zz : Nat × Int) => match zz with | (i, t) => [(1, .rp (Log.c l)), (3, I t), (4, I (i : Int))]) (fun (zz : Nat × Int) => match zz with | (i, t) => i ≤ l.entries.length ∧ termsOk t (l.entries.drop i) = termsOk l.startTerm l.entries) (fun (zz : Nat × Int) => match zz with | (i, t) => l.entries.length - i) (0, _) rfl (Le.c rfl <| Le.c rfl <| Le.c rfl <| Le.e) ⟨by omega, by simp⟩ ?_
   rintro ⟨i, t⟩ ⟨hb, hr⟩
   refine CW.seq ?_
   refine CW.k XK 62 1 [1,3,4,36] rfl ?_
   (conv=>whnf);refine ⟨rfl,?_⟩
   refine CW.cond rfl (fun h10 => ?_) (fun h10 => ?_)
   ·skip
    have hii : i < l.entries.length := by have := h10; simp at this; first | exact this | omega | (simp; done) | (simp; omega)
    obtain ⟨ei, hei⟩ : ∃ e, l.entries[i]? = some e := ⟨_, List.getElem?_eq_getElem hii⟩
    have hdi := drop_get hei
    refine CW.skip ?_
    refine CW.keep 62 [1,3,4] rfl ?_;(conv=>whnf);refine ⟨?_⟩
    refine CW.seq ?_
    refine CW.block ?_
    refine CW.seq ?_
    refine CW.seqJ 62 (fun (v11 : Bool) => [(1, .rp (Log.c l)), (4, I (i : Int)), (55, Bo v11)]) (fun v11 => v11 = ((!(entOk ei)) || decide (ei.term_ < t))) ?_ ?_
    ·refine CW.region ?_
     refine RW.k XK 62 3 rfl ?_
     (conv=>whnf);refine ⟨rfl,?_⟩
     refine RW.v rfl (V.indexS rfl rfl rfl rfl rfl rfl Entry.len hei) ?_
     refine RW.k XK 62 1 rfl ?_
     (conv=>whnf);refine ⟨rfl,?_⟩
     refine RW.call rfl (spec_EntryOk_fn ei (hok.2 ei (List.mem_of_getElem? hei))) rfl (.cons (.agg (.cons (.r .r) (.cons (.r .r) (.cons (.r .r) (.nil))))) (.nil)) fun g12 => ?_
     refine RW.k XK 62 2 rfl ?_
     (conv=>whnf);refine ⟨rfl,?_⟩
     refine RW.gv rfl rfl rfl rfl (fun h13 => V.fieldR rfl rfl rfl rfl (by decide) rfl (Nat.le_of_ble_eq_true rfl)) (fun h13 => ?_) (fun h13 => ?_)
     ·skip
      refine RW.k XK 62 2 rfl ?_
      (conv=>whnf);refine ⟨rfl,?_⟩
      refine RW.gt rfl rfl rfl rfl (V.indexS rfl rfl rfl rfl rfl rfl Entry.len hei) ?_
      refine RW.k XK 62 5 rfl ?_
      (conv=>whnf);refine ⟨rfl,?_⟩
      refine RW.nil ?_
      exact ⟨_, by first | rfl | (simp_all; done) | (simp_all; omega) | grind, rfl, Le.of rfl⟩
     ·skip
      refine RW.k XK 62 8 rfl ?_
      (conv=>whnf);refine ⟨rfl,?_⟩
      refine RW.nil ?_
      exact ⟨_, by first | rfl | (simp_all; done) | (simp_all; omega) | grind, rfl, Le.of rfl⟩
    ·intro v11 hv14
     refine CW.cond rfl (fun h15 => ?_) (fun h15 => ?_)
     ·skip
      refine CW.k XK 62 1 [2] rfl ?_
      (conv=>whnf);refine ⟨rfl,?_⟩
      refine CW.ret ?_
      exact Post.one (RV.b rfl (by have ht : termsOk l.startTerm l.entries = false := (by rw [← hr, hdi, termsOk]; first | (simp_all; done) | grind); simp [logOk, ht])) (AOs.a rfl AOs.e)
     ·skip
      refine CW.skip ?_
      refine CW.keep 62 [1,4] rfl ?_;(conv=>whnf);refine ⟨?_⟩
      refine CW.region ?_
      refine RW.k XK 62 3 rfl ?_
      (conv=>whnf);refine ⟨rfl,?_⟩
      refine RW.v rfl (V.indexS rfl rfl rfl rfl rfl rfl Entry.len hei) ?_
      refine RW.k XK 62 3 rfl ?_
      (conv=>whnf);refine ⟨rfl,?_⟩
      refine RW.nil ?_
      refine CW.keep 62 [1,3,4] rfl ?_;(conv=>whnf);refine ⟨?_⟩
      refine CW.region ?_
      refine RW.k XK 62 1 rfl ?_
      (conv=>whnf);refine ⟨rfl,?_⟩
      refine RW.v rfl (V.inc rfl rfl rfl hii hl0) ?_
      refine RW.k XK 62 1 rfl ?_
      (conv=>whnf);refine ⟨rfl,?_⟩
      refine RW.nil ?_
      exact ⟨(i + 1, _), by simp only []; omega, ⟨by omega, by rw [← hr, hdi, termsOk]; simp_all⟩, rfl, Le.c rfl <| Le.c rfl <| Le.c rfl <| Le.e⟩
   ·skip
    have hii : l.entries.length ≤ i := by have := h10; simp at this; first | exact this | omega | (simp; done) | (simp; omega)
    have hdi : l.entries.drop i = [] := List.drop_eq_nil_of_le hii
    refine CW.exit ?_
    refine CW.keep 62 [] rfl ?_;(conv=>whnf);refine ⟨?_⟩
    refine CW.k XK 62 1 [2] rfl ?_
    (conv=>whnf);refine ⟨rfl,?_⟩
    refine CW.ret ?_
    exact Post.one (RV.b rfl (by have ht : termsOk l.startTerm l.entries = true := (by rw [← hr, hdi]; rfl); clear hr hdi; first | (simp_all [logOk]; done) | grind [logOk])) (AOs.a rfl AOs.e)
set_option maxHeartbeats 4000000 in
theorem spec_LogLast_fn (l : Log) (hok : okToLog l) : Eng.Fn E.P 59 [.agg ((Log.c l).map .r)] (.tup [.one (.w (.v (.int .i64 ((logLast l).1)))), .one (.w (.v (.int .i64 ((logLast l).2))))]) [.agg ((Log.c l).map .r)] := by
 refine Eng.Fn.intro (E := E) (rvs := [.tmp 2, .tmp 3]) Try.func59 rfl rfl rfl (by simp [outSlots, moved, rvSlot, sl]) ?_
 intro B g bo
 refine CW.keep 25 [0] rfl ?_;(conv=>whnf);refine ⟨?_⟩
 have hle : l.entries.length ≤ maxLen := by have := hok.1; simp only [maxLen]; omega
 refine CW.seq ?_
 refine CW.region ?_
 refine RW.k XK 25 1 rfl ?_
 (conv=>whnf);intro b1;(conv=>whnf);refine ⟨rfl,?_⟩
 refine RW.freezeB (ts := (Log.c l)) 1 rfl (DRd.r (DRd.r (DRd.r DRd.e))) ?_
 refine RW.k XK 25 2 rfl ?_
 (conv=>whnf);refine ⟨rfl,?_⟩
 refine RW.nil ?_
 refine CW.keep 25 [1] rfl ?_;(conv=>whnf);refine ⟨?_⟩
 refine CW.k XK 25 1 [1,4] rfl ?_
 (conv=>whnf);refine ⟨rfl,?_⟩
 refine CW.seq ?_
 refine CW.k XK 25 1 [1,4,9] rfl ?_
 (conv=>whnf);refine ⟨rfl,?_⟩
 refine CW.cond rfl (fun h2 => ?_) (fun h2 => ?_)
 ·skip
  refine CW.seq ?_
  refine CW.drawn (by kernel_rfl) ?_
  refine RQ.k XK 25 6 rfl ?_
  (conv=>whnf);refine ⟨rfl,?_⟩
  refine RQ.nil ?_
  refine CW.keep 25 [2,3] rfl ?_;(conv=>whnf);refine ⟨?_⟩
  refine CW.ret ?_
  exact Post.tup (by decide) (RVs.c (RV.i rfl (by simp_all [logLast])) (RVs.c (RV.i rfl (by simp_all [logLast])) RVs.e)) (AOs.a rfl AOs.e)
 ·skip
  have hpos : 0 < l.entries.length := List.length_pos_iff.2 (by simpa using h2)
  refine CW.skip ?_
  refine CW.keep 25 [1,4] rfl ?_;(conv=>whnf);refine ⟨?_⟩
  refine CW.seq ?_
  refine CW.drawn (by kernel_rfl) ?_
  refine RQ.k XK 25 7 rfl ?_
  (conv=>whnf);refine ⟨rfl,?_⟩
  refine RQ.v rfl (V.dec (m := l.entries.length) rfl rfl rfl hpos hle) ?_
  refine RQ.v rfl (V.indexS rfl rfl rfl rfl rfl rfl Entry.len (getD_some (l := l.entries) (j := l.entries.length - 1) (z := Entry.z) (by omega))) ?_
  refine RQ.k XK 25 4 rfl ?_
  (conv=>whnf);refine ⟨rfl,?_⟩
  refine RQ.nil ?_
  refine CW.keep 25 [2,3] rfl ?_;(conv=>whnf);refine ⟨?_⟩
  refine CW.ret ?_
  exact Post.tup (by decide) (RVs.c (RV.i rfl (by simp_all [logLast])) (RVs.c (RV.i rfl (by simp_all [logLast])) RVs.e)) (AOs.a rfl AOs.e)
set_option maxHeartbeats 4000000 in
theorem spec_ConfAt_fn (n : Node) (idx : Int) (hok : okToNode n) : Eng.Fn E.P 82 [.agg ((Node.c n).map .r), .one (.r (.v (.int .i64 idx)))] (.one (.one (.w (sl 1 cI (confAtS n idx))))) [.agg ((Node.c n).map .r), .one (.r (.v (.int .i64 idx)))] := by
 refine Eng.Fn.intro (E := E) (rvs := [.tmp 4]) Try.func82 rfl rfl rfl (by simp [outSlots, moved, rvSlot, sl]) ?_
 intro B g bo
 refine CW.keep 53 [0,1] rfl ?_;(conv=>whnf);refine ⟨?_⟩
 have hl0 : n.log.entries.length ≤ maxLen := by have := hok.2.1.1; simp only [maxLen]; omega
 refine CW.seq ?_
 refine CW.region ?_
 refine RW.k XK 53 1 rfl ?_
 (conv=>whnf);intro b1;(conv=>whnf);refine ⟨rfl,?_⟩
 refine RW.freezeB (ts := (Node.c n)) 2 rfl (DRd.r (DRd.r (DRd.r (DRd.r (DRd.r (DRd.r (DRd.r (DRd.r (DRd.r (DRd.r (DRd.r (DRd.r (DRd.r (DRd.r DRd.e)))))))))))))) ?_
 refine RW.k XK 53 1 rfl ?_
 (conv=>whnf);refine ⟨rfl,?_⟩
 refine RW.nil ?_
 refine CW.keep 53 [1,2] rfl ?_;(conv=>whnf);refine ⟨?_⟩
 refine CW.seq ?_
 refine CW.region ?_
 refine RW.build0 cI rfl rfl rfl rfl rfl fun X2 => ?_
 refine RW.k XK 53 2 rfl ?_
 (conv=>whnf);refine ⟨rfl,?_⟩
 refine RW.appendSR (c := cI) (l1 := ([] : List Int)) (l2 := n.conf) rfl rfl rfl rfl rfl rfl rfl rfl .r (by decide) (Nat.le_of_ble_eq_true rfl) cI.len (fun _ => rfl) rfl (by have := hok.1.1; simp only [maxLen, List.length_nil]; omega) (by have := hok.1.1; simp only [maxLen, List.length_nil]; omega) fun X3 => ?_
 refine RW.assignMove rfl rfl rfl (by decide) (Nat.le_of_ble_eq_true rfl) (Nat.le_of_ble_eq_true rfl) ?_
 refine RW.nil ?_
 refine CW.keep 53 [1,2,5] rfl ?_;(conv=>whnf);refine ⟨?_⟩
 refine CW.seq ?_
 refine CW.k XK 53 1 [1,2,5,6] rfl ?_
 (conv=>whnf);refine ⟨rfl,?_⟩
 refine CW.block ?_
 refine CW.loopI 53 (fun (zz : Nat × List Int × Value) => match zz with | (i, out, X) => [(1, I idx), (2, .rp (Node.c n)), (5, .w (sl 1 cI out) X), (6, I (i : Int))]) (fun (zz : Nat × List Int × Value) => match zz with | (i, out, X) => i ≤ n.log.entries.length ∧ cfGo n.log.start idx i (n.log.entries.drop i) out = cfGo n.log.start idx 0 n.log.entries n.conf) (fun (zz : Nat × List Int × Value) => match zz with | (i, out, X) => n.log.entries.length - i) (0, _, _) rfl (Le.c rfl <| Le.c rfl <| Le.c rfl <| Le.c rfl <| Le.e) ⟨by omega, by simp⟩ ?_
 rintro ⟨i, out, X⟩ ⟨hb, hr⟩
 refine CW.seq ?_
 refine CW.seqJ 53 (fun (v4 : Bool) => [(1, I idx), (2, .rp (Node.c n)), (5, .w (sl 1 cI out) X), (6, I (i : Int)), (28, Bo v4)]) (fun v4 => v4 = (decide ((i : Int) < (n.log.entries.length : Int)) && decide ((IntKind.i64.wrap ((IntKind.i64.wrap (n.log.start + 1)) + (i : Int))) ≤ idx))) ?_ ?_
 ·refine CW.region ?_
  refine RW.k XK 53 7 rfl ?_
  (conv=>whnf);refine ⟨rfl,?_⟩
  refine RW.gv rfl rfl rfl rfl (fun h5 => V.fieldR rfl rfl rfl rfl (by decide) rfl (Nat.le_of_ble_eq_true rfl)) (fun h5 => ?_) (fun h5 => ?_)
  ·skip
   refine RW.k XK 53 8 rfl ?_
   (conv=>whnf);refine ⟨rfl,?_⟩
   refine RW.nil ?_
   exact ⟨_, by first | rfl | (simp_all; done) | (simp_all; omega) | grind, rfl, Le.of rfl⟩
  ·skip
   refine RW.k XK 53 8 rfl ?_
   (conv=>whnf);refine ⟨rfl,?_⟩
   refine RW.nil ?_
   exact ⟨_, by first | rfl | (simp_all; done) | (simp_all; omega) | grind, rfl, Le.of rfl⟩
 ·intro v4 hv6
  refine CW.cond rfl (fun h7 => ?_) (fun h7 => ?_)
  ·skip
   have hii : i < n.log.entries.length := by rw [hv6] at h7; simp at h7; omega
   have hle : IntKind.i64.wrap (IntKind.i64.wrap (n.log.start + 1) + (i : Int)) ≤ idx := by rw [hv6] at h7; simp at h7; exact h7.2
   obtain ⟨ei, hei⟩ : ∃ e, n.log.entries[i]? = some e := ⟨_, List.getElem?_eq_getElem hii⟩
   have hdi := drop_get hei
   refine CW.skip ?_
   refine CW.keep 53 [1,2,5,6] rfl ?_;(conv=>whnf);refine ⟨?_⟩
   refine CW.seq ?_
   refine CW.block ?_
   refine CW.seq ?_
   refine CW.region ?_
   refine RW.k XK 53 4 rfl ?_
   (conv=>whnf);refine ⟨rfl,?_⟩
   refine RW.v rfl (V.indexS rfl rfl rfl rfl rfl rfl Entry.len hei) ?_
   refine RW.k XK 53 3 rfl ?_
   (conv=>whnf);refine ⟨rfl,?_⟩
   refine RW.nil ?_
   refine CW.keep 53 [1,2,5,6,38] rfl ?_;(conv=>whnf);refine ⟨?_⟩
   refine CW.cond rfl (fun h8 => ?_) (fun h8 => ?_)
   ·skip
    refine CW.seq ?_
    refine CW.region ?_
    refine RW.k XK 53 4 rfl ?_
    (conv=>whnf);refine ⟨rfl,?_⟩
    refine RW.v rfl (V.indexS rfl rfl rfl rfl rfl rfl Entry.len hei) ?_
    refine RW.k XK 53 2 rfl ?_
    (conv=>whnf);refine ⟨rfl,?_⟩
    refine RW.call rfl (spec_ReadConf_fn ei.data (hok.2.1.2 ei (List.mem_of_getElem? hei))) rfl (.cons (.one (.r .r)) (.nil)) fun g9 => ?_
    refine RW.k XK 53 3 rfl ?_
    (conv=>whnf);refine ⟨rfl,?_⟩
    refine RW.assignMove rfl rfl rfl (by decide) (Nat.le_of_ble_eq_true rfl) (Nat.le_of_ble_eq_true rfl) ?_
    refine RW.k XK 53 1 rfl ?_
    (conv=>whnf);refine ⟨rfl,?_⟩
    refine RW.nil ?_
    refine CW.keep 53 [1,2,5,6,7,8] rfl ?_;(conv=>whnf);refine ⟨?_⟩
    refine CW.k XK 53 1 [1,2,5,6,7,50] rfl ?_
    (conv=>whnf);refine ⟨rfl,?_⟩
    refine CW.cond rfl (fun h10 => ?_) (fun h10 => ?_)
    ·skip
     refine CW.region ?_
     refine RW.k XK 53 2 rfl ?_
     (conv=>whnf);refine ⟨rfl,?_⟩
     refine RW.pullS 5 7 (by decide) rfl rfl ?_
     refine RW.nil ?_
     refine CW.keep 53 [1,2,5,6] rfl ?_;(conv=>whnf);refine ⟨?_⟩
     refine CW.region ?_
     refine RW.k XK 53 1 rfl ?_
     (conv=>whnf);refine ⟨rfl,?_⟩
     refine RW.v rfl (V.inc rfl rfl rfl hii hl0) ?_
     refine RW.k XK 53 1 rfl ?_
     (conv=>whnf);refine ⟨rfl,?_⟩
     refine RW.nil ?_
     exact ⟨(i + 1, (readConf ei.data).1, _), by simp only []; omega, ⟨by omega, by rw [← hr, hdi]; exact cf_step hle (by simp_all)⟩, rfl, Le.c rfl <| Le.c rfl <| Le.c rfl <| Le.c rfl <| Le.e⟩
    ·skip
     refine CW.skip ?_
     refine CW.keep 53 [1,2,5,6] rfl ?_;(conv=>whnf);refine ⟨?_⟩
     refine CW.region ?_
     refine RW.k XK 53 1 rfl ?_
     (conv=>whnf);refine ⟨rfl,?_⟩
     refine RW.v rfl (V.inc rfl rfl rfl hii hl0) ?_
     refine RW.k XK 53 1 rfl ?_
     (conv=>whnf);refine ⟨rfl,?_⟩
     refine RW.nil ?_
     exact ⟨(i + 1, out, _), by simp only []; omega, ⟨by omega, by rw [← hr, hdi]; exact cf_step hle (by simp_all)⟩, rfl, Le.c rfl <| Le.c rfl <| Le.c rfl <| Le.c rfl <| Le.e⟩
   ·skip
    refine CW.skip ?_
    refine CW.keep 53 [1,2,5,6] rfl ?_;(conv=>whnf);refine ⟨?_⟩
    refine CW.region ?_
    refine RW.k XK 53 1 rfl ?_
    (conv=>whnf);refine ⟨rfl,?_⟩
    refine RW.v rfl (V.inc rfl rfl rfl hii hl0) ?_
    refine RW.k XK 53 1 rfl ?_
    (conv=>whnf);refine ⟨rfl,?_⟩
    refine RW.nil ?_
    exact ⟨(i + 1, out, _), by simp only []; omega, ⟨by omega, by rw [← hr, hdi]; exact cf_step hle (by simp_all)⟩, rfl, Le.c rfl <| Le.c rfl <| Le.c rfl <| Le.c rfl <| Le.e⟩
  ·skip
   refine CW.exit ?_
   refine CW.keep 53 [5] rfl ?_;(conv=>whnf);refine ⟨?_⟩
   refine CW.seq ?_
   refine CW.region ?_
   refine RW.k XK 53 2 rfl ?_
   (conv=>whnf);refine ⟨rfl,?_⟩
   refine RW.pullS 4 5 (by decide) rfl rfl ?_
   refine RW.nil ?_
   refine CW.keep 53 [4] rfl ?_;(conv=>whnf);refine ⟨?_⟩
   refine CW.ret ?_
   exact Post.one (RV.w rfl (by rw [confAtS, ← hr]; exact cf_stop hv6 h7)) (AOs.a rfl (AOs.r AOs.e))
set_option maxHeartbeats 4000000 in
theorem spec_ConfOf_fn (n : Node) (hok : okToNode n) : Eng.Fn E.P 62 [.agg ((Node.c n).map .r)] (.one (.one (.w (sl 1 cI (confAtS n 1000060))))) [.agg ((Node.c n).map .r)] := by
 refine Eng.Fn.intro (E := E) (rvs := [.tmp 2]) Try.func62 rfl rfl rfl (by simp [outSlots, moved, rvSlot, sl]) ?_
 intro B g bo
 refine CW.keep 5 [0] rfl ?_;(conv=>whnf);refine ⟨?_⟩
 refine CW.seq ?_
 refine CW.region ?_
 refine RW.k XK 5 1 rfl ?_
 (conv=>whnf);intro b1;(conv=>whnf);refine ⟨rfl,?_⟩
 refine RW.freezeB (ts := (Node.c n)) 1 rfl (DRd.r (DRd.r (DRd.r (DRd.r (DRd.r (DRd.r (DRd.r (DRd.r (DRd.r (DRd.r (DRd.r (DRd.r (DRd.r (DRd.r DRd.e)))))))))))))) ?_
 refine RW.k XK 5 1 rfl ?_
 (conv=>whnf);refine ⟨rfl,?_⟩
 refine RW.nil ?_
 refine CW.keep 5 [1] rfl ?_;(conv=>whnf);refine ⟨?_⟩
 refine CW.seq ?_
 refine CW.region ?_
 refine RW.k XK 5 1 rfl ?_
 (conv=>whnf);refine ⟨rfl,?_⟩
 refine RW.call rfl (spec_ConfAt_fn n 1000060 hok) rfl (.cons (.agg (.cons (.r .r) (.cons (.r .r) (.cons (.r .r) (.cons (.r .r) (.cons (.r .r) (.cons (.r .r) (.cons (.r .r) (.cons (.r .r) (.cons (.r .r) (.cons (.r .r) (.cons (.r .r) (.cons (.r .r) (.cons (.r .r) (.cons (.r .r) (.nil)))))))))))))))) (.cons (.one (.r .r)) (.nil))) fun g2 => ?_
 refine RW.assignMove rfl rfl rfl (by decide) (Nat.le_of_ble_eq_true rfl) (Nat.le_of_ble_eq_true rfl) ?_
 refine RW.nil ?_
 refine CW.keep 5 [2] rfl ?_;(conv=>whnf);refine ⟨?_⟩
 refine CW.ret ?_
 exact Post.one (RV.w rfl (by rfl)) (AOs.a rfl AOs.e)
set_option maxHeartbeats 4000000 in
theorem spec_l18Others_fn (a : List Int) (n : Int) (hm : a.length ≤ 1048576) : Eng.Fn E.P 61 [.one (.r (sl 1 cI a)), .one (.r (.v (.int .i64 n)))] (.one (.one (.w (sl 1 cI (others a n))))) [.one (.r (sl 1 cI a)), .one (.r (.v (.int .i64 n)))] := by
 refine Eng.Fn.intro (E := E) (rvs := [.tmp 4]) Try.func61 rfl rfl rfl (by simp [outSlots, moved, rvSlot, sl]) ?_
 intro B g bo
 refine CW.bound (x := .tmp 0) (n := a.length) (AsT.r) (fun hl0 => ?_)
 refine CW.keep 28 [0,1] rfl ?_;(conv=>whnf);refine ⟨?_⟩
 refine CW.k XK 28 1 [0,1] rfl ?_
 (conv=>whnf);refine ⟨rfl,?_⟩
 refine CW.seq ?_
 refine CW.region ?_
 refine RW.build0 cI rfl rfl rfl rfl rfl fun X1 => ?_
 refine RW.assignMove rfl rfl rfl (by decide) (Nat.le_of_ble_eq_true rfl) (Nat.le_of_ble_eq_true rfl) ?_
 refine RW.nil ?_
 refine CW.keep 28 [0,1,5] rfl ?_;(conv=>whnf);refine ⟨?_⟩
 refine CW.seq ?_
 refine CW.k XK 28 1 [0,1,5,6] rfl ?_
 (conv=>whnf);refine ⟨rfl,?_⟩
 refine CW.block ?_
 refine CW.loopI 28 (fun (zz : Nat × Value) => match zz with | (i, X) => [(0, .r (sl 1 cI a)), (1, I n), (5, .w (sl 1 cI (others (a.take i) n)) X), (6, I (i : Int))]) (fun (zz : Nat × Value) => match zz with | (i, X) => i ≤ a.length) (fun (zz : Nat × Value) => match zz with | (i, X) => a.length - i) (0, _) rfl (Le.c rfl <| Le.c rfl <| Le.c rfl <| Le.c rfl <| Le.e) (by omega) ?_
 rintro ⟨i, X⟩ hb
 refine CW.seq ?_
 refine CW.k XK 28 1 [0,1,5,6,11] rfl ?_
 (conv=>whnf);refine ⟨rfl,?_⟩
 refine CW.cond rfl (fun h2 => ?_) (fun h2 => ?_)
 ·skip
  have hii : i < a.length := by have := h2; simp at this; first | exact this | omega | (simp; done) | (simp; omega)
  obtain ⟨ei, hei⟩ : ∃ e, a[i]? = some e := ⟨_, List.getElem?_eq_getElem hii⟩
  have hdi := drop_get hei
  refine CW.skip ?_
  refine CW.keep 28 [0,1,5,6] rfl ?_;(conv=>whnf);refine ⟨?_⟩
  refine CW.seq ?_
  refine CW.block ?_
  refine CW.seq ?_
  refine CW.region ?_
  refine RW.k XK 28 2 rfl ?_
  (conv=>whnf);refine ⟨rfl,?_⟩
  refine RW.v rfl (V.indexS rfl rfl rfl rfl rfl rfl cI.len hei) ?_
  refine RW.k XK 28 3 rfl ?_
  (conv=>whnf);refine ⟨rfl,?_⟩
  refine RW.nil ?_
  refine CW.keep 28 [0,1,5,6,19] rfl ?_;(conv=>whnf);refine ⟨?_⟩
  refine CW.cond rfl (fun h3 => ?_) (fun h3 => ?_)
  ·skip
   refine CW.region ?_
   refine RW.k XK 28 3 rfl ?_
   (conv=>whnf);refine ⟨rfl,?_⟩
   refine RW.v rfl (V.indexS rfl rfl rfl rfl rfl rfl cI.len hei) ?_
   refine RW.k XK 28 1 rfl ?_
   (conv=>whnf);refine ⟨rfl,?_⟩
   refine RW.build1c (c := cI) (v := ei) (u := .v (.int .i64 ei)) rfl rfl rfl rfl rfl rfl (.inl rfl) rfl rfl fun X4 => ?_
   refine RW.appendSR (c := cI) (l1 := (others (a.take i) n)) (l2 := [ei]) rfl rfl rfl rfl rfl rfl rfl rfl (.al (k := none) (i := 25) (sz := 1) (V := X4) rfl rfl nofun) (by decide) (Nat.le_of_ble_eq_true rfl) cI.len (fun _ => rfl) rfl (by have h9 := others_len (a.take i) n; have h10 : (a.take i).length ≤ a.length := (by rw [List.length_take]; omega); simp only [maxLen, List.length_singleton]; omega) (by have h9 := others_len (a.take i) n; have h10 : (a.take i).length ≤ a.length := (by rw [List.length_take]; omega); simp only [maxLen, List.length_singleton]; omega) fun X5 => ?_
   refine RW.assignMove rfl rfl rfl (by decide) (Nat.le_of_ble_eq_true rfl) (Nat.le_of_ble_eq_true rfl) ?_
   refine RW.nil ?_
   refine CW.keep 28 [0,1,5,6] rfl ?_;(conv=>whnf);refine ⟨?_⟩
   refine CW.region ?_
   refine RW.k XK 28 1 rfl ?_
   (conv=>whnf);refine ⟨rfl,?_⟩
   refine RW.v rfl (V.inc rfl rfl rfl hii hl0) ?_
   refine RW.k XK 28 1 rfl ?_
   (conv=>whnf);refine ⟨rfl,?_⟩
   refine RW.nil ?_
   exact ⟨(i + 1, _), by simp only []; omega, (by omega), rfl, Le.c rfl <| Le.c rfl <| Le.c (Dw_congr (by unfold others; rw [take_snoc hei, List.filter_append]; simp_all)) <| Le.c rfl <| Le.e⟩
  ·skip
   refine CW.skip ?_
   refine CW.keep 28 [0,1,5,6] rfl ?_;(conv=>whnf);refine ⟨?_⟩
   refine CW.region ?_
   refine RW.k XK 28 1 rfl ?_
   (conv=>whnf);refine ⟨rfl,?_⟩
   refine RW.v rfl (V.inc rfl rfl rfl hii hl0) ?_
   refine RW.k XK 28 1 rfl ?_
   (conv=>whnf);refine ⟨rfl,?_⟩
   refine RW.nil ?_
   exact ⟨(i + 1, _), by simp only []; omega, (by omega), rfl, Le.c rfl <| Le.c rfl <| Le.c (Dw_congr (by unfold others; rw [take_snoc hei, List.filter_append]; simp_all)) <| Le.c rfl <| Le.e⟩
 ·skip
  have hii : a.length ≤ i := by have := h2; simp at this; first | exact this | omega | (simp; done) | (simp; omega)
  have hdi : a.drop i = [] := List.drop_eq_nil_of_le hii
  refine CW.exit ?_
  refine CW.keep 28 [5] rfl ?_;(conv=>whnf);refine ⟨?_⟩
  refine CW.seq ?_
  refine CW.region ?_
  refine RW.k XK 28 2 rfl ?_
  (conv=>whnf);refine ⟨rfl,?_⟩
  refine RW.pullS 4 5 (by decide) rfl rfl ?_
  refine RW.nil ?_
  refine CW.keep 28 [4] rfl ?_;(conv=>whnf);refine ⟨?_⟩
  refine CW.ret ?_
  exact Post.one (RV.w rfl (by rw [List.take_of_length_le hii])) (AOs.r (AOs.r AOs.e))
end Go.Proofs.Ytbiocicogminlaa.Y
