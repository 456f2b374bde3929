import Derived.Test.YtbiocicogminlaaWAloneB
namespace Go.Proofs.Ytbiocicogminlaa.Y
open Go Go.RowKit Go.Eng Go.Proofs
set_option maxHeartbeats 4000000 in
theorem __impl_Node__stand_fn (n : Node) (hl : logB n.log) (hok : okToNode n) (ht : 0 ≤ n.term_ ∧ n.term_ < 100000) : Eng.Fn E.P 109 [.ob ((Node.c n).map .w)] (.one (.one (.w (sl 12 Message.c ((standN n).2))))) [.ob ((Node.c ((standN n).1)).map .w)] := by
 refine Eng.Fn.intro (E := E) (rvs := [.tmp 2]) Try.func109 rfl rfl rfl (by simp [outSlots, moved, rvSlot, sl]) ?_
 intro B g bo
 refine CW.le [(0, .obj (bo 0) [I n.id, I n.term_, I n.vote, I n.role, I n.lead, .w (sl 1 cI n.conf) (g 0 5), I n.log.start, I n.log.startTerm, .w (sl 3 Entry.c n.log.entries) (g 0 8), I n.commit, I n.clock, I n.limit, .w (sl 1 cI n.votes) (g 0 12), .w (sl 4 Peer.c n.peers) (g 0 13)])] rfl (Le.of rfl) ?_
 refine CW.seq ?_
 refine CW.region ?_
 refine RW.v rfl (V.as (d := .r (.v (.slice none 0 0))) rfl rfl) ?_
 refine RW.nil ?_
 refine CW.le [(0, .obj (bo 0) [I n.id, I n.term_, I n.vote, I n.role, I n.lead, .w (sl 1 cI n.conf) (g 0 5), I n.log.start, I n.log.startTerm, .w (sl 3 Entry.c n.log.entries) (g 0 8), I n.commit, I n.clock, I n.limit, .w (sl 1 cI n.votes) (g 0 12), .w (sl 4 Peer.c n.peers) (g 0 13)])] rfl (Le.of rfl) ?_
 refine CW.seq ?_
 refine CW.region ?_
 refine RW.v rfl (V.mv (d := .pt 0 (bo 0) 0) rfl rfl) ?_
 refine RW.v rfl (V.nilP rfl rfl) ?_
 refine RW.v rfl (V.field rfl rfl rfl rfl (by decide) rfl) ?_
 refine RW.v rfl (V.loadPrim (d := I n.term_) rfl rfl (.inl rfl) rfl rfl rfl) ?_
 refine RW.v rfl (V.arInt rfl rfl rfl rfl) ?_
 refine RW.v rfl (V.nilP rfl rfl) ?_
 refine RW.v rfl (V.field rfl rfl rfl rfl (by decide) rfl) ?_
 refine RW.store (d := I (IntKind.i64.wrap (n.term_ + 1))) rfl rfl rfl rfl rfl rfl rfl (Nat.le_of_ble_eq_true rfl) rfl rfl ?_
 refine RW.nil ?_
 refine CW.le [(0, .obj (bo 0) [I n.id, I (IntKind.i64.wrap (n.term_ + 1)), I n.vote, I n.role, I n.lead, .w (sl 1 cI n.conf) (g 0 5), I n.log.start, I n.log.startTerm, .w (sl 3 Entry.c n.log.entries) (g 0 8), I n.commit, I n.clock, I n.limit, .w (sl 1 cI n.votes) (g 0 12), .w (sl 4 Peer.c n.peers) (g 0 13)])] rfl (Le.of rfl) ?_
 refine CW.anyJ (fc := []) 79 (fun (Xo1_12_1 : Value) => [(0, .obj (bo 0) [I n.id, I (IntKind.i64.wrap (n.term_ + 1)), I n.id, I 1, I 0, .w (sl 1 cI n.conf) (g 0 5), I n.log.start, I n.log.startTerm, .w (sl 3 Entry.c n.log.entries) (g 0 8), I n.commit, I n.clock, I n.limit, .w (sl 1 cI ([n.id])) Xo1_12_1, .w (sl 4 Peer.c n.peers) (g 0 13)])]) (fun all hall K hK => ?_) ?_
 ·skip
  have ro1_1111111111111111111111111 : ∀ (Xo1_12_1 : Value), RA [] E B all 0 #[true, true, true, true, true, true, true, true, true, true, true, true, true, true, true, true, true, true, true, true, true, true, true, true, true] ⟨79, [(0, .obj (bo 0) [I n.id, I (IntKind.i64.wrap (n.term_ + 1)), I n.id, I 1, I 0, .w (sl 1 cI n.conf) (g 0 5), I n.log.start, I n.log.startTerm, .w (sl 3 Entry.c n.log.entries) (g 0 8), I n.commit, I n.clock, I n.limit, .w (sl 1 cI ([n.id])) Xo1_12_1, .w (sl 4 Peer.c n.peers) (g 0 13)])]⟩ K := by
   intro Xo1_12_1
   exact RA.of hall (RA.finH Tell.e (by kernel_rfl) (hK Xo1_12_1 _ rfl (Le.of rfl)))
  have ro1_1111111111111111111111110 : ∀ (Xo1_12_1 : Value), RA [] E B all 1 #[true, true, true, true, true, true, true, true, true, true, true, true, true, true, true, true, true, true, true, true, true, true, true, true, false] ⟨79, [(0, .obj (bo 0) [I n.id, I (IntKind.i64.wrap (n.term_ + 1)), I n.id, I 1, I 0, .w (sl 1 cI n.conf) (g 0 5), I n.log.start, I n.log.startTerm, .w (sl 3 Entry.c n.log.entries) (g 0 8), I n.commit, I n.clock, I n.limit, .w (sl 1 cI n.votes) (g 0 12), .w (sl 4 Peer.c n.peers) (g 0 13)]), (27, .w (sl 1 cI ([n.id])) Xo1_12_1), (35, .pt 0 (bo 0) 12)]⟩ K := by
   intro Xo1_12_1
   refine RA.of hall (RA.stepH (L := [24]) Tell.e (by kernel_rfl) (by simp) (RA.each ?_ (RA.each0)))
   ·skip
    refine RO.store (d := .al 27 none 1 (([n.id]).length) Xo1_12_1 0) rfl rfl rfl rfl rfl rfl rfl rfl rfl (Nat.le_of_ble_eq_true rfl) rfl rfl ?_
    refine RA.le [(0, .obj (bo 0) [I n.id, I (IntKind.i64.wrap (n.term_ + 1)), I n.id, I 1, I 0, .w (sl 1 cI n.conf) (g 0 5), I n.log.start, I n.log.startTerm, .w (sl 3 Entry.c n.log.entries) (g 0 8), I n.commit, I n.clock, I n.limit, .al 27 none 1 (([n.id]).length) Xo1_12_1 0, .w (sl 4 Peer.c n.peers) (g 0 13)]), (27, .w (sl 1 cI ([n.id])) Xo1_12_1)] rfl (Le.of rfl) ?_
    refine RA.pullT (k := 0) (l := 27) (j := 12) 0 27 12 rfl rfl rfl (by decide) rfl rfl rfl ?_
    refine RA.le [(0, .obj (bo 0) [I n.id, I (IntKind.i64.wrap (n.term_ + 1)), I n.id, I 1, I 0, .w (sl 1 cI n.conf) (g 0 5), I n.log.start, I n.log.startTerm, .w (sl 3 Entry.c n.log.entries) (g 0 8), I n.commit, I n.clock, I n.limit, .w (sl 1 cI ([n.id])) Xo1_12_1, .w (sl 4 Peer.c n.peers) (g 0 13)])] rfl (Le.of rfl) ?_
    exact RA.to hall (RA.lr (ro1_1111111111111111111111111 Xo1_12_1) rfl rfl)
  have ro1_1111111111110111111111000 : RA [] E B all 4 #[true, true, true, true, true, true, true, true, true, true, true, true, false, true, true, true, true, true, true, true, true, true, false, false, false] ⟨79, [(0, .obj (bo 0) [I n.id, I (IntKind.i64.wrap (n.term_ + 1)), I n.id, I 1, I 0, .w (sl 1 cI n.conf) (g 0 5), I n.log.start, I n.log.startTerm, .w (sl 3 Entry.c n.log.entries) (g 0 8), I n.commit, I n.clock, I n.limit, .w (sl 1 cI n.votes) (g 0 12), .w (sl 4 Peer.c n.peers) (g 0 13)]), (18, .pt 0 (bo 0) 0), (26, I n.id)]⟩ K := by
   refine RA.of hall (RA.stepH (L := [12]) Tell.e (by kernel_rfl) (by simp) (RA.each ?_ (RA.each0)))
   ·skip
    refine RO.build1c (c := cI) (v := n.id) (u := .v (.int .i64 n.id)) rfl rfl rfl rfl rfl rfl rfl rfl (.inl rfl) rfl rfl fun Xo1_12_1 => ?_
    refine RA.first (i := 22) (ls' := #[true, true, true, true, true, true, true, true, true, true, true, true, true, true, true, true, true, true, true, true, true, true, true, false, false]) Tell.e (by kernel_rfl) rfl rfl rfl (VF.p (V.nilP rfl rfl)) ?_
    refine RA.first (i := 23) (ls' := #[true, true, true, true, true, true, true, true, true, true, true, true, true, true, true, true, true, true, true, true, true, true, true, true, false]) Tell.e (by kernel_rfl) rfl rfl rfl (VF.p (V.field rfl rfl rfl rfl (by decide) rfl)) ?_
    exact RA.to hall (RA.lr (ro1_1111111111111111111111110 Xo1_12_1) rfl rfl)
  have ro1_1111111111111111111110000 : ∀ (Xo1_12_1 : Value), RA [] E B all 4 #[true, true, true, true, true, true, true, true, true, true, true, true, true, true, true, true, true, true, true, true, true, false, false, false, false] ⟨79, [(0, .obj (bo 0) [I n.id, I (IntKind.i64.wrap (n.term_ + 1)), I n.id, I 1, I n.lead, .w (sl 1 cI n.conf) (g 0 5), I n.log.start, I n.log.startTerm, .w (sl 3 Entry.c n.log.entries) (g 0 8), I n.commit, I n.clock, I n.limit, .w (sl 1 cI n.votes) (g 0 12), .w (sl 4 Peer.c n.peers) (g 0 13)]), (18, .pt 0 (bo 0) 0), (27, .w (sl 1 cI ([n.id])) Xo1_12_1), (33, .pt 0 (bo 0) 4)]⟩ K := by
   intro Xo1_12_1
   refine RA.of hall (RA.stepH (L := [21]) Tell.e (by kernel_rfl) (by simp) (RA.each ?_ (RA.each0)))
   ·skip
    refine RO.store (d := I 0) rfl rfl rfl rfl rfl rfl rfl rfl rfl (Nat.le_of_ble_eq_true rfl) rfl rfl ?_
    refine RA.first (i := 22) (ls' := #[true, true, true, true, true, true, true, true, true, true, true, true, true, true, true, true, true, true, true, true, true, true, true, false, false]) Tell.e (by kernel_rfl) rfl rfl rfl (VF.p (V.nilP rfl rfl)) ?_
    refine RA.first (i := 23) (ls' := #[true, true, true, true, true, true, true, true, true, true, true, true, true, true, true, true, true, true, true, true, true, true, true, true, false]) Tell.e (by kernel_rfl) rfl rfl rfl (VF.p (V.field rfl rfl rfl rfl (by decide) rfl)) ?_
    exact RA.to hall (RA.lr (ro1_1111111111111111111111110 Xo1_12_1) rfl rfl)
  have ro1_1111111111110111111110000 : RA [] E B all 5 #[true, true, true, true, true, true, true, true, true, true, true, true, false, true, true, true, true, true, true, true, true, false, false, false, false] ⟨79, [(0, .obj (bo 0) [I n.id, I (IntKind.i64.wrap (n.term_ + 1)), I n.id, I 1, I n.lead, .w (sl 1 cI n.conf) (g 0 5), I n.log.start, I n.log.startTerm, .w (sl 3 Entry.c n.log.entries) (g 0 8), I n.commit, I n.clock, I n.limit, .w (sl 1 cI n.votes) (g 0 12), .w (sl 4 Peer.c n.peers) (g 0 13)]), (18, .pt 0 (bo 0) 0), (26, I n.id), (33, .pt 0 (bo 0) 4)]⟩ K := by
   refine RA.of hall (RA.stepH (L := [12, 21]) Tell.e (by kernel_rfl) (by simp) (RA.each ?_ (RA.each ?_ (RA.each0))))
   ·skip
    refine RO.build1c (c := cI) (v := n.id) (u := .v (.int .i64 n.id)) rfl rfl rfl rfl rfl rfl rfl rfl (.inl rfl) rfl rfl fun Xo1_12_1 => ?_
    exact RA.to hall (RA.lr (ro1_1111111111111111111110000 Xo1_12_1) rfl rfl)
   ·skip
    refine RO.store (d := I 0) rfl rfl rfl rfl rfl rfl rfl rfl rfl (Nat.le_of_ble_eq_true rfl) rfl rfl ?_
    exact RA.to hall (RA.lr ro1_1111111111110111111111000 rfl rfl)
  have ro1_1111111111111111110000000 : ∀ (Xo1_12_1 : Value), RA [] E B all 7 #[true, true, true, true, true, true, true, true, true, true, true, true, true, true, true, true, true, true, false, false, false, false, false, false, false] ⟨79, [(0, .obj (bo 0) [I n.id, I (IntKind.i64.wrap (n.term_ + 1)), I n.id, I n.role, I n.lead, .w (sl 1 cI n.conf) (g 0 5), I n.log.start, I n.log.startTerm, .w (sl 3 Entry.c n.log.entries) (g 0 8), I n.commit, I n.clock, I n.limit, .w (sl 1 cI n.votes) (g 0 12), .w (sl 4 Peer.c n.peers) (g 0 13)]), (17, .pt 0 (bo 0) 0), (18, .pt 0 (bo 0) 0), (27, .w (sl 1 cI ([n.id])) Xo1_12_1), (31, .pt 0 (bo 0) 3)]⟩ K := by
   intro Xo1_12_1
   refine RA.of hall (RA.stepH (L := [18]) Tell.e (by kernel_rfl) (by simp) (RA.each ?_ (RA.each0)))
   ·skip
    refine RO.store (d := I 1) rfl rfl rfl rfl rfl rfl rfl rfl rfl (Nat.le_of_ble_eq_true rfl) rfl rfl ?_
    refine RA.first (i := 19) (ls' := #[true, true, true, true, true, true, true, true, true, true, true, true, true, true, true, true, true, true, true, true, false, false, false, false, false]) Tell.e (by kernel_rfl) rfl rfl rfl (VF.p (V.nilP rfl rfl)) ?_
    refine RA.first (i := 20) (ls' := #[true, true, true, true, true, true, true, true, true, true, true, true, true, true, true, true, true, true, true, true, true, false, false, false, false]) Tell.e (by kernel_rfl) rfl rfl rfl (VF.p (V.field rfl rfl rfl rfl (by decide) rfl)) ?_
    exact RA.to hall (RA.lr (ro1_1111111111111111111110000 Xo1_12_1) rfl rfl)
  have ro1_1111111111110111110000000 : RA [] E B all 8 #[true, true, true, true, true, true, true, true, true, true, true, true, false, true, true, true, true, true, false, false, false, false, false, false, false] ⟨79, [(0, .obj (bo 0) [I n.id, I (IntKind.i64.wrap (n.term_ + 1)), I n.id, I n.role, I n.lead, .w (sl 1 cI n.conf) (g 0 5), I n.log.start, I n.log.startTerm, .w (sl 3 Entry.c n.log.entries) (g 0 8), I n.commit, I n.clock, I n.limit, .w (sl 1 cI n.votes) (g 0 12), .w (sl 4 Peer.c n.peers) (g 0 13)]), (17, .pt 0 (bo 0) 0), (18, .pt 0 (bo 0) 0), (26, I n.id), (31, .pt 0 (bo 0) 3)]⟩ K := by
   refine RA.of hall (RA.stepH (L := [12, 18]) Tell.e (by kernel_rfl) (by simp) (RA.each ?_ (RA.each ?_ (RA.each0))))
   ·skip
    refine RO.build1c (c := cI) (v := n.id) (u := .v (.int .i64 n.id)) rfl rfl rfl rfl rfl rfl rfl rfl (.inl rfl) rfl rfl fun Xo1_12_1 => ?_
    exact RA.to hall (RA.lr (ro1_1111111111111111110000000 Xo1_12_1) rfl rfl)
   ·skip
    refine RO.store (d := I 1) rfl rfl rfl rfl rfl rfl rfl rfl rfl (Nat.le_of_ble_eq_true rfl) rfl rfl ?_
    refine RA.first (i := 19) (ls' := #[true, true, true, true, true, true, true, true, true, true, true, true, false, true, true, true, true, true, true, true, false, false, false, false, false]) Tell.e (by kernel_rfl) rfl rfl rfl (VF.p (V.nilP rfl rfl)) ?_
    refine RA.first (i := 20) (ls' := #[true, true, true, true, true, true, true, true, true, true, true, true, false, true, true, true, true, true, true, true, true, false, false, false, false]) Tell.e (by kernel_rfl) rfl rfl rfl (VF.p (V.field rfl rfl rfl rfl (by decide) rfl)) ?_
    exact RA.to hall (RA.lr ro1_1111111111110111111110000 rfl rfl)
  have ro1_1111111111111110000000000 : ∀ (Xo1_12_1 : Value), RA [] E B all 10 #[true, true, true, true, true, true, true, true, true, true, true, true, true, true, true, false, false, false, false, false, false, false, false, false, false] ⟨79, [(0, .obj (bo 0) [I n.id, I (IntKind.i64.wrap (n.term_ + 1)), I n.vote, I n.role, I n.lead, .w (sl 1 cI n.conf) (g 0 5), I n.log.start, I n.log.startTerm, .w (sl 3 Entry.c n.log.entries) (g 0 8), I n.commit, I n.clock, I n.limit, .w (sl 1 cI n.votes) (g 0 12), .w (sl 4 Peer.c n.peers) (g 0 13)]), (16, .pt 0 (bo 0) 0), (17, .pt 0 (bo 0) 0), (18, .pt 0 (bo 0) 0), (22, I n.id), (27, .w (sl 1 cI ([n.id])) Xo1_12_1), (29, .pt 0 (bo 0) 2)]⟩ K := by
   intro Xo1_12_1
   refine RA.of hall (RA.stepH (L := [15]) Tell.e (by kernel_rfl) (by simp) (RA.each ?_ (RA.each0)))
   ·skip
    refine RO.store (d := I n.id) rfl rfl rfl rfl rfl rfl rfl rfl rfl (Nat.le_of_ble_eq_true rfl) rfl rfl ?_
    refine RA.first (i := 16) (ls' := #[true, true, true, true, true, true, true, true, true, true, true, true, true, true, true, true, true, false, false, false, false, false, false, false, false]) Tell.e (by kernel_rfl) rfl rfl rfl (VF.p (V.nilP rfl rfl)) ?_
    refine RA.first (i := 17) (ls' := #[true, true, true, true, true, true, true, true, true, true, true, true, true, true, true, true, true, true, false, false, false, false, false, false, false]) Tell.e (by kernel_rfl) rfl rfl rfl (VF.p (V.field rfl rfl rfl rfl (by decide) rfl)) ?_
    exact RA.to hall (RA.lr (ro1_1111111111111111110000000 Xo1_12_1) rfl rfl)
  have ro1_1111111111110110000000000 : RA [] E B all 11 #[true, true, true, true, true, true, true, true, true, true, true, true, false, true, true, false, false, false, false, false, false, false, false, false, false] ⟨79, [(0, .obj (bo 0) [I n.id, I (IntKind.i64.wrap (n.term_ + 1)), I n.vote, I n.role, I n.lead, .w (sl 1 cI n.conf) (g 0 5), I n.log.start, I n.log.startTerm, .w (sl 3 Entry.c n.log.entries) (g 0 8), I n.commit, I n.clock, I n.limit, .w (sl 1 cI n.votes) (g 0 12), .w (sl 4 Peer.c n.peers) (g 0 13)]), (16, .pt 0 (bo 0) 0), (17, .pt 0 (bo 0) 0), (18, .pt 0 (bo 0) 0), (22, I n.id), (26, I n.id), (29, .pt 0 (bo 0) 2)]⟩ K := by
   refine RA.of hall (RA.stepH (L := [12, 15]) Tell.e (by kernel_rfl) (by simp) (RA.each ?_ (RA.each ?_ (RA.each0))))
   ·skip
    refine RO.build1c (c := cI) (v := n.id) (u := .v (.int .i64 n.id)) rfl rfl rfl rfl rfl rfl rfl rfl (.inl rfl) rfl rfl fun Xo1_12_1 => ?_
    exact RA.to hall (RA.lr (ro1_1111111111111110000000000 Xo1_12_1) rfl rfl)
   ·skip
    refine RO.store (d := I n.id) rfl rfl rfl rfl rfl rfl rfl rfl rfl (Nat.le_of_ble_eq_true rfl) rfl rfl ?_
    refine RA.first (i := 16) (ls' := #[true, true, true, true, true, true, true, true, true, true, true, true, false, true, true, true, true, false, false, false, false, false, false, false, false]) Tell.e (by kernel_rfl) rfl rfl rfl (VF.p (V.nilP rfl rfl)) ?_
    refine RA.first (i := 17) (ls' := #[true, true, true, true, true, true, true, true, true, true, true, true, false, true, true, true, true, true, false, false, false, false, false, false, false]) Tell.e (by kernel_rfl) rfl rfl rfl (VF.p (V.field rfl rfl rfl rfl (by decide) rfl)) ?_
    exact RA.to hall (RA.lr ro1_1111111111110111110000000 rfl rfl)
  have ro1_1111111011111000000000000 : ∀ (Xo1_12_1 : Value), RA [] E B all 13 #[true, true, true, true, true, true, true, false, true, true, true, true, true, false, false, false, false, false, false, false, false, false, false, false, false] ⟨79, [(0, .obj (bo 0) [I n.id, I (IntKind.i64.wrap (n.term_ + 1)), I n.vote, I n.role, I n.lead, .w (sl 1 cI n.conf) (g 0 5), I n.log.start, I n.log.startTerm, .w (sl 3 Entry.c n.log.entries) (g 0 8), I n.commit, I n.clock, I n.limit, .w (sl 1 cI n.votes) (g 0 12), .w (sl 4 Peer.c n.peers) (g 0 13)]), (15, .pt 0 (bo 0) 0), (16, .pt 0 (bo 0) 0), (17, .pt 0 (bo 0) 0), (18, .pt 0 (bo 0) 0), (21, .pt 0 (bo 0) 0), (27, .w (sl 1 cI ([n.id])) Xo1_12_1)]⟩ K := by
   intro Xo1_12_1
   refine RA.of hall (RA.stepH (L := [7]) Tell.e (by kernel_rfl) (by simp) (RA.each ?_ (RA.each0)))
   ·skip
    refine RO.v rfl rfl (V.loadPrim (d := I n.id) rfl rfl (.inl rfl) rfl rfl rfl) rfl ?_
    refine RA.first (i := 13) (ls' := #[true, true, true, true, true, true, true, true, true, true, true, true, true, true, false, false, false, false, false, false, false, false, false, false, false]) Tell.e (by kernel_rfl) rfl rfl rfl (VF.p (V.nilP rfl rfl)) ?_
    refine RA.first (i := 14) (ls' := #[true, true, true, true, true, true, true, true, true, true, true, true, true, true, true, false, false, false, false, false, false, false, false, false, false]) Tell.e (by kernel_rfl) rfl rfl rfl (VF.p (V.field rfl rfl rfl rfl (by decide) rfl)) ?_
    exact RA.to hall (RA.lr (ro1_1111111111111110000000000 Xo1_12_1) rfl rfl)
  have ro1_1111111011110000000000000 : RA [] E B all 14 #[true, true, true, true, true, true, true, false, true, true, true, true, false, false, false, false, false, false, false, false, false, false, false, false, false] ⟨79, [(0, .obj (bo 0) [I n.id, I (IntKind.i64.wrap (n.term_ + 1)), I n.vote, I n.role, I n.lead, .w (sl 1 cI n.conf) (g 0 5), I n.log.start, I n.log.startTerm, .w (sl 3 Entry.c n.log.entries) (g 0 8), I n.commit, I n.clock, I n.limit, .w (sl 1 cI n.votes) (g 0 12), .w (sl 4 Peer.c n.peers) (g 0 13)]), (15, .pt 0 (bo 0) 0), (16, .pt 0 (bo 0) 0), (17, .pt 0 (bo 0) 0), (18, .pt 0 (bo 0) 0), (21, .pt 0 (bo 0) 0), (26, I n.id)]⟩ K := by
   refine RA.of hall (RA.stepH (L := [7, 12]) Tell.e (by kernel_rfl) (by simp) (RA.each ?_ (RA.each ?_ (RA.each0))))
   ·skip
    refine RO.v rfl rfl (V.loadPrim (d := I n.id) rfl rfl (.inl rfl) rfl rfl rfl) rfl ?_
    refine RA.first (i := 13) (ls' := #[true, true, true, true, true, true, true, true, true, true, true, true, false, true, false, false, false, false, false, false, false, false, false, false, false]) Tell.e (by kernel_rfl) rfl rfl rfl (VF.p (V.nilP rfl rfl)) ?_
    refine RA.first (i := 14) (ls' := #[true, true, true, true, true, true, true, true, true, true, true, true, false, true, true, false, false, false, false, false, false, false, false, false, false]) Tell.e (by kernel_rfl) rfl rfl rfl (VF.p (V.field rfl rfl rfl rfl (by decide) rfl)) ?_
    exact RA.to hall (RA.lr ro1_1111111111110110000000000 rfl rfl)
   ·skip
    refine RO.build1c (c := cI) (v := n.id) (u := .v (.int .i64 n.id)) rfl rfl rfl rfl rfl rfl rfl rfl (.inl rfl) rfl rfl fun Xo1_12_1 => ?_
    exact RA.to hall (RA.lr (ro1_1111111011111000000000000 Xo1_12_1) rfl rfl)
  have ro1_1111111111100000000000000 : RA [] E B all 14 #[true, true, true, true, true, true, true, true, true, true, true, false, false, false, false, false, false, false, false, false, false, false, false, false, false] ⟨79, [(0, .obj (bo 0) [I n.id, I (IntKind.i64.wrap (n.term_ + 1)), I n.vote, I n.role, I n.lead, .w (sl 1 cI n.conf) (g 0 5), I n.log.start, I n.log.startTerm, .w (sl 3 Entry.c n.log.entries) (g 0 8), I n.commit, I n.clock, I n.limit, .w (sl 1 cI n.votes) (g 0 12), .w (sl 4 Peer.c n.peers) (g 0 13)]), (15, .pt 0 (bo 0) 0), (16, .pt 0 (bo 0) 0), (17, .pt 0 (bo 0) 0), (18, .pt 0 (bo 0) 0), (22, I n.id), (25, .pt 0 (bo 0) 0)]⟩ K := by
   refine RA.of hall (RA.stepH (L := [11]) Tell.e (by kernel_rfl) (by simp) (RA.each ?_ (RA.each0)))
   ·skip
    refine RO.v rfl rfl (V.loadPrim (d := I n.id) rfl rfl (.inl rfl) rfl rfl rfl) rfl ?_
    refine RA.first (i := 13) (ls' := #[true, true, true, true, true, true, true, true, true, true, true, true, false, true, false, false, false, false, false, false, false, false, false, false, false]) Tell.e (by kernel_rfl) rfl rfl rfl (VF.p (V.nilP rfl rfl)) ?_
    refine RA.first (i := 14) (ls' := #[true, true, true, true, true, true, true, true, true, true, true, true, false, true, true, false, false, false, false, false, false, false, false, false, false]) Tell.e (by kernel_rfl) rfl rfl rfl (VF.p (V.field rfl rfl rfl rfl (by decide) rfl)) ?_
    exact RA.to hall (RA.lr ro1_1111111111110110000000000 rfl rfl)
  have ro1_1111111011100000000000000 : RA [] E B all 15 #[true, true, true, true, true, true, true, false, true, true, true, false, false, false, false, false, false, false, false, false, false, false, false, false, false] ⟨79, [(0, .obj (bo 0) [I n.id, I (IntKind.i64.wrap (n.term_ + 1)), I n.vote, I n.role, I n.lead, .w (sl 1 cI n.conf) (g 0 5), I n.log.start, I n.log.startTerm, .w (sl 3 Entry.c n.log.entries) (g 0 8), I n.commit, I n.clock, I n.limit, .w (sl 1 cI n.votes) (g 0 12), .w (sl 4 Peer.c n.peers) (g 0 13)]), (15, .pt 0 (bo 0) 0), (16, .pt 0 (bo 0) 0), (17, .pt 0 (bo 0) 0), (18, .pt 0 (bo 0) 0), (21, .pt 0 (bo 0) 0), (25, .pt 0 (bo 0) 0)]⟩ K := by
   refine RA.of hall (RA.stepH (L := [7, 11]) Tell.e (by kernel_rfl) (by simp) (RA.each ?_ (RA.each ?_ (RA.each0))))
   ·skip
    refine RO.v rfl rfl (V.loadPrim (d := I n.id) rfl rfl (.inl rfl) rfl rfl rfl) rfl ?_
    exact RA.to hall (RA.lr ro1_1111111111100000000000000 rfl rfl)
   ·skip
    refine RO.v rfl rfl (V.loadPrim (d := I n.id) rfl rfl (.inl rfl) rfl rfl rfl) rfl ?_
    exact RA.to hall (RA.lr ro1_1111111011110000000000000 rfl rfl)
  have ro1_S : RA [] E B all 25 #[false, false, false, false, false, false, false, false, false, false, false, false, false, false, false, false, false, false, false, false, false, false, false, false, false] ⟨79, [(0, .obj (bo 0) [I n.id, I (IntKind.i64.wrap (n.term_ + 1)), I n.vote, I n.role, I n.lead, .w (sl 1 cI n.conf) (g 0 5), I n.log.start, I n.log.startTerm, .w (sl 3 Entry.c n.log.entries) (g 0 8), I n.commit, I n.clock, I n.limit, .w (sl 1 cI n.votes) (g 0 12), .w (sl 4 Peer.c n.peers) (g 0 13)])]⟩ K := by
   refine RA.of hall ?_
   refine RA.first (i := 0) (ls' := #[true, false, false, false, false, false, false, false, false, false, false, false, false, false, false, false, false, false, false, false, false, false, false, false, false]) Tell.e (by kernel_rfl) rfl rfl rfl (VF.p (V.mv (d := .pt 0 (bo 0) 0) rfl rfl)) ?_
   refine RA.first (i := 1) (ls' := #[true, true, false, false, false, false, false, false, false, false, false, false, false, false, false, false, false, false, false, false, false, false, false, false, false]) Tell.e (by kernel_rfl) rfl rfl rfl (VF.p (V.mv (d := .pt 0 (bo 0) 0) rfl rfl)) ?_
   refine RA.first (i := 2) (ls' := #[true, true, true, false, false, false, false, false, false, false, false, false, false, false, false, false, false, false, false, false, false, false, false, false, false]) Tell.e (by kernel_rfl) rfl rfl rfl (VF.p (V.mv (d := .pt 0 (bo 0) 0) rfl rfl)) ?_
   refine RA.first (i := 3) (ls' := #[true, true, true, true, false, false, false, false, false, false, false, false, false, false, false, false, false, false, false, false, false, false, false, false, false]) Tell.e (by kernel_rfl) rfl rfl rfl (VF.p (V.mv (d := .pt 0 (bo 0) 0) rfl rfl)) ?_
   refine RA.le [(0, .obj (bo 0) [I n.id, I (IntKind.i64.wrap (n.term_ + 1)), I n.vote, I n.role, I n.lead, .w (sl 1 cI n.conf) (g 0 5), I n.log.start, I n.log.startTerm, .w (sl 3 Entry.c n.log.entries) (g 0 8), I n.commit, I n.clock, I n.limit, .w (sl 1 cI n.votes) (g 0 12), .w (sl 4 Peer.c n.peers) (g 0 13)]), (15, .pt 0 (bo 0) 0), (16, .pt 0 (bo 0) 0), (17, .pt 0 (bo 0) 0), (18, .pt 0 (bo 0) 0)] rfl (Le.of rfl) ?_
   refine RA.first (i := 4) (ls' := #[true, true, true, true, true, false, false, false, false, false, false, false, false, false, false, false, false, false, false, false, false, false, false, false, false]) Tell.e (by kernel_rfl) rfl rfl rfl (VF.p (V.mv (d := .pt 0 (bo 0) 0) rfl rfl)) ?_
   refine RA.first (i := 5) (ls' := #[true, true, true, true, true, true, false, false, false, false, false, false, false, false, false, false, false, false, false, false, false, false, false, false, false]) Tell.e (by kernel_rfl) rfl rfl rfl (VF.p (V.nilP rfl rfl)) ?_
   refine RA.first (i := 6) (ls' := #[true, true, true, true, true, true, true, false, false, false, false, false, false, false, false, false, false, false, false, false, false, false, false, false, false]) Tell.e (by kernel_rfl) rfl rfl rfl (VF.p (V.field rfl rfl rfl rfl (by decide) rfl)) ?_
   refine RA.first (i := 8) (ls' := #[true, true, true, true, true, true, true, false, true, false, false, false, false, false, false, false, false, false, false, false, false, false, false, false, false]) Tell.e (by kernel_rfl) rfl rfl rfl (VF.p (V.mv (d := .pt 0 (bo 0) 0) rfl rfl)) ?_
   refine RA.le [(0, .obj (bo 0) [I n.id, I (IntKind.i64.wrap (n.term_ + 1)), I n.vote, I n.role, I n.lead, .w (sl 1 cI n.conf) (g 0 5), I n.log.start, I n.log.startTerm, .w (sl 3 Entry.c n.log.entries) (g 0 8), I n.commit, I n.clock, I n.limit, .w (sl 1 cI n.votes) (g 0 12), .w (sl 4 Peer.c n.peers) (g 0 13)]), (15, .pt 0 (bo 0) 0), (16, .pt 0 (bo 0) 0), (17, .pt 0 (bo 0) 0), (18, .pt 0 (bo 0) 0), (21, .pt 0 (bo 0) 0), (23, .pt 0 (bo 0) 0)] rfl (Le.of rfl) ?_
   refine RA.first (i := 9) (ls' := #[true, true, true, true, true, true, true, false, true, true, false, false, false, false, false, false, false, false, false, false, false, false, false, false, false]) Tell.e (by kernel_rfl) rfl rfl rfl (VF.p (V.nilP rfl rfl)) ?_
   refine RA.first (i := 10) (ls' := #[true, true, true, true, true, true, true, false, true, true, true, false, false, false, false, false, false, false, false, false, false, false, false, false, false]) Tell.e (by kernel_rfl) rfl rfl rfl (VF.p (V.field rfl rfl rfl rfl (by decide) rfl)) ?_
   exact RA.to hall (RA.lr ro1_1111111011100000000000000 rfl rfl)
  exact RA.start (by kernel_rfl) (by kernel_rfl) (RA.lr ro1_S rfl rfl)
 ·rintro Xo1_12_1
  refine CW.seq ?_
  refine CW.region ?_
  refine RW.v rfl (V.mv (d := .pt 0 (bo 0) 0) rfl rfl) ?_
  refine RW.v rfl (V.nilP rfl rfl) ?_
  refine RW.v rfl (V.loadAgg rfl rfl rfl rfl rfl (Nat.le_of_ble_eq_true rfl)) ?_
  refine RW.callOwn rfl (impl_ConfOf_fn (⟨n.id, (IntKind.i64.wrap (n.term_ + 1)), n.id, 1, 0, n.conf, n.log, n.commit, n.clock, n.limit, [n.id], n.peers⟩ : Node) (okStand hok)) rfl (.cons (.agg (.cons (.r .r) (.cons (.r .r) (.cons (.r .r) (.cons (.r .r) (.cons (.r .r) (.cons (.r (.alo (k := none) (i := 0) (j := 5) (sz := 1) (V := (g 0 5)) rfl rfl rfl nofun)) (.cons (.r .r) (.cons (.r .r) (.cons (.r (.alo (k := none) (i := 0) (j := 8) (sz := 3) (V := (g 0 8)) rfl rfl rfl nofun)) (.cons (.r .r) (.cons (.r .r) (.cons (.r .r) (.cons (.r (.alo (k := none) (i := 0) (j := 12) (sz := 1) (V := Xo1_12_1) rfl rfl rfl nofun)) (.cons (.r (.alo (k := none) (i := 0) (j := 13) (sz := 4) (V := (g 0 13)) rfl rfl rfl nofun)) (.nil)))))))))))))))) (.nil)) rfl fun g2 => ?_
  refine RW.assignMove rfl rfl rfl (by decide) (Nat.le_of_ble_eq_true rfl) (Nat.le_of_ble_eq_true rfl) ?_
  refine RW.nil ?_
  refine CW.le [(0, .obj (bo 0) [I n.id, I (IntKind.i64.wrap (n.term_ + 1)), I n.id, I 1, I 0, .w (sl 1 cI n.conf) (g 0 5), I n.log.start, I n.log.startTerm, .w (sl 3 Entry.c n.log.entries) (g 0 8), I n.commit, I n.clock, I n.limit, .w (sl 1 cI ([n.id])) Xo1_12_1, .w (sl 4 Peer.c n.peers) (g 0 13)]), (3, .w (sl 1 cI ((lastC (⟨n.id, (IntKind.i64.wrap (n.term_ + 1)), n.id, 1, 0, n.conf, n.log, n.commit, n.clock, n.limit, [n.id], n.peers⟩ : Node) (logLast (⟨n.id, (IntKind.i64.wrap (n.term_ + 1)), n.id, 1, 0, n.conf, n.log, n.commit, n.clock, n.limit, [n.id], n.peers⟩ : Node).log).1).2)) (g2 0 0))] rfl (Le.of rfl) ?_
  refine CW.seq ?_
  refine CW.seq ?_
  refine CW.region ?_
  refine RW.v rfl (V.mv (d := .al 3 none 1 (((lastC (⟨n.id, (IntKind.i64.wrap (n.term_ + 1)), n.id, 1, 0, n.conf, n.log, n.commit, n.clock, n.limit, [n.id], n.peers⟩ : Node) (logLast (⟨n.id, (IntKind.i64.wrap (n.term_ + 1)), n.id, 1, 0, n.conf, n.log, n.commit, n.clock, n.limit, [n.id], n.peers⟩ : Node).log).1).2).length) (g2 0 0) 0) rfl rfl) ?_
  refine RW.v rfl (V.mv (d := .pt 0 (bo 0) 0) rfl rfl) ?_
  refine RW.v rfl (V.nilP rfl rfl) ?_
  refine RW.v rfl (V.field rfl rfl rfl rfl (by decide) rfl) ?_
  refine RW.v rfl (V.loadPrim (d := .al 0 (some 12) 1 (([n.id]).length) Xo1_12_1 0) rfl rfl (.inr ⟨_, rfl⟩) rfl rfl rfl) ?_
  refine RW.callOwn rfl (impl_Most_fn ((lastC (⟨n.id, (IntKind.i64.wrap (n.term_ + 1)), n.id, 1, 0, n.conf, n.log, n.commit, n.clock, n.limit, [n.id], n.peers⟩ : Node) (logLast (⟨n.id, (IntKind.i64.wrap (n.term_ + 1)), n.id, 1, 0, n.conf, n.log, n.commit, n.clock, n.limit, [n.id], n.peers⟩ : Node).log).1).2) ([n.id])) rfl (.cons (.one (.r (.al (k := none) (i := 3) (sz := 1) (V := (g2 0 0)) rfl rfl nofun))) (.cons (.one (.r (.alo (k := none) (i := 0) (j := 12) (sz := 1) (V := Xo1_12_1) rfl rfl rfl nofun))) (.nil))) rfl fun g3 => ?_
  refine RW.nil ?_
  refine CW.le [(0, .obj (bo 0) [I n.id, I (IntKind.i64.wrap (n.term_ + 1)), I n.id, I 1, I 0, .w (sl 1 cI n.conf) (g 0 5), I n.log.start, I n.log.startTerm, .w (sl 3 Entry.c n.log.entries) (g 0 8), I n.commit, I n.clock, I n.limit, .w (sl 1 cI ([n.id])) Xo1_12_1, .w (sl 4 Peer.c n.peers) (g 0 13)]), (3, .w (sl 1 cI ((lastC (⟨n.id, (IntKind.i64.wrap (n.term_ + 1)), n.id, 1, 0, n.conf, n.log, n.commit, n.clock, n.limit, [n.id], n.peers⟩ : Node) (logLast (⟨n.id, (IntKind.i64.wrap (n.term_ + 1)), n.id, 1, 0, n.conf, n.log, n.commit, n.clock, n.limit, [n.id], n.peers⟩ : Node).log).1).2)) (g2 0 0)), (45, Bo (most ((lastC (⟨n.id, (IntKind.i64.wrap (n.term_ + 1)), n.id, 1, 0, n.conf, n.log, n.commit, n.clock, n.limit, [n.id], n.peers⟩ : Node) (logLast (⟨n.id, (IntKind.i64.wrap (n.term_ + 1)), n.id, 1, 0, n.conf, n.log, n.commit, n.clock, n.limit, [n.id], n.peers⟩ : Node).log).1).2) ([n.id])))] rfl (Le.of rfl) ?_
  refine CW.cond rfl (fun h4 => ?_) (fun h4 => ?_)
  ·skip
   have hmy : most (confN n) [n.id] = true := h4
   refine CW.seq ?_
   refine CW.region ?_
   refine RW.v rfl (V.mv (d := .pt 0 (bo 0) 0) rfl rfl) ?_
   refine RW.callW (k := 0) (__impl_Node__lead_fn (⟨n.id, (IntKind.i64.wrap (n.term_ + 1)), n.id, 1, 0, n.conf, n.log, n.commit, n.clock, n.limit, [n.id], n.peers⟩ : Node) hl (okStand hok) (by have h1 := ht.1; have h2 := ht.2; show 0 ≤ IntKind.i64.wrap (n.term_ + 1); rw [IntKind.wrap_i64]; omega)) rfl rfl (Nat.le_of_ble_eq_true rfl) (by decide) (.here (AsW.ob (DT.v (DT.v (DT.v (DT.v (DT.v (DT.w (DT.v (DT.v (DT.w (DT.v (DT.v (DT.v (DT.w (DT.w DT.e)))))))))))))) rfl) (.nil)) rfl fun g5 q6 => ?_
   refine RW.assignMove rfl rfl rfl (by decide) (Nat.le_of_ble_eq_true rfl) (Nat.le_of_ble_eq_true rfl) ?_
   refine RW.nil ?_
   refine CW.le [(0, .obj (bo 0) [I ((leadN (⟨n.id, (IntKind.i64.wrap (n.term_ + 1)), n.id, 1, 0, n.conf, n.log, n.commit, n.clock, n.limit, [n.id], n.peers⟩ : Node)).id), I ((leadN (⟨n.id, (IntKind.i64.wrap (n.term_ + 1)), n.id, 1, 0, n.conf, n.log, n.commit, n.clock, n.limit, [n.id], n.peers⟩ : Node)).term_), I ((leadN (⟨n.id, (IntKind.i64.wrap (n.term_ + 1)), n.id, 1, 0, n.conf, n.log, n.commit, n.clock, n.limit, [n.id], n.peers⟩ : Node)).vote), I ((leadN (⟨n.id, (IntKind.i64.wrap (n.term_ + 1)), n.id, 1, 0, n.conf, n.log, n.commit, n.clock, n.limit, [n.id], n.peers⟩ : Node)).role), I ((leadN (⟨n.id, (IntKind.i64.wrap (n.term_ + 1)), n.id, 1, 0, n.conf, n.log, n.commit, n.clock, n.limit, [n.id], n.peers⟩ : Node)).lead), .w (sl 1 cI ((leadN (⟨n.id, (IntKind.i64.wrap (n.term_ + 1)), n.id, 1, 0, n.conf, n.log, n.commit, n.clock, n.limit, [n.id], n.peers⟩ : Node)).conf)) (q6 5), I (((leadN (⟨n.id, (IntKind.i64.wrap (n.term_ + 1)), n.id, 1, 0, n.conf, n.log, n.commit, n.clock, n.limit, [n.id], n.peers⟩ : Node)).log).start), I (((leadN (⟨n.id, (IntKind.i64.wrap (n.term_ + 1)), n.id, 1, 0, n.conf, n.log, n.commit, n.clock, n.limit, [n.id], n.peers⟩ : Node)).log).startTerm), .w (sl 3 Entry.c (((leadN (⟨n.id, (IntKind.i64.wrap (n.term_ + 1)), n.id, 1, 0, n.conf, n.log, n.commit, n.clock, n.limit, [n.id], n.peers⟩ : Node)).log).entries)) (q6 8), I ((leadN (⟨n.id, (IntKind.i64.wrap (n.term_ + 1)), n.id, 1, 0, n.conf, n.log, n.commit, n.clock, n.limit, [n.id], n.peers⟩ : Node)).commit), I ((leadN (⟨n.id, (IntKind.i64.wrap (n.term_ + 1)), n.id, 1, 0, n.conf, n.log, n.commit, n.clock, n.limit, [n.id], n.peers⟩ : Node)).clock), I ((leadN (⟨n.id, (IntKind.i64.wrap (n.term_ + 1)), n.id, 1, 0, n.conf, n.log, n.commit, n.clock, n.limit, [n.id], n.peers⟩ : Node)).limit), .w (sl 1 cI ((leadN (⟨n.id, (IntKind.i64.wrap (n.term_ + 1)), n.id, 1, 0, n.conf, n.log, n.commit, n.clock, n.limit, [n.id], n.peers⟩ : Node)).votes)) (q6 12), .w (sl 4 Peer.c ((leadN (⟨n.id, (IntKind.i64.wrap (n.term_ + 1)), n.id, 1, 0, n.conf, n.log, n.commit, n.clock, n.limit, [n.id], n.peers⟩ : Node)).peers)) (q6 13)]), (2, .w (sl 12 Message.c ((leadN (⟨n.id, (IntKind.i64.wrap (n.term_ + 1)), n.id, 1, 0, n.conf, n.log, n.commit, n.clock, n.limit, [n.id], n.peers⟩ : Node)).peers.map (sendN (leadN (⟨n.id, (IntKind.i64.wrap (n.term_ + 1)), n.id, 1, 0, n.conf, n.log, n.commit, n.clock, n.limit, [n.id], n.peers⟩ : Node))))) (g5 0 0))] rfl (Le.of rfl) ?_
   refine CW.ret ?_
   exact Post.one (RV.w rfl (by rw [standN_yes hmy]; rfl)) (AOs.obE (f := fun e => (Node.c e).map .w) (e' := (leadN (⟨n.id, (IntKind.i64.wrap (n.term_ + 1)), n.id, 1, 0, n.conf, n.log, n.commit, n.clock, n.limit, [n.id], n.peers⟩ : Node))) rfl (DT.v (DT.v (DT.v (DT.v (DT.v (DT.w (DT.v (DT.v (DT.w (DT.v (DT.v (DT.v (DT.w (DT.w DT.e)))))))))))))) (by rw [standN_yes hmy]; rfl) AOs.e)
  ·skip
   have hmn : most (confN n) [n.id] = false := h4
   refine CW.skip ?_
   refine CW.le [(0, .obj (bo 0) [I n.id, I (IntKind.i64.wrap (n.term_ + 1)), I n.id, I 1, I 0, .w (sl 1 cI n.conf) (g 0 5), I n.log.start, I n.log.startTerm, .w (sl 3 Entry.c n.log.entries) (g 0 8), I n.commit, I n.clock, I n.limit, .w (sl 1 cI ([n.id])) Xo1_12_1, .w (sl 4 Peer.c n.peers) (g 0 13)]), (3, .w (sl 1 cI ((lastC (⟨n.id, (IntKind.i64.wrap (n.term_ + 1)), n.id, 1, 0, n.conf, n.log, n.commit, n.clock, n.limit, [n.id], n.peers⟩ : Node) (logLast (⟨n.id, (IntKind.i64.wrap (n.term_ + 1)), n.id, 1, 0, n.conf, n.log, n.commit, n.clock, n.limit, [n.id], n.peers⟩ : Node).log).1).2)) (g2 0 0))] rfl (Le.of rfl) ?_
   refine CW.seq ?_
   refine CW.region ?_
   refine RW.build0 Message.c rfl rfl rfl rfl rfl fun X7 => ?_
   refine RW.assignMove rfl rfl rfl (by decide) (Nat.le_of_ble_eq_true rfl) (Nat.le_of_ble_eq_true rfl) ?_
   refine RW.nil ?_
   refine CW.le [(0, .obj (bo 0) [I n.id, I (IntKind.i64.wrap (n.term_ + 1)), I n.id, I 1, I 0, .w (sl 1 cI n.conf) (g 0 5), I n.log.start, I n.log.startTerm, .w (sl 3 Entry.c n.log.entries) (g 0 8), I n.commit, I n.clock, I n.limit, .w (sl 1 cI ([n.id])) Xo1_12_1, .w (sl 4 Peer.c n.peers) (g 0 13)]), (3, .w (sl 1 cI ((lastC (⟨n.id, (IntKind.i64.wrap (n.term_ + 1)), n.id, 1, 0, n.conf, n.log, n.commit, n.clock, n.limit, [n.id], n.peers⟩ : Node) (logLast (⟨n.id, (IntKind.i64.wrap (n.term_ + 1)), n.id, 1, 0, n.conf, n.log, n.commit, n.clock, n.limit, [n.id], n.peers⟩ : Node).log).1).2)) (g2 0 0)), (4, .w (sl 12 Message.c ([] : List Message)) X7)] rfl (Le.of rfl) ?_
   refine CW.seq ?_
   refine CW.seq ?_
   refine CW.region ?_
   refine RW.v rfl (V.mv (d := .al 3 none 1 (((lastC (⟨n.id, (IntKind.i64.wrap (n.term_ + 1)), n.id, 1, 0, n.conf, n.log, n.commit, n.clock, n.limit, [n.id], n.peers⟩ : Node) (logLast (⟨n.id, (IntKind.i64.wrap (n.term_ + 1)), n.id, 1, 0, n.conf, n.log, n.commit, n.clock, n.limit, [n.id], n.peers⟩ : Node).log).1).2).length) (g2 0 0) 0) rfl rfl) ?_
   refine RW.v rfl (V.mv (d := .pt 0 (bo 0) 0) rfl rfl) ?_
   refine RW.v rfl (V.nilP rfl rfl) ?_
   refine RW.v rfl (V.field rfl rfl rfl rfl (by decide) rfl) ?_
   refine RW.v rfl (V.loadPrim (d := I n.id) rfl rfl (.inl rfl) rfl rfl rfl) ?_
   refine RW.callOwn rfl (impl_without_fn ((lastC (⟨n.id, (IntKind.i64.wrap (n.term_ + 1)), n.id, 1, 0, n.conf, n.log, n.commit, n.clock, n.limit, [n.id], n.peers⟩ : Node) (logLast (⟨n.id, (IntKind.i64.wrap (n.term_ + 1)), n.id, 1, 0, n.conf, n.log, n.commit, n.clock, n.limit, [n.id], n.peers⟩ : Node).log).1).2) n.id (lastC_len hok _)) rfl (.cons (.one (.r (.al (k := none) (i := 3) (sz := 1) (V := (g2 0 0)) rfl rfl nofun))) (.cons (.one (.r .r)) (.nil))) rfl fun g8 => ?_
   refine RW.v rfl (V.lenT (n := (others ((lastC (⟨n.id, (IntKind.i64.wrap (n.term_ + 1)), n.id, 1, 0, n.conf, n.log, n.commit, n.clock, n.limit, [n.id], n.peers⟩ : Node) (logLast (⟨n.id, (IntKind.i64.wrap (n.term_ + 1)), n.id, 1, 0, n.conf, n.log, n.commit, n.clock, n.limit, [n.id], n.peers⟩ : Node).log).1).2) n.id).length) rfl rfl rfl (.al rfl rfl nofun)) ?_
   refine RW.v rfl (V.mv (d := I 0) rfl rfl) ?_
   refine RW.nil ?_
   obtain ⟨L9, hn10⟩ : ∃ z : List Int, z = others ((lastC (⟨n.id, (IntKind.i64.wrap (n.term_ + 1)), n.id, 1, 0, n.conf, n.log, n.commit, n.clock, n.limit, [n.id], n.peers⟩ : Node) (logLast (⟨n.id, (IntKind.i64.wrap (n.term_ + 1)), n.id, 1, 0, n.conf, n.log, n.commit, n.clock, n.limit, [n.id], n.peers⟩ : Node).log).1).2) n.id := ⟨_, rfl⟩
   refine CW.le [(0, .obj (bo 0) [I n.id, I (IntKind.i64.wrap (n.term_ + 1)), I n.id, I 1, I 0, .w (sl 1 cI n.conf) (g 0 5), I n.log.start, I n.log.startTerm, .w (sl 3 Entry.c n.log.entries) (g 0 8), I n.commit, I n.clock, I n.limit, .w (sl 1 cI ([n.id])) Xo1_12_1, .w (sl 4 Peer.c n.peers) (g 0 13)]), (4, .w (sl 12 Message.c ([] : List Message)) X7), (54, .w (sl 1 cI L9) (g8 0 0)), (55, I (L9.length : Int)), (56, I 0)] rfl (Le.c rfl <| Le.c rfl <| Le.c (by subst hn10; rfl) <| Le.c (by subst hn10; rfl) <| Le.c rfl <| Le.e) ?_
   refine CW.le [(0, .obj (bo 0) [I n.id, I (IntKind.i64.wrap (n.term_ + 1)), I n.id, I 1, I 0, .w (sl 1 cI n.conf) (g 0 5), I n.log.start, I n.log.startTerm, .w (sl 3 Entry.c n.log.entries) (g 0 8), I n.commit, I n.clock, I n.limit, .w (sl 1 cI ([n.id])) Xo1_12_1, .w (sl 4 Peer.c n.peers) (g 0 13)]), (4, .w (sl 12 Message.c ([] : List Message)) X7), (54, .w (sl 1 cI L9) (g8 0 0)), (55, I (L9.length : Int)), (56, I 0)] rfl (Le.of rfl) ?_
   refine CW.block ?_
   refine CW.loopI 79 (fun (zz : Nat × Value) => match zz with | (i, X) => [(0, .obj (bo 0) [I n.id, I (IntKind.i64.wrap (n.term_ + 1)), I n.id, I 1, I 0, .w (sl 1 cI n.conf) (g 0 5), I n.log.start, I n.log.startTerm, .w (sl 3 Entry.c n.log.entries) (g 0 8), I n.commit, I n.clock, I n.limit, .w (sl 1 cI ([n.id])) Xo1_12_1, .w (sl 4 Peer.c n.peers) (g 0 13)]), (4, .w (sl 12 Message.c ((L9.take i).map fun q => (⟨1, n.id, q, IntKind.i64.wrap (n.term_ + 1), (logLast n.log).1, (logLast n.log).2, 0, false, [], [], ⟨#[]⟩, false⟩ : Message))) X), (54, .w (sl 1 cI L9) (g8 0 0)), (55, I (L9.length : Int)), (56, I (i : Int))]) (fun (zz : Nat × Value) => match zz with | (i, X) => i ≤ L9.length) (fun (zz : Nat × Value) => match zz with | (i, X) => L9.length - i) (0, _) rfl (Le.c rfl <| Le.c rfl <| Le.c rfl <| Le.c rfl <| Le.c rfl <| Le.e) (by omega) ?_
   rintro ⟨i, X⟩ hb
   have hlL : L9.length ≤ 1048576 := by rw [hn10]; exact Nat.le_trans (others_len _ _) (lastC_len hok _)
   have hl0 : L9.length ≤ maxLen := Nat.le_trans hlL (by decide)
   refine CW.seq ?_
   refine CW.region ?_
   refine RW.v rfl (V.cmpInt rfl rfl rfl rfl) ?_
   refine RW.nil ?_
   refine CW.le [(0, .obj (bo 0) [I n.id, I (IntKind.i64.wrap (n.term_ + 1)), I n.id, I 1, I 0, .w (sl 1 cI n.conf) (g 0 5), I n.log.start, I n.log.startTerm, .w (sl 3 Entry.c n.log.entries) (g 0 8), I n.commit, I n.clock, I n.limit, .w (sl 1 cI ([n.id])) Xo1_12_1, .w (sl 4 Peer.c n.peers) (g 0 13)]), (4, .w (sl 12 Message.c ((L9.take i).map fun q => (⟨1, n.id, q, IntKind.i64.wrap (n.term_ + 1), (logLast n.log).1, (logLast n.log).2, 0, false, [], [], ⟨#[]⟩, false⟩ : Message))) X), (54, .w (sl 1 cI L9) (g8 0 0)), (55, I (L9.length : Int)), (56, I (i : Int)), (57, Bo (decide ((i : Int) < (L9.length : Int))))] rfl (Le.of rfl) ?_
   refine CW.seq ?_
   refine CW.cond rfl (fun h11 => ?_) (fun h11 => ?_)
   ·skip
    have hii : i < L9.length := by have := h11; simp at this; first | exact this | omega | (simp; done) | (simp; omega)
    obtain ⟨ei, hei⟩ : ∃ e, L9[i]? = some e := ⟨_, List.getElem?_eq_getElem hii⟩
    have hdi := drop_get hei
    refine CW.skip ?_
    refine CW.le [(0, .obj (bo 0) [I n.id, I (IntKind.i64.wrap (n.term_ + 1)), I n.id, I 1, I 0, .w (sl 1 cI n.conf) (g 0 5), I n.log.start, I n.log.startTerm, .w (sl 3 Entry.c n.log.entries) (g 0 8), I n.commit, I n.clock, I n.limit, .w (sl 1 cI ([n.id])) Xo1_12_1, .w (sl 4 Peer.c n.peers) (g 0 13)]), (4, .w (sl 12 Message.c ((L9.take i).map fun q => (⟨1, n.id, q, IntKind.i64.wrap (n.term_ + 1), (logLast n.log).1, (logLast n.log).2, 0, false, [], [], ⟨#[]⟩, false⟩ : Message))) X), (54, .w (sl 1 cI L9) (g8 0 0)), (55, I (L9.length : Int)), (56, I (i : Int))] rfl (Le.of rfl) ?_
    refine CW.seq ?_
    refine CW.block ?_
    refine CW.seq ?_
    refine CW.region ?_
    refine RW.v rfl (V.indexW rfl rfl rfl rfl rfl rfl rfl hii) ?_
    refine RW.v rfl (V.loadF (m := i) (off := 0) rfl rfl (.inl rfl) rfl rfl cI.len hei (by decide) rfl) ?_
    refine RW.v rfl (V.as (d := I ei) rfl rfl) ?_
    refine RW.nil ?_
    refine CW.le [(0, .obj (bo 0) [I n.id, I (IntKind.i64.wrap (n.term_ + 1)), I n.id, I 1, I 0, .w (sl 1 cI n.conf) (g 0 5), I n.log.start, I n.log.startTerm, .w (sl 3 Entry.c n.log.entries) (g 0 8), I n.commit, I n.clock, I n.limit, .w (sl 1 cI ([n.id])) Xo1_12_1, .w (sl 4 Peer.c n.peers) (g 0 13)]), (4, .w (sl 12 Message.c ((L9.take i).map fun q => (⟨1, n.id, q, IntKind.i64.wrap (n.term_ + 1), (logLast n.log).1, (logLast n.log).2, 0, false, [], [], ⟨#[]⟩, false⟩ : Message))) X), (6, I ei), (54, .w (sl 1 cI L9) (g8 0 0)), (55, I (L9.length : Int)), (56, I (i : Int))] rfl (Le.of rfl) ?_
    refine CW.seq ?_
    refine CW.region ?_
    refine RW.v rfl (V.mv (d := .pt 0 (bo 0) 0) rfl rfl) ?_
    refine RW.v rfl (V.mv (d := I ei) rfl rfl) ?_
    refine RW.callOwn rfl (__impl_Node__message_fn (⟨n.id, (IntKind.i64.wrap (n.term_ + 1)), n.id, 1, 0, n.conf, n.log, n.commit, n.clock, n.limit, [n.id], n.peers⟩ : Node) 1 ei) rfl (.cons (.one (.r (.pt rfl rfl (DRd.r (DRd.r (DRd.r (DRd.r (DRd.r (DRd.ow (DRd.r (DRd.r (DRd.ow (DRd.r (DRd.r (DRd.r (DRd.ow (DRd.ow DRd.e)))))))))))))) nofun))) (.cons (.one (.r .r)) (.cons (.one (.r .r)) (.nil)))) rfl fun g12 => ?_
    refine RW.alloc (ds := [I 0, I 0, I 0, I 0, I 0, I 0, I 0, Bo false, .r (.v (.slice none 0 0)), .r (.v (.slice none 0 0)), S (⟨#[]⟩), Bo false]) rfl rfl rfl rfl fun b13 => ?_
    refine RW.storeAgg (es := [I ((msgN (⟨n.id, (IntKind.i64.wrap (n.term_ + 1)), n.id, 1, 0, n.conf, n.log, n.commit, n.clock, n.limit, [n.id], n.peers⟩ : Node) 1 ei).kind), I ((msgN (⟨n.id, (IntKind.i64.wrap (n.term_ + 1)), n.id, 1, 0, n.conf, n.log, n.commit, n.clock, n.limit, [n.id], n.peers⟩ : Node) 1 ei).from_), I ((msgN (⟨n.id, (IntKind.i64.wrap (n.term_ + 1)), n.id, 1, 0, n.conf, n.log, n.commit, n.clock, n.limit, [n.id], n.peers⟩ : Node) 1 ei).to), I ((msgN (⟨n.id, (IntKind.i64.wrap (n.term_ + 1)), n.id, 1, 0, n.conf, n.log, n.commit, n.clock, n.limit, [n.id], n.peers⟩ : Node) 1 ei).term_), I ((msgN (⟨n.id, (IntKind.i64.wrap (n.term_ + 1)), n.id, 1, 0, n.conf, n.log, n.commit, n.clock, n.limit, [n.id], n.peers⟩ : Node) 1 ei).index), I ((msgN (⟨n.id, (IntKind.i64.wrap (n.term_ + 1)), n.id, 1, 0, n.conf, n.log, n.commit, n.clock, n.limit, [n.id], n.peers⟩ : Node) 1 ei).logTerm), I ((msgN (⟨n.id, (IntKind.i64.wrap (n.term_ + 1)), n.id, 1, 0, n.conf, n.log, n.commit, n.clock, n.limit, [n.id], n.peers⟩ : Node) 1 ei).commit), Bo ((msgN (⟨n.id, (IntKind.i64.wrap (n.term_ + 1)), n.id, 1, 0, n.conf, n.log, n.commit, n.clock, n.limit, [n.id], n.peers⟩ : Node) 1 ei).ok), .al 62 (some 8) 3 (((msgN (⟨n.id, (IntKind.i64.wrap (n.term_ + 1)), n.id, 1, 0, n.conf, n.log, n.commit, n.clock, n.limit, [n.id], n.peers⟩ : Node) 1 ei).entries).length) (g12 0 8) 0, .al 62 (some 9) 1 (((msgN (⟨n.id, (IntKind.i64.wrap (n.term_ + 1)), n.id, 1, 0, n.conf, n.log, n.commit, n.clock, n.limit, [n.id], n.peers⟩ : Node) 1 ei).conf).length) (g12 0 9) 0, S ((msgN (⟨n.id, (IntKind.i64.wrap (n.term_ + 1)), n.id, 1, 0, n.conf, n.log, n.commit, n.clock, n.limit, [n.id], n.peers⟩ : Node) 1 ei).data), Bo ((msgN (⟨n.id, (IntKind.i64.wrap (n.term_ + 1)), n.id, 1, 0, n.conf, n.log, n.commit, n.clock, n.limit, [n.id], n.peers⟩ : Node) 1 ei).last)]) rfl rfl rfl rfl rfl rfl rfl rfl (Nat.le_of_ble_eq_true rfl) rfl ?_
    refine RW.le [(0, .obj (bo 0) [I n.id, I (IntKind.i64.wrap (n.term_ + 1)), I n.id, I 1, I 0, .w (sl 1 cI n.conf) (g 0 5), I n.log.start, I n.log.startTerm, .w (sl 3 Entry.c n.log.entries) (g 0 8), I n.commit, I n.clock, I n.limit, .w (sl 1 cI ([n.id])) Xo1_12_1, .w (sl 4 Peer.c n.peers) (g 0 13)]), (4, .w (sl 12 Message.c ((L9.take i).map fun q => (⟨1, n.id, q, IntKind.i64.wrap (n.term_ + 1), (logLast n.log).1, (logLast n.log).2, 0, false, [], [], ⟨#[]⟩, false⟩ : Message))) X), (7, .obj b13 [I ((msgN (⟨n.id, (IntKind.i64.wrap (n.term_ + 1)), n.id, 1, 0, n.conf, n.log, n.commit, n.clock, n.limit, [n.id], n.peers⟩ : Node) 1 ei).kind), I ((msgN (⟨n.id, (IntKind.i64.wrap (n.term_ + 1)), n.id, 1, 0, n.conf, n.log, n.commit, n.clock, n.limit, [n.id], n.peers⟩ : Node) 1 ei).from_), I ((msgN (⟨n.id, (IntKind.i64.wrap (n.term_ + 1)), n.id, 1, 0, n.conf, n.log, n.commit, n.clock, n.limit, [n.id], n.peers⟩ : Node) 1 ei).to), I ((msgN (⟨n.id, (IntKind.i64.wrap (n.term_ + 1)), n.id, 1, 0, n.conf, n.log, n.commit, n.clock, n.limit, [n.id], n.peers⟩ : Node) 1 ei).term_), I ((msgN (⟨n.id, (IntKind.i64.wrap (n.term_ + 1)), n.id, 1, 0, n.conf, n.log, n.commit, n.clock, n.limit, [n.id], n.peers⟩ : Node) 1 ei).index), I ((msgN (⟨n.id, (IntKind.i64.wrap (n.term_ + 1)), n.id, 1, 0, n.conf, n.log, n.commit, n.clock, n.limit, [n.id], n.peers⟩ : Node) 1 ei).logTerm), I ((msgN (⟨n.id, (IntKind.i64.wrap (n.term_ + 1)), n.id, 1, 0, n.conf, n.log, n.commit, n.clock, n.limit, [n.id], n.peers⟩ : Node) 1 ei).commit), Bo ((msgN (⟨n.id, (IntKind.i64.wrap (n.term_ + 1)), n.id, 1, 0, n.conf, n.log, n.commit, n.clock, n.limit, [n.id], n.peers⟩ : Node) 1 ei).ok), .al 62 (some 8) 3 (((msgN (⟨n.id, (IntKind.i64.wrap (n.term_ + 1)), n.id, 1, 0, n.conf, n.log, n.commit, n.clock, n.limit, [n.id], n.peers⟩ : Node) 1 ei).entries).length) (g12 0 8) 0, .al 62 (some 9) 1 (((msgN (⟨n.id, (IntKind.i64.wrap (n.term_ + 1)), n.id, 1, 0, n.conf, n.log, n.commit, n.clock, n.limit, [n.id], n.peers⟩ : Node) 1 ei).conf).length) (g12 0 9) 0, S ((msgN (⟨n.id, (IntKind.i64.wrap (n.term_ + 1)), n.id, 1, 0, n.conf, n.log, n.commit, n.clock, n.limit, [n.id], n.peers⟩ : Node) 1 ei).data), Bo ((msgN (⟨n.id, (IntKind.i64.wrap (n.term_ + 1)), n.id, 1, 0, n.conf, n.log, n.commit, n.clock, n.limit, [n.id], n.peers⟩ : Node) 1 ei).last)]), (54, .w (sl 1 cI L9) (g8 0 0)), (55, I (L9.length : Int)), (56, I (i : Int)), (62, .agg [I ((msgN (⟨n.id, (IntKind.i64.wrap (n.term_ + 1)), n.id, 1, 0, n.conf, n.log, n.commit, n.clock, n.limit, [n.id], n.peers⟩ : Node) 1 ei).kind), I ((msgN (⟨n.id, (IntKind.i64.wrap (n.term_ + 1)), n.id, 1, 0, n.conf, n.log, n.commit, n.clock, n.limit, [n.id], n.peers⟩ : Node) 1 ei).from_), I ((msgN (⟨n.id, (IntKind.i64.wrap (n.term_ + 1)), n.id, 1, 0, n.conf, n.log, n.commit, n.clock, n.limit, [n.id], n.peers⟩ : Node) 1 ei).to), I ((msgN (⟨n.id, (IntKind.i64.wrap (n.term_ + 1)), n.id, 1, 0, n.conf, n.log, n.commit, n.clock, n.limit, [n.id], n.peers⟩ : Node) 1 ei).term_), I ((msgN (⟨n.id, (IntKind.i64.wrap (n.term_ + 1)), n.id, 1, 0, n.conf, n.log, n.commit, n.clock, n.limit, [n.id], n.peers⟩ : Node) 1 ei).index), I ((msgN (⟨n.id, (IntKind.i64.wrap (n.term_ + 1)), n.id, 1, 0, n.conf, n.log, n.commit, n.clock, n.limit, [n.id], n.peers⟩ : Node) 1 ei).logTerm), I ((msgN (⟨n.id, (IntKind.i64.wrap (n.term_ + 1)), n.id, 1, 0, n.conf, n.log, n.commit, n.clock, n.limit, [n.id], n.peers⟩ : Node) 1 ei).commit), Bo ((msgN (⟨n.id, (IntKind.i64.wrap (n.term_ + 1)), n.id, 1, 0, n.conf, n.log, n.commit, n.clock, n.limit, [n.id], n.peers⟩ : Node) 1 ei).ok), .w (sl 3 Entry.c ((msgN (⟨n.id, (IntKind.i64.wrap (n.term_ + 1)), n.id, 1, 0, n.conf, n.log, n.commit, n.clock, n.limit, [n.id], n.peers⟩ : Node) 1 ei).entries)) (g12 0 8), .w (sl 1 cI ((msgN (⟨n.id, (IntKind.i64.wrap (n.term_ + 1)), n.id, 1, 0, n.conf, n.log, n.commit, n.clock, n.limit, [n.id], n.peers⟩ : Node) 1 ei).conf)) (g12 0 9), S ((msgN (⟨n.id, (IntKind.i64.wrap (n.term_ + 1)), n.id, 1, 0, n.conf, n.log, n.commit, n.clock, n.limit, [n.id], n.peers⟩ : Node) 1 ei).data), Bo ((msgN (⟨n.id, (IntKind.i64.wrap (n.term_ + 1)), n.id, 1, 0, n.conf, n.log, n.commit, n.clock, n.limit, [n.id], n.peers⟩ : Node) 1 ei).last)])] rfl (Le.of rfl) ?_
    refine RW.pullA (k := 7) (l := 62) (j := 8) 7 62 8 rfl rfl rfl (by decide) rfl rfl rfl rfl ?_
    refine RW.le [(0, .obj (bo 0) [I n.id, I (IntKind.i64.wrap (n.term_ + 1)), I n.id, I 1, I 0, .w (sl 1 cI n.conf) (g 0 5), I n.log.start, I n.log.startTerm, .w (sl 3 Entry.c n.log.entries) (g 0 8), I n.commit, I n.clock, I n.limit, .w (sl 1 cI ([n.id])) Xo1_12_1, .w (sl 4 Peer.c n.peers) (g 0 13)]), (4, .w (sl 12 Message.c ((L9.take i).map fun q => (⟨1, n.id, q, IntKind.i64.wrap (n.term_ + 1), (logLast n.log).1, (logLast n.log).2, 0, false, [], [], ⟨#[]⟩, false⟩ : Message))) X), (7, .obj b13 [I ((msgN (⟨n.id, (IntKind.i64.wrap (n.term_ + 1)), n.id, 1, 0, n.conf, n.log, n.commit, n.clock, n.limit, [n.id], n.peers⟩ : Node) 1 ei).kind), I ((msgN (⟨n.id, (IntKind.i64.wrap (n.term_ + 1)), n.id, 1, 0, n.conf, n.log, n.commit, n.clock, n.limit, [n.id], n.peers⟩ : Node) 1 ei).from_), I ((msgN (⟨n.id, (IntKind.i64.wrap (n.term_ + 1)), n.id, 1, 0, n.conf, n.log, n.commit, n.clock, n.limit, [n.id], n.peers⟩ : Node) 1 ei).to), I ((msgN (⟨n.id, (IntKind.i64.wrap (n.term_ + 1)), n.id, 1, 0, n.conf, n.log, n.commit, n.clock, n.limit, [n.id], n.peers⟩ : Node) 1 ei).term_), I ((msgN (⟨n.id, (IntKind.i64.wrap (n.term_ + 1)), n.id, 1, 0, n.conf, n.log, n.commit, n.clock, n.limit, [n.id], n.peers⟩ : Node) 1 ei).index), I ((msgN (⟨n.id, (IntKind.i64.wrap (n.term_ + 1)), n.id, 1, 0, n.conf, n.log, n.commit, n.clock, n.limit, [n.id], n.peers⟩ : Node) 1 ei).logTerm), I ((msgN (⟨n.id, (IntKind.i64.wrap (n.term_ + 1)), n.id, 1, 0, n.conf, n.log, n.commit, n.clock, n.limit, [n.id], n.peers⟩ : Node) 1 ei).commit), Bo ((msgN (⟨n.id, (IntKind.i64.wrap (n.term_ + 1)), n.id, 1, 0, n.conf, n.log, n.commit, n.clock, n.limit, [n.id], n.peers⟩ : Node) 1 ei).ok), .w (sl 3 Entry.c ((msgN (⟨n.id, (IntKind.i64.wrap (n.term_ + 1)), n.id, 1, 0, n.conf, n.log, n.commit, n.clock, n.limit, [n.id], n.peers⟩ : Node) 1 ei).entries)) (g12 0 8), .al 62 (some 9) 1 (((msgN (⟨n.id, (IntKind.i64.wrap (n.term_ + 1)), n.id, 1, 0, n.conf, n.log, n.commit, n.clock, n.limit, [n.id], n.peers⟩ : Node) 1 ei).conf).length) (g12 0 9) 0, S ((msgN (⟨n.id, (IntKind.i64.wrap (n.term_ + 1)), n.id, 1, 0, n.conf, n.log, n.commit, n.clock, n.limit, [n.id], n.peers⟩ : Node) 1 ei).data), Bo ((msgN (⟨n.id, (IntKind.i64.wrap (n.term_ + 1)), n.id, 1, 0, n.conf, n.log, n.commit, n.clock, n.limit, [n.id], n.peers⟩ : Node) 1 ei).last)]), (54, .w (sl 1 cI L9) (g8 0 0)), (55, I (L9.length : Int)), (56, I (i : Int)), (62, .agg [I ((msgN (⟨n.id, (IntKind.i64.wrap (n.term_ + 1)), n.id, 1, 0, n.conf, n.log, n.commit, n.clock, n.limit, [n.id], n.peers⟩ : Node) 1 ei).kind), I ((msgN (⟨n.id, (IntKind.i64.wrap (n.term_ + 1)), n.id, 1, 0, n.conf, n.log, n.commit, n.clock, n.limit, [n.id], n.peers⟩ : Node) 1 ei).from_), I ((msgN (⟨n.id, (IntKind.i64.wrap (n.term_ + 1)), n.id, 1, 0, n.conf, n.log, n.commit, n.clock, n.limit, [n.id], n.peers⟩ : Node) 1 ei).to), I ((msgN (⟨n.id, (IntKind.i64.wrap (n.term_ + 1)), n.id, 1, 0, n.conf, n.log, n.commit, n.clock, n.limit, [n.id], n.peers⟩ : Node) 1 ei).term_), I ((msgN (⟨n.id, (IntKind.i64.wrap (n.term_ + 1)), n.id, 1, 0, n.conf, n.log, n.commit, n.clock, n.limit, [n.id], n.peers⟩ : Node) 1 ei).index), I ((msgN (⟨n.id, (IntKind.i64.wrap (n.term_ + 1)), n.id, 1, 0, n.conf, n.log, n.commit, n.clock, n.limit, [n.id], n.peers⟩ : Node) 1 ei).logTerm), I ((msgN (⟨n.id, (IntKind.i64.wrap (n.term_ + 1)), n.id, 1, 0, n.conf, n.log, n.commit, n.clock, n.limit, [n.id], n.peers⟩ : Node) 1 ei).commit), Bo ((msgN (⟨n.id, (IntKind.i64.wrap (n.term_ + 1)), n.id, 1, 0, n.conf, n.log, n.commit, n.clock, n.limit, [n.id], n.peers⟩ : Node) 1 ei).ok), .u, .w (sl 1 cI ((msgN (⟨n.id, (IntKind.i64.wrap (n.term_ + 1)), n.id, 1, 0, n.conf, n.log, n.commit, n.clock, n.limit, [n.id], n.peers⟩ : Node) 1 ei).conf)) (g12 0 9), S ((msgN (⟨n.id, (IntKind.i64.wrap (n.term_ + 1)), n.id, 1, 0, n.conf, n.log, n.commit, n.clock, n.limit, [n.id], n.peers⟩ : Node) 1 ei).data), Bo ((msgN (⟨n.id, (IntKind.i64.wrap (n.term_ + 1)), n.id, 1, 0, n.conf, n.log, n.commit, n.clock, n.limit, [n.id], n.peers⟩ : Node) 1 ei).last)])] rfl (Le.of rfl) ?_
    refine RW.pullA (k := 7) (l := 62) (j := 9) 7 62 9 rfl rfl rfl (by decide) rfl rfl rfl rfl ?_
    refine RW.le [(0, .obj (bo 0) [I n.id, I (IntKind.i64.wrap (n.term_ + 1)), I n.id, I 1, I 0, .w (sl 1 cI n.conf) (g 0 5), I n.log.start, I n.log.startTerm, .w (sl 3 Entry.c n.log.entries) (g 0 8), I n.commit, I n.clock, I n.limit, .w (sl 1 cI ([n.id])) Xo1_12_1, .w (sl 4 Peer.c n.peers) (g 0 13)]), (4, .w (sl 12 Message.c ((L9.take i).map fun q => (⟨1, n.id, q, IntKind.i64.wrap (n.term_ + 1), (logLast n.log).1, (logLast n.log).2, 0, false, [], [], ⟨#[]⟩, false⟩ : Message))) X), (7, .obj b13 [I ((msgN (⟨n.id, (IntKind.i64.wrap (n.term_ + 1)), n.id, 1, 0, n.conf, n.log, n.commit, n.clock, n.limit, [n.id], n.peers⟩ : Node) 1 ei).kind), I ((msgN (⟨n.id, (IntKind.i64.wrap (n.term_ + 1)), n.id, 1, 0, n.conf, n.log, n.commit, n.clock, n.limit, [n.id], n.peers⟩ : Node) 1 ei).from_), I ((msgN (⟨n.id, (IntKind.i64.wrap (n.term_ + 1)), n.id, 1, 0, n.conf, n.log, n.commit, n.clock, n.limit, [n.id], n.peers⟩ : Node) 1 ei).to), I ((msgN (⟨n.id, (IntKind.i64.wrap (n.term_ + 1)), n.id, 1, 0, n.conf, n.log, n.commit, n.clock, n.limit, [n.id], n.peers⟩ : Node) 1 ei).term_), I ((msgN (⟨n.id, (IntKind.i64.wrap (n.term_ + 1)), n.id, 1, 0, n.conf, n.log, n.commit, n.clock, n.limit, [n.id], n.peers⟩ : Node) 1 ei).index), I ((msgN (⟨n.id, (IntKind.i64.wrap (n.term_ + 1)), n.id, 1, 0, n.conf, n.log, n.commit, n.clock, n.limit, [n.id], n.peers⟩ : Node) 1 ei).logTerm), I ((msgN (⟨n.id, (IntKind.i64.wrap (n.term_ + 1)), n.id, 1, 0, n.conf, n.log, n.commit, n.clock, n.limit, [n.id], n.peers⟩ : Node) 1 ei).commit), Bo ((msgN (⟨n.id, (IntKind.i64.wrap (n.term_ + 1)), n.id, 1, 0, n.conf, n.log, n.commit, n.clock, n.limit, [n.id], n.peers⟩ : Node) 1 ei).ok), .w (sl 3 Entry.c ((msgN (⟨n.id, (IntKind.i64.wrap (n.term_ + 1)), n.id, 1, 0, n.conf, n.log, n.commit, n.clock, n.limit, [n.id], n.peers⟩ : Node) 1 ei).entries)) (g12 0 8), .w (sl 1 cI ((msgN (⟨n.id, (IntKind.i64.wrap (n.term_ + 1)), n.id, 1, 0, n.conf, n.log, n.commit, n.clock, n.limit, [n.id], n.peers⟩ : Node) 1 ei).conf)) (g12 0 9), S ((msgN (⟨n.id, (IntKind.i64.wrap (n.term_ + 1)), n.id, 1, 0, n.conf, n.log, n.commit, n.clock, n.limit, [n.id], n.peers⟩ : Node) 1 ei).data), Bo ((msgN (⟨n.id, (IntKind.i64.wrap (n.term_ + 1)), n.id, 1, 0, n.conf, n.log, n.commit, n.clock, n.limit, [n.id], n.peers⟩ : Node) 1 ei).last)]), (54, .w (sl 1 cI L9) (g8 0 0)), (55, I (L9.length : Int)), (56, I (i : Int))] rfl (Le.of rfl) ?_
    refine RW.nil ?_
    refine CW.le [(0, .obj (bo 0) [I n.id, I (IntKind.i64.wrap (n.term_ + 1)), I n.id, I 1, I 0, .w (sl 1 cI n.conf) (g 0 5), I n.log.start, I n.log.startTerm, .w (sl 3 Entry.c n.log.entries) (g 0 8), I n.commit, I n.clock, I n.limit, .w (sl 1 cI ([n.id])) Xo1_12_1, .w (sl 4 Peer.c n.peers) (g 0 13)]), (4, .w (sl 12 Message.c ((L9.take i).map fun q => (⟨1, n.id, q, IntKind.i64.wrap (n.term_ + 1), (logLast n.log).1, (logLast n.log).2, 0, false, [], [], ⟨#[]⟩, false⟩ : Message))) X), (7, .obj b13 [I ((msgN (⟨n.id, (IntKind.i64.wrap (n.term_ + 1)), n.id, 1, 0, n.conf, n.log, n.commit, n.clock, n.limit, [n.id], n.peers⟩ : Node) 1 ei).kind), I ((msgN (⟨n.id, (IntKind.i64.wrap (n.term_ + 1)), n.id, 1, 0, n.conf, n.log, n.commit, n.clock, n.limit, [n.id], n.peers⟩ : Node) 1 ei).from_), I ((msgN (⟨n.id, (IntKind.i64.wrap (n.term_ + 1)), n.id, 1, 0, n.conf, n.log, n.commit, n.clock, n.limit, [n.id], n.peers⟩ : Node) 1 ei).to), I ((msgN (⟨n.id, (IntKind.i64.wrap (n.term_ + 1)), n.id, 1, 0, n.conf, n.log, n.commit, n.clock, n.limit, [n.id], n.peers⟩ : Node) 1 ei).term_), I ((msgN (⟨n.id, (IntKind.i64.wrap (n.term_ + 1)), n.id, 1, 0, n.conf, n.log, n.commit, n.clock, n.limit, [n.id], n.peers⟩ : Node) 1 ei).index), I ((msgN (⟨n.id, (IntKind.i64.wrap (n.term_ + 1)), n.id, 1, 0, n.conf, n.log, n.commit, n.clock, n.limit, [n.id], n.peers⟩ : Node) 1 ei).logTerm), I ((msgN (⟨n.id, (IntKind.i64.wrap (n.term_ + 1)), n.id, 1, 0, n.conf, n.log, n.commit, n.clock, n.limit, [n.id], n.peers⟩ : Node) 1 ei).commit), Bo ((msgN (⟨n.id, (IntKind.i64.wrap (n.term_ + 1)), n.id, 1, 0, n.conf, n.log, n.commit, n.clock, n.limit, [n.id], n.peers⟩ : Node) 1 ei).ok), .w (sl 3 Entry.c ((msgN (⟨n.id, (IntKind.i64.wrap (n.term_ + 1)), n.id, 1, 0, n.conf, n.log, n.commit, n.clock, n.limit, [n.id], n.peers⟩ : Node) 1 ei).entries)) (g12 0 8), .w (sl 1 cI ((msgN (⟨n.id, (IntKind.i64.wrap (n.term_ + 1)), n.id, 1, 0, n.conf, n.log, n.commit, n.clock, n.limit, [n.id], n.peers⟩ : Node) 1 ei).conf)) (g12 0 9), S ((msgN (⟨n.id, (IntKind.i64.wrap (n.term_ + 1)), n.id, 1, 0, n.conf, n.log, n.commit, n.clock, n.limit, [n.id], n.peers⟩ : Node) 1 ei).data), Bo ((msgN (⟨n.id, (IntKind.i64.wrap (n.term_ + 1)), n.id, 1, 0, n.conf, n.log, n.commit, n.clock, n.limit, [n.id], n.peers⟩ : Node) 1 ei).last)]), (54, .w (sl 1 cI L9) (g8 0 0)), (55, I (L9.length : Int)), (56, I (i : Int))] rfl (Le.of rfl) ?_
    refine CW.seq ?_
    refine CW.region ?_
    refine RW.v rfl (V.mv (d := .pt 0 (bo 0) 0) rfl rfl) ?_
    refine RW.v rfl (V.nilP rfl rfl) ?_
    refine RW.v rfl (V.field rfl rfl rfl rfl (by decide) rfl) ?_
    refine RW.v rfl (V.loadAgg rfl rfl rfl rfl rfl (Nat.le_of_ble_eq_true rfl)) ?_
    refine RW.callOwn rfl (impl_LogLast_fn n.log (hok.2.1)) rfl (.cons (.agg (.cons (.r .r) (.cons (.r .r) (.cons (.r (.alo (k := none) (i := 0) (j := 8) (sz := 3) (V := (g 0 8)) rfl rfl rfl nofun)) (.nil))))) (.nil)) rfl fun g14 => ?_
    refine RW.moveMove rfl rfl rfl (by decide) (Nat.le_of_ble_eq_true rfl) (Nat.le_of_ble_eq_true rfl) ?_
    refine RW.extract (d := I ((logLast n.log).1)) rfl rfl rfl (by decide) (Nat.le_of_ble_eq_true rfl) rfl rfl ?_
    refine RW.extract (d := I ((logLast n.log).2)) rfl rfl rfl (by decide) (Nat.le_of_ble_eq_true rfl) rfl rfl ?_
    refine RW.v rfl (V.field rfl rfl rfl rfl (by decide) rfl) ?_
    refine RW.store (d := I ((logLast n.log).1)) rfl rfl rfl rfl rfl rfl rfl (Nat.le_of_ble_eq_true rfl) rfl rfl ?_
    refine RW.v rfl (V.field rfl rfl rfl rfl (by decide) rfl) ?_
    refine RW.store (d := I ((logLast n.log).2)) rfl rfl rfl rfl rfl rfl rfl (Nat.le_of_ble_eq_true rfl) rfl rfl ?_
    refine RW.nil ?_
    refine CW.le [(0, .obj (bo 0) [I n.id, I (IntKind.i64.wrap (n.term_ + 1)), I n.id, I 1, I 0, .w (sl 1 cI n.conf) (g 0 5), I n.log.start, I n.log.startTerm, .w (sl 3 Entry.c n.log.entries) (g 0 8), I n.commit, I n.clock, I n.limit, .w (sl 1 cI ([n.id])) Xo1_12_1, .w (sl 4 Peer.c n.peers) (g 0 13)]), (4, .w (sl 12 Message.c ((L9.take i).map fun q => (⟨1, n.id, q, IntKind.i64.wrap (n.term_ + 1), (logLast n.log).1, (logLast n.log).2, 0, false, [], [], ⟨#[]⟩, false⟩ : Message))) X), (7, .obj b13 [I ((msgN (⟨n.id, (IntKind.i64.wrap (n.term_ + 1)), n.id, 1, 0, n.conf, n.log, n.commit, n.clock, n.limit, [n.id], n.peers⟩ : Node) 1 ei).kind), I ((msgN (⟨n.id, (IntKind.i64.wrap (n.term_ + 1)), n.id, 1, 0, n.conf, n.log, n.commit, n.clock, n.limit, [n.id], n.peers⟩ : Node) 1 ei).from_), I ((msgN (⟨n.id, (IntKind.i64.wrap (n.term_ + 1)), n.id, 1, 0, n.conf, n.log, n.commit, n.clock, n.limit, [n.id], n.peers⟩ : Node) 1 ei).to), I ((msgN (⟨n.id, (IntKind.i64.wrap (n.term_ + 1)), n.id, 1, 0, n.conf, n.log, n.commit, n.clock, n.limit, [n.id], n.peers⟩ : Node) 1 ei).term_), I ((logLast n.log).1), I ((logLast n.log).2), I ((msgN (⟨n.id, (IntKind.i64.wrap (n.term_ + 1)), n.id, 1, 0, n.conf, n.log, n.commit, n.clock, n.limit, [n.id], n.peers⟩ : Node) 1 ei).commit), Bo ((msgN (⟨n.id, (IntKind.i64.wrap (n.term_ + 1)), n.id, 1, 0, n.conf, n.log, n.commit, n.clock, n.limit, [n.id], n.peers⟩ : Node) 1 ei).ok), .w (sl 3 Entry.c ((msgN (⟨n.id, (IntKind.i64.wrap (n.term_ + 1)), n.id, 1, 0, n.conf, n.log, n.commit, n.clock, n.limit, [n.id], n.peers⟩ : Node) 1 ei).entries)) (g12 0 8), .w (sl 1 cI ((msgN (⟨n.id, (IntKind.i64.wrap (n.term_ + 1)), n.id, 1, 0, n.conf, n.log, n.commit, n.clock, n.limit, [n.id], n.peers⟩ : Node) 1 ei).conf)) (g12 0 9), S ((msgN (⟨n.id, (IntKind.i64.wrap (n.term_ + 1)), n.id, 1, 0, n.conf, n.log, n.commit, n.clock, n.limit, [n.id], n.peers⟩ : Node) 1 ei).data), Bo ((msgN (⟨n.id, (IntKind.i64.wrap (n.term_ + 1)), n.id, 1, 0, n.conf, n.log, n.commit, n.clock, n.limit, [n.id], n.peers⟩ : Node) 1 ei).last)]), (54, .w (sl 1 cI L9) (g8 0 0)), (55, I (L9.length : Int)), (56, I (i : Int))] rfl (Le.of rfl) ?_
    refine CW.region ?_
    refine RW.v rfl (V.mv (d := .al 4 none 12 (((L9.take i).map fun q => (⟨1, n.id, q, IntKind.i64.wrap (n.term_ + 1), (logLast n.log).1, (logLast n.log).2, 0, false, [], [], ⟨#[]⟩, false⟩ : Message)).length) X 0) rfl rfl) ?_
    refine RW.v rfl (V.loadAgg rfl rfl rfl rfl rfl (Nat.le_of_ble_eq_true rfl)) ?_
    refine RW.takeAgg 74 7 (by decide) rfl rfl rfl ?_
    refine RW.build1O (c := Message.c) (v := (⟨(msgN (⟨n.id, (IntKind.i64.wrap (n.term_ + 1)), n.id, 1, 0, n.conf, n.log, n.commit, n.clock, n.limit, [n.id], n.peers⟩ : Node) 1 ei).kind, (msgN (⟨n.id, (IntKind.i64.wrap (n.term_ + 1)), n.id, 1, 0, n.conf, n.log, n.commit, n.clock, n.limit, [n.id], n.peers⟩ : Node) 1 ei).from_, (msgN (⟨n.id, (IntKind.i64.wrap (n.term_ + 1)), n.id, 1, 0, n.conf, n.log, n.commit, n.clock, n.limit, [n.id], n.peers⟩ : Node) 1 ei).to, (msgN (⟨n.id, (IntKind.i64.wrap (n.term_ + 1)), n.id, 1, 0, n.conf, n.log, n.commit, n.clock, n.limit, [n.id], n.peers⟩ : Node) 1 ei).term_, ((logLast n.log).1), ((logLast n.log).2), (msgN (⟨n.id, (IntKind.i64.wrap (n.term_ + 1)), n.id, 1, 0, n.conf, n.log, n.commit, n.clock, n.limit, [n.id], n.peers⟩ : Node) 1 ei).commit, (msgN (⟨n.id, (IntKind.i64.wrap (n.term_ + 1)), n.id, 1, 0, n.conf, n.log, n.commit, n.clock, n.limit, [n.id], n.peers⟩ : Node) 1 ei).ok, (msgN (⟨n.id, (IntKind.i64.wrap (n.term_ + 1)), n.id, 1, 0, n.conf, n.log, n.commit, n.clock, n.limit, [n.id], n.peers⟩ : Node) 1 ei).entries, (msgN (⟨n.id, (IntKind.i64.wrap (n.term_ + 1)), n.id, 1, 0, n.conf, n.log, n.commit, n.clock, n.limit, [n.id], n.peers⟩ : Node) 1 ei).conf, (msgN (⟨n.id, (IntKind.i64.wrap (n.term_ + 1)), n.id, 1, 0, n.conf, n.log, n.commit, n.clock, n.limit, [n.id], n.peers⟩ : Node) 1 ei).data, (msgN (⟨n.id, (IntKind.i64.wrap (n.term_ + 1)), n.id, 1, 0, n.conf, n.log, n.commit, n.clock, n.limit, [n.id], n.peers⟩ : Node) 1 ei).last⟩ : Message)) rfl rfl rfl rfl rfl rfl rfl (DW.v (DW.v (DW.v (DW.v (DW.v (DW.v (DW.v (DW.v (DW.w (DW.w (DW.v (DW.v DW.e)))))))))))) Message.len (by decide) (by decide) (by decide) (Nat.le_of_ble_eq_true rfl) fun X15 => ?_
    refine RW.appendSS (c := Message.c) (l1 := ((L9.take i).map fun q => (⟨1, n.id, q, IntKind.i64.wrap (n.term_ + 1), (logLast n.log).1, (logLast n.log).2, 0, false, [], [], ⟨#[]⟩, false⟩ : Message))) (l2 := [(⟨(msgN (⟨n.id, (IntKind.i64.wrap (n.term_ + 1)), n.id, 1, 0, n.conf, n.log, n.commit, n.clock, n.limit, [n.id], n.peers⟩ : Node) 1 ei).kind, (msgN (⟨n.id, (IntKind.i64.wrap (n.term_ + 1)), n.id, 1, 0, n.conf, n.log, n.commit, n.clock, n.limit, [n.id], n.peers⟩ : Node) 1 ei).from_, (msgN (⟨n.id, (IntKind.i64.wrap (n.term_ + 1)), n.id, 1, 0, n.conf, n.log, n.commit, n.clock, n.limit, [n.id], n.peers⟩ : Node) 1 ei).to, (msgN (⟨n.id, (IntKind.i64.wrap (n.term_ + 1)), n.id, 1, 0, n.conf, n.log, n.commit, n.clock, n.limit, [n.id], n.peers⟩ : Node) 1 ei).term_, ((logLast n.log).1), ((logLast n.log).2), (msgN (⟨n.id, (IntKind.i64.wrap (n.term_ + 1)), n.id, 1, 0, n.conf, n.log, n.commit, n.clock, n.limit, [n.id], n.peers⟩ : Node) 1 ei).commit, (msgN (⟨n.id, (IntKind.i64.wrap (n.term_ + 1)), n.id, 1, 0, n.conf, n.log, n.commit, n.clock, n.limit, [n.id], n.peers⟩ : Node) 1 ei).ok, (msgN (⟨n.id, (IntKind.i64.wrap (n.term_ + 1)), n.id, 1, 0, n.conf, n.log, n.commit, n.clock, n.limit, [n.id], n.peers⟩ : Node) 1 ei).entries, (msgN (⟨n.id, (IntKind.i64.wrap (n.term_ + 1)), n.id, 1, 0, n.conf, n.log, n.commit, n.clock, n.limit, [n.id], n.peers⟩ : Node) 1 ei).conf, (msgN (⟨n.id, (IntKind.i64.wrap (n.term_ + 1)), n.id, 1, 0, n.conf, n.log, n.commit, n.clock, n.limit, [n.id], n.peers⟩ : Node) 1 ei).data, (msgN (⟨n.id, (IntKind.i64.wrap (n.term_ + 1)), n.id, 1, 0, n.conf, n.log, n.commit, n.clock, n.limit, [n.id], n.peers⟩ : Node) 1 ei).last⟩ : Message)]) rfl rfl rfl rfl rfl rfl rfl rfl rfl rfl (by decide) (by decide) (by decide) (Nat.le_of_ble_eq_true rfl) Message.len (fun _ => rfl) rfl (by simp only [maxLen, List.length_append, List.length_map, List.length_take, List.length_singleton]; omega) (by simp only [maxLen, List.length_append, List.length_map, List.length_take, List.length_singleton]; omega) fun X16 => ?_
    refine RW.assignMove rfl rfl rfl (by decide) (Nat.le_of_ble_eq_true rfl) (Nat.le_of_ble_eq_true rfl) ?_
    refine RW.nil ?_
    refine CW.le [(0, .obj (bo 0) [I n.id, I (IntKind.i64.wrap (n.term_ + 1)), I n.id, I 1, I 0, .w (sl 1 cI n.conf) (g 0 5), I n.log.start, I n.log.startTerm, .w (sl 3 Entry.c n.log.entries) (g 0 8), I n.commit, I n.clock, I n.limit, .w (sl 1 cI ([n.id])) Xo1_12_1, .w (sl 4 Peer.c n.peers) (g 0 13)]), (4, .w (sl 12 Message.c (((L9.take i).map fun q => (⟨1, n.id, q, IntKind.i64.wrap (n.term_ + 1), (logLast n.log).1, (logLast n.log).2, 0, false, [], [], ⟨#[]⟩, false⟩ : Message)) ++ ([(⟨(msgN (⟨n.id, (IntKind.i64.wrap (n.term_ + 1)), n.id, 1, 0, n.conf, n.log, n.commit, n.clock, n.limit, [n.id], n.peers⟩ : Node) 1 ei).kind, (msgN (⟨n.id, (IntKind.i64.wrap (n.term_ + 1)), n.id, 1, 0, n.conf, n.log, n.commit, n.clock, n.limit, [n.id], n.peers⟩ : Node) 1 ei).from_, (msgN (⟨n.id, (IntKind.i64.wrap (n.term_ + 1)), n.id, 1, 0, n.conf, n.log, n.commit, n.clock, n.limit, [n.id], n.peers⟩ : Node) 1 ei).to, (msgN (⟨n.id, (IntKind.i64.wrap (n.term_ + 1)), n.id, 1, 0, n.conf, n.log, n.commit, n.clock, n.limit, [n.id], n.peers⟩ : Node) 1 ei).term_, ((logLast n.log).1), ((logLast n.log).2), (msgN (⟨n.id, (IntKind.i64.wrap (n.term_ + 1)), n.id, 1, 0, n.conf, n.log, n.commit, n.clock, n.limit, [n.id], n.peers⟩ : Node) 1 ei).commit, (msgN (⟨n.id, (IntKind.i64.wrap (n.term_ + 1)), n.id, 1, 0, n.conf, n.log, n.commit, n.clock, n.limit, [n.id], n.peers⟩ : Node) 1 ei).ok, (msgN (⟨n.id, (IntKind.i64.wrap (n.term_ + 1)), n.id, 1, 0, n.conf, n.log, n.commit, n.clock, n.limit, [n.id], n.peers⟩ : Node) 1 ei).entries, (msgN (⟨n.id, (IntKind.i64.wrap (n.term_ + 1)), n.id, 1, 0, n.conf, n.log, n.commit, n.clock, n.limit, [n.id], n.peers⟩ : Node) 1 ei).conf, (msgN (⟨n.id, (IntKind.i64.wrap (n.term_ + 1)), n.id, 1, 0, n.conf, n.log, n.commit, n.clock, n.limit, [n.id], n.peers⟩ : Node) 1 ei).data, (msgN (⟨n.id, (IntKind.i64.wrap (n.term_ + 1)), n.id, 1, 0, n.conf, n.log, n.commit, n.clock, n.limit, [n.id], n.peers⟩ : Node) 1 ei).last⟩ : Message)]))) X16), (54, .w (sl 1 cI L9) (g8 0 0)), (55, I (L9.length : Int)), (56, I (i : Int))] rfl (Le.of rfl) ?_
    refine CW.region ?_
    refine RW.v rfl (V.inc rfl rfl rfl hii hl0) ?_
    refine RW.v rfl (V.mv (d := I ((i + 1 : Nat) : Int)) rfl rfl) ?_
    refine RW.nil ?_
    exact ⟨(i + 1, _), by show L9.length - (i + 1) < L9.length - i; omega, (by omega), rfl, Le.c rfl <| Le.c (Dw_congr (by rw [take_snoc hei, List.map_append]; rfl)) <| Le.c rfl <| Le.c rfl <| Le.c rfl <| Le.e⟩
   ·skip
    have hii : L9.length ≤ i := by have := h11; simp at this; first | exact this | omega | (simp; done) | (simp; omega)
    have hdi : L9.drop i = [] := List.drop_eq_nil_of_le hii
    refine CW.exit ?_
    refine CW.le [(0, .obj (bo 0) [I n.id, I (IntKind.i64.wrap (n.term_ + 1)), I n.id, I 1, I 0, .w (sl 1 cI n.conf) (g 0 5), I n.log.start, I n.log.startTerm, .w (sl 3 Entry.c n.log.entries) (g 0 8), I n.commit, I n.clock, I n.limit, .w (sl 1 cI ([n.id])) Xo1_12_1, .w (sl 4 Peer.c n.peers) (g 0 13)]), (4, .w (sl 12 Message.c ((L9.take i).map fun q => (⟨1, n.id, q, IntKind.i64.wrap (n.term_ + 1), (logLast n.log).1, (logLast n.log).2, 0, false, [], [], ⟨#[]⟩, false⟩ : Message))) X)] rfl (Le.of rfl) ?_
    refine CW.seq ?_
    refine CW.region ?_
    refine RW.v rfl (V.mv (d := .al 4 none 12 (((L9.take i).map fun q => (⟨1, n.id, q, IntKind.i64.wrap (n.term_ + 1), (logLast n.log).1, (logLast n.log).2, 0, false, [], [], ⟨#[]⟩, false⟩ : Message)).length) X 0) rfl rfl) ?_
    refine RW.v rfl (V.as (d := .al 4 none 12 (((L9.take i).map fun q => (⟨1, n.id, q, IntKind.i64.wrap (n.term_ + 1), (logLast n.log).1, (logLast n.log).2, 0, false, [], [], ⟨#[]⟩, false⟩ : Message)).length) X 0) rfl rfl) ?_
    refine RW.pullS 2 4 (by decide) rfl rfl ?_
    refine RW.nil ?_
    refine CW.le [(0, .obj (bo 0) [I n.id, I (IntKind.i64.wrap (n.term_ + 1)), I n.id, I 1, I 0, .w (sl 1 cI n.conf) (g 0 5), I n.log.start, I n.log.startTerm, .w (sl 3 Entry.c n.log.entries) (g 0 8), I n.commit, I n.clock, I n.limit, .w (sl 1 cI ([n.id])) Xo1_12_1, .w (sl 4 Peer.c n.peers) (g 0 13)]), (2, .w (sl 12 Message.c ((L9.take i).map fun q => (⟨1, n.id, q, IntKind.i64.wrap (n.term_ + 1), (logLast n.log).1, (logLast n.log).2, 0, false, [], [], ⟨#[]⟩, false⟩ : Message))) X)] rfl (Le.of rfl) ?_
    refine CW.ret ?_
    exact Post.one (RV.w rfl (by subst hn10; rw [standN_no hmn, List.take_of_length_le hii]; rfl)) (AOs.obE (f := fun e => (Node.c e).map .w) (e' := (⟨n.id, (IntKind.i64.wrap (n.term_ + 1)), n.id, 1, 0, n.conf, n.log, n.commit, n.clock, n.limit, [n.id], n.peers⟩ : Node)) rfl (DT.v (DT.v (DT.v (DT.v (DT.v (DT.w (DT.v (DT.v (DT.w (DT.v (DT.v (DT.v (DT.w (DT.w DT.e)))))))))))))) (by rw [standN_no hmn]; rfl) AOs.e)
set_option maxHeartbeats 4000000 in
theorem impl_Tick_fn (n : Node) (limit : Int) (hok : okToNode n) : Eng.Fn E.P 39 [.agg ((Node.c n).map .r), .one (.r (.v (.int .i64 limit)))] (.tup [.agg ((Node.c ((tickN n limit).1)).map .w), .one (.w (sl 12 Message.c ((tickN n limit).2.1))), .one (.w (.v (.bool ((tickN n limit).2.2))))]) [.agg ((Node.c n).map .r), .one (.r (.v (.int .i64 limit)))] := by
 refine Eng.Fn.intro (E := E) (rvs := [.cell 4 47, .tmp 5, .tmp 6]) Try.func39 rfl rfl rfl (by simp [outSlots, moved, rvSlot, sl]) ?_
 intro B g bo
 refine CW.le [(0, .agg ((Node.c n).map .r)), (1, I limit)] rfl (Le.of rfl) ?_
 refine CW.seq ?_
 refine CW.region ?_
 refine RW.box (ds := ((Node.c n).map .r)) rfl rfl rfl fun b1 => ?_
 refine RW.alloc (ds := [I 0, I 0, I 0, I 0, I 0, .r (.v (.slice none 0 0)), I 0, I 0, .r (.v (.slice none 0 0)), I 0, I 0, I 0, .r (.v (.slice none 0 0)), .r (.v (.slice none 0 0))]) rfl rfl rfl rfl fun b2 => ?_
 refine RW.v rfl (V.as (d := .r (.v (.slice none 0 0))) rfl rfl) ?_
 refine RW.v rfl (V.as (d := Bo false) rfl rfl) ?_
 refine RW.nil ?_
 refine CW.le [(1, I limit), (2, .obj b1 ((Node.c n).map .r)), (4, .obj b2 [I 0, I 0, I 0, I 0, I 0, .r (.v (.slice none 0 0)), I 0, I 0, .r (.v (.slice none 0 0)), I 0, I 0, I 0, .r (.v (.slice none 0 0)), .r (.v (.slice none 0 0))])] rfl (Le.of rfl) ?_
 refine CW.seq ?_
 refine CW.seqJ 53 (fun (v3 : Bool) => [(1, I limit), (2, .obj b1 ((Node.c n).map .r)), (4, .obj b2 [I 0, I 0, I 0, I 0, I 0, .r (.v (.slice none 0 0)), I 0, I 0, .r (.v (.slice none 0 0)), I 0, I 0, I 0, .r (.v (.slice none 0 0)), .r (.v (.slice none 0 0))]), (16, Bo v3)]) (fun v3 => v3 = ((!(nodeOk n)) || (!(inR limit 1 20)))) ?_ ?_
 ·refine CW.region ?_
  refine RW.v rfl (V.loadAgg rfl rfl rfl rfl rfl (Nat.le_of_ble_eq_true rfl)) ?_
  refine RW.call rfl (impl_NodeOk_fn n hok) rfl (.cons (.agg (.cons (.r .r) (.cons (.r .r) (.cons (.r .r) (.cons (.r .r) (.cons (.r .r) (.cons (.r .r) (.cons (.r .r) (.cons (.r .r) (.cons (.r .r) (.cons (.r .r) (.cons (.r .r) (.cons (.r .r) (.cons (.r .r) (.cons (.r .r) (.nil)))))))))))))))) (.nil)) fun g4 => ?_
  refine RW.v rfl (V.not rfl rfl) ?_
  refine RW.v rfl (V.mv (d := Bo (!(nodeOk n))) rfl rfl) ?_
  refine RW.gv rfl rfl rfl rfl (fun h5 => V.mv (d := I limit) rfl rfl) (fun h5 => ?_) (fun h5 => ?_)
  ·skip
   refine RW.gcall rfl rfl rfl rfl (impl_within_fn limit 1 20) rfl (.cons (.one (.r .r)) (.cons (.one (.r .r)) (.cons (.one (.r .r)) (.nil)))) fun g6 => ?_
   refine RW.gt rfl rfl rfl rfl (V.not rfl rfl) ?_
   refine RW.v rfl (V.pickF (d := Bo (!(inR limit 1 20))) rfl rfl rfl) ?_
   refine RW.nil ?_
   exact ⟨_, by first | rfl | (simp_all; done) | (simp_all; omega) | grind, rfl, Le.c rfl <| Le.c rfl <| Le.c rfl <| Le.c rfl <| Le.e⟩
  ·skip
   refine RW.guardF rfl rfl rfl rfl ?_
   refine RW.guardF rfl rfl rfl rfl ?_
   refine RW.v rfl (V.pickT (d := Bo true) rfl rfl rfl) ?_
   refine RW.nil ?_
   exact ⟨_, by first | rfl | (simp_all; done) | (simp_all; omega) | grind, rfl, Le.c rfl <| Le.c rfl <| Le.c rfl <| Le.c rfl <| Le.e⟩
 ·intro v3 hv7
  refine CW.cond rfl (fun h8 => ?_) (fun h8 => ?_)
  ·skip
   have hbad : (nodeOk n && inR limit 1 20) = false := by rw [hv7] at h8; revert h8; cases nodeOk n <;> cases inR limit 1 20 <;> simp
   refine CW.seq ?_
   refine CW.region ?_
   refine RW.v rfl (V.build (ds := [I 0, I 0, I 0, I 0, I 0, .r (.v (.slice none 0 0)), I 0, I 0, .r (.v (.slice none 0 0)), I 0, I 0, I 0, .r (.v (.slice none 0 0)), .r (.v (.slice none 0 0))]) rfl rfl rfl rfl (.nil)) ?_
   refine RW.storeAgg (es := [I 0, I 0, I 0, I 0, I 0, .r (.v (.slice none 0 0)), I 0, I 0, .r (.v (.slice none 0 0)), I 0, I 0, I 0, .r (.v (.slice none 0 0)), .r (.v (.slice none 0 0))]) rfl rfl rfl rfl rfl rfl rfl rfl (Nat.le_of_ble_eq_true rfl) rfl ?_
   refine RW.v rfl (V.as (d := .r (.v (.slice none 0 0))) rfl rfl) ?_
   refine RW.v rfl (V.as (d := Bo false) rfl rfl) ?_
   refine RW.nil ?_
   refine CW.le [(4, .obj b2 [I 0, I 0, I 0, I 0, I 0, .r (.v (.slice none 0 0)), I 0, I 0, .r (.v (.slice none 0 0)), I 0, I 0, I 0, .r (.v (.slice none 0 0)), .r (.v (.slice none 0 0))]), (5, .r (.v (.slice none 0 0))), (6, Bo false)] rfl (Le.of rfl) ?_
   refine CW.ret ?_
   exact Post.tup (by decide) (RVs.c (RV.c (f := fun e => (Node.c e).map .w) (e' := (⟨0, 0, 0, 0, 0, [], (⟨0, 0, []⟩ : Log), 0, 0, 0, [], []⟩ : Node)) rfl rfl rfl rfl (DT.v (DT.v (DT.v (DT.v (DT.v (DT.n (DT.v (DT.v (DT.n (DT.v (DT.v (DT.v (DT.n (DT.n DT.e)))))))))))))) (by rw [tick_bad hbad]; rfl)) (RVs.c (RV.n rfl (by rw [tick_bad hbad])) (RVs.c (RV.b rfl (by rw [tick_bad hbad])) RVs.e))) (AOs.a rfl (AOs.r AOs.e))
  ·skip
   have hn : nodeOk n = true := by simp_all
   have hgd : (nodeOk n && inR limit 1 20) = true := by simp_all
   have hl : logB n.log := logOk_hs (nodeOk_in hn).1
   have htm := (nodeOk_in hn).2.1
   refine CW.skip ?_
   refine CW.le [(1, I limit), (2, .obj b1 ((Node.c n).map .r)), (4, .obj b2 [I 0, I 0, I 0, I 0, I 0, .r (.v (.slice none 0 0)), I 0, I 0, .r (.v (.slice none 0 0)), I 0, I 0, I 0, .r (.v (.slice none 0 0)), .r (.v (.slice none 0 0))])] rfl (Le.of rfl) ?_
   refine CW.seq ?_
   refine CW.region ?_
   refine RW.v rfl (V.loadAgg rfl rfl rfl rfl rfl (Nat.le_of_ble_eq_true rfl)) ?_
   refine RW.call rfl (impl_copyNode_fn n hok) rfl (.cons (.agg (.cons (.r .r) (.cons (.r .r) (.cons (.r .r) (.cons (.r .r) (.cons (.r .r) (.cons (.r .r) (.cons (.r .r) (.cons (.r .r) (.cons (.r .r) (.cons (.r .r) (.cons (.r .r) (.cons (.r .r) (.cons (.r .r) (.cons (.r .r) (.nil)))))))))))))))) (.nil)) fun g9 => ?_
   refine RW.alloc (ds := [I 0, I 0, I 0, I 0, I 0, .r (.v (.slice none 0 0)), I 0, I 0, .r (.v (.slice none 0 0)), I 0, I 0, I 0, .r (.v (.slice none 0 0)), .r (.v (.slice none 0 0))]) rfl rfl rfl rfl fun b10 => ?_
   refine RW.storeAgg (es := [I n.id, I n.term_, I n.vote, I n.role, I n.lead, .al 19 (some 5) 1 n.conf.length (g9 0 5) 0, I n.log.start, I n.log.startTerm, .al 19 (some 8) 3 n.log.entries.length (g9 0 8) 0, I n.commit, I n.clock, I n.limit, .al 19 (some 12) 1 n.votes.length (g9 0 12) 0, .al 19 (some 13) 4 n.peers.length (g9 0 13) 0]) rfl rfl rfl rfl rfl rfl rfl rfl (Nat.le_of_ble_eq_true rfl) rfl ?_
   refine RW.le [(1, I limit), (2, .obj b1 ((Node.c n).map .r)), (4, .obj b2 [I 0, I 0, I 0, I 0, I 0, .r (.v (.slice none 0 0)), I 0, I 0, .r (.v (.slice none 0 0)), I 0, I 0, I 0, .r (.v (.slice none 0 0)), .r (.v (.slice none 0 0))]), (7, .obj b10 [I n.id, I n.term_, I n.vote, I n.role, I n.lead, .al 19 (some 5) 1 n.conf.length (g9 0 5) 0, I n.log.start, I n.log.startTerm, .al 19 (some 8) 3 n.log.entries.length (g9 0 8) 0, I n.commit, I n.clock, I n.limit, .al 19 (some 12) 1 n.votes.length (g9 0 12) 0, .al 19 (some 13) 4 n.peers.length (g9 0 13) 0]), (19, .agg [I n.id, I n.term_, I n.vote, I n.role, I n.lead, .w (sl 1 cI n.conf) (g9 0 5), I n.log.start, I n.log.startTerm, .w (sl 3 Entry.c n.log.entries) (g9 0 8), I n.commit, I n.clock, I n.limit, .w (sl 1 cI n.votes) (g9 0 12), .w (sl 4 Peer.c n.peers) (g9 0 13)])] rfl (Le.of rfl) ?_
   refine RW.pullA (k := 7) (l := 19) (j := 5) 7 19 5 rfl rfl rfl (by decide) rfl rfl rfl rfl ?_
   refine RW.le [(1, I limit), (2, .obj b1 ((Node.c n).map .r)), (4, .obj b2 [I 0, I 0, I 0, I 0, I 0, .r (.v (.slice none 0 0)), I 0, I 0, .r (.v (.slice none 0 0)), I 0, I 0, I 0, .r (.v (.slice none 0 0)), .r (.v (.slice none 0 0))]), (7, .obj b10 [I n.id, I n.term_, I n.vote, I n.role, I n.lead, .w (sl 1 cI n.conf) (g9 0 5), I n.log.start, I n.log.startTerm, .al 19 (some 8) 3 n.log.entries.length (g9 0 8) 0, I n.commit, I n.clock, I n.limit, .al 19 (some 12) 1 n.votes.length (g9 0 12) 0, .al 19 (some 13) 4 n.peers.length (g9 0 13) 0]), (19, .agg [I n.id, I n.term_, I n.vote, I n.role, I n.lead, .u, I n.log.start, I n.log.startTerm, .w (sl 3 Entry.c n.log.entries) (g9 0 8), I n.commit, I n.clock, I n.limit, .w (sl 1 cI n.votes) (g9 0 12), .w (sl 4 Peer.c n.peers) (g9 0 13)])] rfl (Le.of rfl) ?_
   refine RW.pullA (k := 7) (l := 19) (j := 8) 7 19 8 rfl rfl rfl (by decide) rfl rfl rfl rfl ?_
   refine RW.le [(1, I limit), (2, .obj b1 ((Node.c n).map .r)), (4, .obj b2 [I 0, I 0, I 0, I 0, I 0, .r (.v (.slice none 0 0)), I 0, I 0, .r (.v (.slice none 0 0)), I 0, I 0, I 0, .r (.v (.slice none 0 0)), .r (.v (.slice none 0 0))]), (7, .obj b10 [I n.id, I n.term_, I n.vote, I n.role, I n.lead, .w (sl 1 cI n.conf) (g9 0 5), I n.log.start, I n.log.startTerm, .w (sl 3 Entry.c n.log.entries) (g9 0 8), I n.commit, I n.clock, I n.limit, .al 19 (some 12) 1 n.votes.length (g9 0 12) 0, .al 19 (some 13) 4 n.peers.length (g9 0 13) 0]), (19, .agg [I n.id, I n.term_, I n.vote, I n.role, I n.lead, .u, I n.log.start, I n.log.startTerm, .u, I n.commit, I n.clock, I n.limit, .w (sl 1 cI n.votes) (g9 0 12), .w (sl 4 Peer.c n.peers) (g9 0 13)])] rfl (Le.of rfl) ?_
   refine RW.pullA (k := 7) (l := 19) (j := 12) 7 19 12 rfl rfl rfl (by decide) rfl rfl rfl rfl ?_
   refine RW.le [(1, I limit), (2, .obj b1 ((Node.c n).map .r)), (4, .obj b2 [I 0, I 0, I 0, I 0, I 0, .r (.v (.slice none 0 0)), I 0, I 0, .r (.v (.slice none 0 0)), I 0, I 0, I 0, .r (.v (.slice none 0 0)), .r (.v (.slice none 0 0))]), (7, .obj b10 [I n.id, I n.term_, I n.vote, I n.role, I n.lead, .w (sl 1 cI n.conf) (g9 0 5), I n.log.start, I n.log.startTerm, .w (sl 3 Entry.c n.log.entries) (g9 0 8), I n.commit, I n.clock, I n.limit, .w (sl 1 cI n.votes) (g9 0 12), .al 19 (some 13) 4 n.peers.length (g9 0 13) 0]), (19, .agg [I n.id, I n.term_, I n.vote, I n.role, I n.lead, .u, I n.log.start, I n.log.startTerm, .u, I n.commit, I n.clock, I n.limit, .u, .w (sl 4 Peer.c n.peers) (g9 0 13)])] rfl (Le.of rfl) ?_
   refine RW.pullA (k := 7) (l := 19) (j := 13) 7 19 13 rfl rfl rfl (by decide) rfl rfl rfl rfl ?_
   refine RW.le [(1, I limit), (2, .obj b1 ((Node.c n).map .r)), (4, .obj b2 [I 0, I 0, I 0, I 0, I 0, .r (.v (.slice none 0 0)), I 0, I 0, .r (.v (.slice none 0 0)), I 0, I 0, I 0, .r (.v (.slice none 0 0)), .r (.v (.slice none 0 0))]), (7, .obj b10 [I n.id, I n.term_, I n.vote, I n.role, I n.lead, .w (sl 1 cI n.conf) (g9 0 5), I n.log.start, I n.log.startTerm, .w (sl 3 Entry.c n.log.entries) (g9 0 8), I n.commit, I n.clock, I n.limit, .w (sl 1 cI n.votes) (g9 0 12), .w (sl 4 Peer.c n.peers) (g9 0 13)])] rfl (Le.of rfl) ?_
   refine RW.nil ?_
   refine CW.le [(1, I limit), (2, .obj b1 ((Node.c n).map .r)), (4, .obj b2 [I 0, I 0, I 0, I 0, I 0, .r (.v (.slice none 0 0)), I 0, I 0, .r (.v (.slice none 0 0)), I 0, I 0, I 0, .r (.v (.slice none 0 0)), .r (.v (.slice none 0 0))]), (7, .obj b10 [I n.id, I n.term_, I n.vote, I n.role, I n.lead, .w (sl 1 cI n.conf) (g9 0 5), I n.log.start, I n.log.startTerm, .w (sl 3 Entry.c n.log.entries) (g9 0 8), I n.commit, I n.clock, I n.limit, .w (sl 1 cI n.votes) (g9 0 12), .w (sl 4 Peer.c n.peers) (g9 0 13)])] rfl (Le.of rfl) ?_
   refine CW.seq ?_
   refine CW.seq ?_
   refine CW.region ?_
   refine RW.v rfl (V.field rfl rfl rfl rfl (by decide) rfl) ?_
   refine RW.v rfl (V.loadPrim (d := I n.role) rfl rfl (.inl rfl) rfl rfl rfl) ?_
   refine RW.v rfl (V.cmpInt rfl rfl rfl rfl) ?_
   refine RW.nil ?_
   refine CW.le [(1, I limit), (2, .obj b1 ((Node.c n).map .r)), (4, .obj b2 [I 0, I 0, I 0, I 0, I 0, .r (.v (.slice none 0 0)), I 0, I 0, .r (.v (.slice none 0 0)), I 0, I 0, I 0, .r (.v (.slice none 0 0)), .r (.v (.slice none 0 0))]), (7, .obj b10 [I n.id, I n.term_, I n.vote, I n.role, I n.lead, .w (sl 1 cI n.conf) (g9 0 5), I n.log.start, I n.log.startTerm, .w (sl 3 Entry.c n.log.entries) (g9 0 8), I n.commit, I n.clock, I n.limit, .w (sl 1 cI n.votes) (g9 0 12), .w (sl 4 Peer.c n.peers) (g9 0 13)]), (22, Bo (n.role == 2))] rfl (Le.of rfl) ?_
   refine CW.cond rfl (fun h11 => ?_) (fun h11 => ?_)
   ·skip
    have hr2 : n.role = 2 := by simpa using h11
    refine CW.anyJ (fc := []) 53 (fun (go12_1_1 : (Nat → Nat → Value)) => [(4, .obj b2 [I n.id, I n.term_, I n.vote, I n.role, I n.lead, .w (sl 1 cI n.conf) (g9 0 5), I n.log.start, I n.log.startTerm, .w (sl 3 Entry.c n.log.entries) (g9 0 8), I n.commit, I n.clock, I n.limit, .w (sl 1 cI n.votes) (g9 0 12), .w (sl 4 Peer.c n.peers) (g9 0 13)]), (5, .w (sl 12 Message.c (n.peers.map (sendN n))) (go12_1_1 0 0)), (6, Bo true)]) (fun all hall K hK => ?_) ?_
    ·skip
     have ro12_11111 : ∀ (go12_1_1 : Nat → Nat → Value), RA [] E B all 0 #[true, true, true, true, true] ⟨53, [(4, .obj b2 [I n.id, I n.term_, I n.vote, I n.role, I n.lead, .w (sl 1 cI n.conf) (g9 0 5), I n.log.start, I n.log.startTerm, .w (sl 3 Entry.c n.log.entries) (g9 0 8), I n.commit, I n.clock, I n.limit, .w (sl 1 cI n.votes) (g9 0 12), .w (sl 4 Peer.c n.peers) (g9 0 13)]), (5, .w (sl 12 Message.c (n.peers.map (sendN n))) (go12_1_1 0 0)), (6, Bo true)]⟩ K := by
      intro go12_1_1
      exact RA.of hall (RA.finH Tell.e (by kernel_rfl) (hK go12_1_1 _ rfl (Le.of rfl)))
     have ro12_11100 : ∀ (go12_1_1 : Nat → Nat → Value), RA [] E B all 2 #[true, true, true, false, false] ⟨53, [(4, .obj b2 [I n.id, I n.term_, I n.vote, I n.role, I n.lead, .w (sl 1 cI n.conf) (g9 0 5), I n.log.start, I n.log.startTerm, .w (sl 3 Entry.c n.log.entries) (g9 0 8), I n.commit, I n.clock, I n.limit, .w (sl 1 cI n.votes) (g9 0 12), .w (sl 4 Peer.c n.peers) (g9 0 13)]), (24, .w (sl 12 Message.c (n.peers.map (sendN n))) (go12_1_1 0 0))]⟩ K := by
      intro go12_1_1
      refine RA.of hall (RA.stepH (L := [3]) Tell.e (by kernel_rfl) (by simp) (RA.each ?_ (RA.each0)))
      ·skip
       refine RO.assignMove rfl rfl rfl rfl rfl (by decide) (Nat.le_of_ble_eq_true rfl) (Nat.le_of_ble_eq_true rfl) ?_
       refine RA.first (i := 4) (ls' := #[true, true, true, true, true]) Tell.e (by kernel_rfl) rfl rfl rfl (VF.p (V.as (d := Bo true) rfl rfl)) ?_
       exact RA.to hall (RA.lr (ro12_11111 go12_1_1) rfl rfl)
     have ro12_11000 : ∀ (go12_1_1 : Nat → Nat → Value), RA [] E B all 3 #[true, true, false, false, false] ⟨53, [(4, .obj b2 [I 0, I 0, I 0, I 0, I 0, .r (.v (.slice none 0 0)), I 0, I 0, .r (.v (.slice none 0 0)), I 0, I 0, I 0, .r (.v (.slice none 0 0)), .r (.v (.slice none 0 0))]), (7, .obj b10 [I n.id, I n.term_, I n.vote, I n.role, I n.lead, .w (sl 1 cI n.conf) (g9 0 5), I n.log.start, I n.log.startTerm, .w (sl 3 Entry.c n.log.entries) (g9 0 8), I n.commit, I n.clock, I n.limit, .w (sl 1 cI n.votes) (g9 0 12), .w (sl 4 Peer.c n.peers) (g9 0 13)]), (23, .agg [I n.id, I n.term_, I n.vote, I n.role, I n.lead, .al 7 (some 5) 1 n.conf.length (g9 0 5) 0, I n.log.start, I n.log.startTerm, .al 7 (some 8) 3 n.log.entries.length (g9 0 8) 0, I n.commit, I n.clock, I n.limit, .al 7 (some 12) 1 n.votes.length (g9 0 12) 0, .al 7 (some 13) 4 n.peers.length (g9 0 13) 0]), (24, .w (sl 12 Message.c (n.peers.map (sendN n))) (go12_1_1 0 0))]⟩ K := by
      intro go12_1_1
      refine RA.of hall (RA.stepH (L := [2]) Tell.e (by kernel_rfl) (by simp) (RA.each ?_ (RA.each0)))
      ·skip
       refine RO.storeAgg (es := [I n.id, I n.term_, I n.vote, I n.role, I n.lead, .al 7 (some 5) 1 n.conf.length (g9 0 5) 0, I n.log.start, I n.log.startTerm, .al 7 (some 8) 3 n.log.entries.length (g9 0 8) 0, I n.commit, I n.clock, I n.limit, .al 7 (some 12) 1 n.votes.length (g9 0 12) 0, .al 7 (some 13) 4 n.peers.length (g9 0 13) 0]) rfl rfl rfl rfl rfl rfl rfl rfl rfl rfl (Nat.le_of_ble_eq_true rfl) rfl ?_
       refine RA.le [(4, .obj b2 [I n.id, I n.term_, I n.vote, I n.role, I n.lead, .al 7 (some 5) 1 n.conf.length (g9 0 5) 0, I n.log.start, I n.log.startTerm, .al 7 (some 8) 3 n.log.entries.length (g9 0 8) 0, I n.commit, I n.clock, I n.limit, .al 7 (some 12) 1 n.votes.length (g9 0 12) 0, .al 7 (some 13) 4 n.peers.length (g9 0 13) 0]), (7, .obj b10 [I n.id, I n.term_, I n.vote, I n.role, I n.lead, .w (sl 1 cI n.conf) (g9 0 5), I n.log.start, I n.log.startTerm, .w (sl 3 Entry.c n.log.entries) (g9 0 8), I n.commit, I n.clock, I n.limit, .w (sl 1 cI n.votes) (g9 0 12), .w (sl 4 Peer.c n.peers) (g9 0 13)]), (24, .w (sl 12 Message.c (n.peers.map (sendN n))) (go12_1_1 0 0))] rfl (Le.of rfl) ?_
       refine RA.pullO (k := 4) (l := 7) (j := 5) 4 7 5 rfl rfl rfl (by decide) rfl rfl rfl rfl ?_
       refine RA.le [(4, .obj b2 [I n.id, I n.term_, I n.vote, I n.role, I n.lead, .w (sl 1 cI n.conf) (g9 0 5), I n.log.start, I n.log.startTerm, .al 7 (some 8) 3 n.log.entries.length (g9 0 8) 0, I n.commit, I n.clock, I n.limit, .al 7 (some 12) 1 n.votes.length (g9 0 12) 0, .al 7 (some 13) 4 n.peers.length (g9 0 13) 0]), (7, .obj b10 [I n.id, I n.term_, I n.vote, I n.role, I n.lead, .u, I n.log.start, I n.log.startTerm, .w (sl 3 Entry.c n.log.entries) (g9 0 8), I n.commit, I n.clock, I n.limit, .w (sl 1 cI n.votes) (g9 0 12), .w (sl 4 Peer.c n.peers) (g9 0 13)]), (24, .w (sl 12 Message.c (n.peers.map (sendN n))) (go12_1_1 0 0))] rfl (Le.of rfl) ?_
       refine RA.pullO (k := 4) (l := 7) (j := 8) 4 7 8 rfl rfl rfl (by decide) rfl rfl rfl rfl ?_
       refine RA.le [(4, .obj b2 [I n.id, I n.term_, I n.vote, I n.role, I n.lead, .w (sl 1 cI n.conf) (g9 0 5), I n.log.start, I n.log.startTerm, .w (sl 3 Entry.c n.log.entries) (g9 0 8), I n.commit, I n.clock, I n.limit, .al 7 (some 12) 1 n.votes.length (g9 0 12) 0, .al 7 (some 13) 4 n.peers.length (g9 0 13) 0]), (7, .obj b10 [I n.id, I n.term_, I n.vote, I n.role, I n.lead, .u, I n.log.start, I n.log.startTerm, .u, I n.commit, I n.clock, I n.limit, .w (sl 1 cI n.votes) (g9 0 12), .w (sl 4 Peer.c n.peers) (g9 0 13)]), (24, .w (sl 12 Message.c (n.peers.map (sendN n))) (go12_1_1 0 0))] rfl (Le.of rfl) ?_
       refine RA.pullO (k := 4) (l := 7) (j := 12) 4 7 12 rfl rfl rfl (by decide) rfl rfl rfl rfl ?_
       refine RA.le [(4, .obj b2 [I n.id, I n.term_, I n.vote, I n.role, I n.lead, .w (sl 1 cI n.conf) (g9 0 5), I n.log.start, I n.log.startTerm, .w (sl 3 Entry.c n.log.entries) (g9 0 8), I n.commit, I n.clock, I n.limit, .w (sl 1 cI n.votes) (g9 0 12), .al 7 (some 13) 4 n.peers.length (g9 0 13) 0]), (7, .obj b10 [I n.id, I n.term_, I n.vote, I n.role, I n.lead, .u, I n.log.start, I n.log.startTerm, .u, I n.commit, I n.clock, I n.limit, .u, .w (sl 4 Peer.c n.peers) (g9 0 13)]), (24, .w (sl 12 Message.c (n.peers.map (sendN n))) (go12_1_1 0 0))] rfl (Le.of rfl) ?_
       refine RA.pullO (k := 4) (l := 7) (j := 13) 4 7 13 rfl rfl rfl (by decide) rfl rfl rfl rfl ?_
       refine RA.le [(4, .obj b2 [I n.id, I n.term_, I n.vote, I n.role, I n.lead, .w (sl 1 cI n.conf) (g9 0 5), I n.log.start, I n.log.startTerm, .w (sl 3 Entry.c n.log.entries) (g9 0 8), I n.commit, I n.clock, I n.limit, .w (sl 1 cI n.votes) (g9 0 12), .w (sl 4 Peer.c n.peers) (g9 0 13)]), (24, .w (sl 12 Message.c (n.peers.map (sendN n))) (go12_1_1 0 0))] rfl (Le.of rfl) ?_
       exact RA.to hall (RA.lr (ro12_11100 go12_1_1) rfl rfl)
     have ro12_01000 : ∀ (go12_1_1 : Nat → Nat → Value), RA [] E B all 4 #[false, true, false, false, false] ⟨53, [(4, .obj b2 [I 0, I 0, I 0, I 0, I 0, .r (.v (.slice none 0 0)), I 0, I 0, .r (.v (.slice none 0 0)), I 0, I 0, I 0, .r (.v (.slice none 0 0)), .r (.v (.slice none 0 0))]), (7, .obj b10 [I n.id, I n.term_, I n.vote, I n.role, I n.lead, .w (sl 1 cI n.conf) (g9 0 5), I n.log.start, I n.log.startTerm, .w (sl 3 Entry.c n.log.entries) (g9 0 8), I n.commit, I n.clock, I n.limit, .w (sl 1 cI n.votes) (g9 0 12), .w (sl 4 Peer.c n.peers) (g9 0 13)]), (24, .w (sl 12 Message.c (n.peers.map (sendN n))) (go12_1_1 0 0))]⟩ K := by
      intro go12_1_1
      refine RA.of hall (RA.stepH (L := [0]) Tell.e (by kernel_rfl) (by simp) (RA.each ?_ (RA.each0)))
      ·skip
       refine RO.v rfl rfl (V.loadAgg rfl rfl rfl rfl rfl (Nat.le_of_ble_eq_true rfl)) rfl ?_
       exact RA.to hall (RA.lr (ro12_11000 go12_1_1) rfl rfl)
     have ro12_10000 : RA [] E B all 4 #[true, false, false, false, false] ⟨53, [(4, .obj b2 [I 0, I 0, I 0, I 0, I 0, .r (.v (.slice none 0 0)), I 0, I 0, .r (.v (.slice none 0 0)), I 0, I 0, I 0, .r (.v (.slice none 0 0)), .r (.v (.slice none 0 0))]), (7, .obj b10 [I n.id, I n.term_, I n.vote, I n.role, I n.lead, .w (sl 1 cI n.conf) (g9 0 5), I n.log.start, I n.log.startTerm, .w (sl 3 Entry.c n.log.entries) (g9 0 8), I n.commit, I n.clock, I n.limit, .w (sl 1 cI n.votes) (g9 0 12), .w (sl 4 Peer.c n.peers) (g9 0 13)]), (23, .agg [I n.id, I n.term_, I n.vote, I n.role, I n.lead, .al 7 (some 5) 1 n.conf.length (g9 0 5) 0, I n.log.start, I n.log.startTerm, .al 7 (some 8) 3 n.log.entries.length (g9 0 8) 0, I n.commit, I n.clock, I n.limit, .al 7 (some 12) 1 n.votes.length (g9 0 12) 0, .al 7 (some 13) 4 n.peers.length (g9 0 13) 0])]⟩ K := by
      refine RA.of hall (RA.stepH (L := [1]) Tell.e (by kernel_rfl) (by simp) (RA.each ?_ (RA.each0)))
      ·skip
       refine RO.callOwn rfl rfl (__impl_Node__sendAll_fn n hl (nodeOk_peers hn hl hr2) hok.1.1 hok.2.2.2.1) rfl (.cons (.one (.r (.pt rfl rfl (DRd.r (DRd.r (DRd.r (DRd.r (DRd.r (DRd.ow (DRd.r (DRd.r (DRd.ow (DRd.r (DRd.r (DRd.r (DRd.ow (DRd.ow DRd.e)))))))))))))) nofun))) (.nil)) rfl rfl fun go12_1_1 => ?_
       exact RA.to hall (RA.lr (ro12_11000 go12_1_1) rfl rfl)
     have ro12_00000 : RA [] E B all 5 #[false, false, false, false, false] ⟨53, [(4, .obj b2 [I 0, I 0, I 0, I 0, I 0, .r (.v (.slice none 0 0)), I 0, I 0, .r (.v (.slice none 0 0)), I 0, I 0, I 0, .r (.v (.slice none 0 0)), .r (.v (.slice none 0 0))]), (7, .obj b10 [I n.id, I n.term_, I n.vote, I n.role, I n.lead, .w (sl 1 cI n.conf) (g9 0 5), I n.log.start, I n.log.startTerm, .w (sl 3 Entry.c n.log.entries) (g9 0 8), I n.commit, I n.clock, I n.limit, .w (sl 1 cI n.votes) (g9 0 12), .w (sl 4 Peer.c n.peers) (g9 0 13)])]⟩ K := by
      refine RA.of hall (RA.stepH (L := [0, 1]) Tell.e (by kernel_rfl) (by simp) (RA.each ?_ (RA.each ?_ (RA.each0))))
      ·skip
       refine RO.v rfl rfl (V.loadAgg rfl rfl rfl rfl rfl (Nat.le_of_ble_eq_true rfl)) rfl ?_
       exact RA.to hall (RA.lr ro12_10000 rfl rfl)
      ·skip
       refine RO.callOwn rfl rfl (__impl_Node__sendAll_fn n hl (nodeOk_peers hn hl hr2) hok.1.1 hok.2.2.2.1) rfl (.cons (.one (.r (.pt rfl rfl (DRd.r (DRd.r (DRd.r (DRd.r (DRd.r (DRd.ow (DRd.r (DRd.r (DRd.ow (DRd.r (DRd.r (DRd.r (DRd.ow (DRd.ow DRd.e)))))))))))))) nofun))) (.nil)) rfl rfl fun go12_1_1 => ?_
       exact RA.to hall (RA.lr (ro12_01000 go12_1_1) rfl rfl)
     exact RA.start (by kernel_rfl) (by kernel_rfl) (RA.lr ro12_00000 rfl rfl)
    ·rintro go12_1_1
     refine CW.ret ?_
     exact Post.tup (by decide) (RVs.c (RV.c (f := fun e => (Node.c e).map .w) (e' := n) rfl rfl rfl rfl (DT.v (DT.v (DT.v (DT.v (DT.v (DT.w (DT.v (DT.v (DT.w (DT.v (DT.v (DT.v (DT.w (DT.w DT.e)))))))))))))) (by rw [tick_lead hgd h11])) (RVs.c (RV.w rfl (by rw [tick_lead hgd h11])) (RVs.c (RV.b rfl (by rw [tick_lead hgd h11])) RVs.e))) (AOs.a rfl (AOs.r AOs.e))
   ·skip
    refine CW.skip ?_
    refine CW.le [(1, I limit), (2, .obj b1 ((Node.c n).map .r)), (4, .obj b2 [I 0, I 0, I 0, I 0, I 0, .r (.v (.slice none 0 0)), I 0, I 0, .r (.v (.slice none 0 0)), I 0, I 0, I 0, .r (.v (.slice none 0 0)), .r (.v (.slice none 0 0))]), (7, .obj b10 [I n.id, I n.term_, I n.vote, I n.role, I n.lead, .w (sl 1 cI n.conf) (g9 0 5), I n.log.start, I n.log.startTerm, .w (sl 3 Entry.c n.log.entries) (g9 0 8), I n.commit, I n.clock, I n.limit, .w (sl 1 cI n.votes) (g9 0 12), .w (sl 4 Peer.c n.peers) (g9 0 13)])] rfl (Le.of rfl) ?_
    refine CW.seq ?_
    refine CW.region ?_
    refine RW.v rfl (V.field rfl rfl rfl rfl (by decide) rfl) ?_
    refine RW.v rfl (V.loadPrim (d := I n.clock) rfl rfl (.inl rfl) rfl rfl rfl) ?_
    refine RW.v rfl (V.arInt rfl rfl rfl rfl) ?_
    refine RW.v rfl (V.field rfl rfl rfl rfl (by decide) rfl) ?_
    refine RW.store (d := I (IntKind.i64.wrap (n.clock + 1))) rfl rfl rfl rfl rfl rfl rfl (Nat.le_of_ble_eq_true rfl) rfl rfl ?_
    refine RW.nil ?_
    refine CW.le [(1, I limit), (2, .obj b1 ((Node.c n).map .r)), (4, .obj b2 [I 0, I 0, I 0, I 0, I 0, .r (.v (.slice none 0 0)), I 0, I 0, .r (.v (.slice none 0 0)), I 0, I 0, I 0, .r (.v (.slice none 0 0)), .r (.v (.slice none 0 0))]), (7, .obj b10 [I n.id, I n.term_, I n.vote, I n.role, I n.lead, .w (sl 1 cI n.conf) (g9 0 5), I n.log.start, I n.log.startTerm, .w (sl 3 Entry.c n.log.entries) (g9 0 8), I n.commit, I (IntKind.i64.wrap (n.clock + 1)), I n.limit, .w (sl 1 cI n.votes) (g9 0 12), .w (sl 4 Peer.c n.peers) (g9 0 13)])] rfl (Le.of rfl) ?_
    refine CW.seq ?_
    refine CW.seq ?_
    refine CW.region ?_
    refine RW.v rfl (V.field rfl rfl rfl rfl (by decide) rfl) ?_
    refine RW.v rfl (V.loadPrim (d := I (IntKind.i64.wrap (n.clock + 1))) rfl rfl (.inl rfl) rfl rfl rfl) ?_
    refine RW.v rfl (V.field rfl rfl rfl rfl (by decide) rfl) ?_
    refine RW.v rfl (V.loadPrim (d := I n.limit) rfl rfl (.inl rfl) rfl rfl rfl) ?_
    refine RW.v rfl (V.cmpInt rfl rfl rfl rfl) ?_
    refine RW.nil ?_
    refine CW.le [(1, I limit), (2, .obj b1 ((Node.c n).map .r)), (4, .obj b2 [I 0, I 0, I 0, I 0, I 0, .r (.v (.slice none 0 0)), I 0, I 0, .r (.v (.slice none 0 0)), I 0, I 0, I 0, .r (.v (.slice none 0 0)), .r (.v (.slice none 0 0))]), (7, .obj b10 [I n.id, I n.term_, I n.vote, I n.role, I n.lead, .w (sl 1 cI n.conf) (g9 0 5), I n.log.start, I n.log.startTerm, .w (sl 3 Entry.c n.log.entries) (g9 0 8), I n.commit, I (IntKind.i64.wrap (n.clock + 1)), I n.limit, .w (sl 1 cI n.votes) (g9 0 12), .w (sl 4 Peer.c n.peers) (g9 0 13)]), (33, Bo (decide ((IntKind.i64.wrap (n.clock + 1)) < n.limit)))] rfl (Le.of rfl) ?_
    refine CW.cond rfl (fun h13 => ?_) (fun h13 => ?_)
    ·skip
     refine CW.seq ?_
     refine CW.region ?_
     refine RW.v rfl (V.loadAgg rfl rfl rfl rfl rfl (Nat.le_of_ble_eq_true rfl)) ?_
     refine RW.storeAgg (es := [I n.id, I n.term_, I n.vote, I n.role, I n.lead, .al 7 (some 5) 1 n.conf.length (g9 0 5) 0, I n.log.start, I n.log.startTerm, .al 7 (some 8) 3 n.log.entries.length (g9 0 8) 0, I n.commit, I (IntKind.i64.wrap (n.clock + 1)), I n.limit, .al 7 (some 12) 1 n.votes.length (g9 0 12) 0, .al 7 (some 13) 4 n.peers.length (g9 0 13) 0]) rfl rfl rfl rfl rfl rfl rfl rfl (Nat.le_of_ble_eq_true rfl) rfl ?_
     refine RW.le [(4, .obj b2 [I n.id, I n.term_, I n.vote, I n.role, I n.lead, .al 7 (some 5) 1 n.conf.length (g9 0 5) 0, I n.log.start, I n.log.startTerm, .al 7 (some 8) 3 n.log.entries.length (g9 0 8) 0, I n.commit, I (IntKind.i64.wrap (n.clock + 1)), I n.limit, .al 7 (some 12) 1 n.votes.length (g9 0 12) 0, .al 7 (some 13) 4 n.peers.length (g9 0 13) 0]), (7, .obj b10 [I n.id, I n.term_, I n.vote, I n.role, I n.lead, .w (sl 1 cI n.conf) (g9 0 5), I n.log.start, I n.log.startTerm, .w (sl 3 Entry.c n.log.entries) (g9 0 8), I n.commit, I (IntKind.i64.wrap (n.clock + 1)), I n.limit, .w (sl 1 cI n.votes) (g9 0 12), .w (sl 4 Peer.c n.peers) (g9 0 13)])] rfl (Le.of rfl) ?_
     refine RW.pullO (k := 4) (l := 7) (j := 5) 4 7 5 rfl rfl rfl (by decide) rfl rfl rfl rfl ?_
     refine RW.le [(4, .obj b2 [I n.id, I n.term_, I n.vote, I n.role, I n.lead, .w (sl 1 cI n.conf) (g9 0 5), I n.log.start, I n.log.startTerm, .al 7 (some 8) 3 n.log.entries.length (g9 0 8) 0, I n.commit, I (IntKind.i64.wrap (n.clock + 1)), I n.limit, .al 7 (some 12) 1 n.votes.length (g9 0 12) 0, .al 7 (some 13) 4 n.peers.length (g9 0 13) 0]), (7, .obj b10 [I n.id, I n.term_, I n.vote, I n.role, I n.lead, .u, I n.log.start, I n.log.startTerm, .w (sl 3 Entry.c n.log.entries) (g9 0 8), I n.commit, I (IntKind.i64.wrap (n.clock + 1)), I n.limit, .w (sl 1 cI n.votes) (g9 0 12), .w (sl 4 Peer.c n.peers) (g9 0 13)])] rfl (Le.of rfl) ?_
     refine RW.pullO (k := 4) (l := 7) (j := 8) 4 7 8 rfl rfl rfl (by decide) rfl rfl rfl rfl ?_
     refine RW.le [(4, .obj b2 [I n.id, I n.term_, I n.vote, I n.role, I n.lead, .w (sl 1 cI n.conf) (g9 0 5), I n.log.start, I n.log.startTerm, .w (sl 3 Entry.c n.log.entries) (g9 0 8), I n.commit, I (IntKind.i64.wrap (n.clock + 1)), I n.limit, .al 7 (some 12) 1 n.votes.length (g9 0 12) 0, .al 7 (some 13) 4 n.peers.length (g9 0 13) 0]), (7, .obj b10 [I n.id, I n.term_, I n.vote, I n.role, I n.lead, .u, I n.log.start, I n.log.startTerm, .u, I n.commit, I (IntKind.i64.wrap (n.clock + 1)), I n.limit, .w (sl 1 cI n.votes) (g9 0 12), .w (sl 4 Peer.c n.peers) (g9 0 13)])] rfl (Le.of rfl) ?_
     refine RW.pullO (k := 4) (l := 7) (j := 12) 4 7 12 rfl rfl rfl (by decide) rfl rfl rfl rfl ?_
     refine RW.le [(4, .obj b2 [I n.id, I n.term_, I n.vote, I n.role, I n.lead, .w (sl 1 cI n.conf) (g9 0 5), I n.log.start, I n.log.startTerm, .w (sl 3 Entry.c n.log.entries) (g9 0 8), I n.commit, I (IntKind.i64.wrap (n.clock + 1)), I n.limit, .w (sl 1 cI n.votes) (g9 0 12), .al 7 (some 13) 4 n.peers.length (g9 0 13) 0]), (7, .obj b10 [I n.id, I n.term_, I n.vote, I n.role, I n.lead, .u, I n.log.start, I n.log.startTerm, .u, I n.commit, I (IntKind.i64.wrap (n.clock + 1)), I n.limit, .u, .w (sl 4 Peer.c n.peers) (g9 0 13)])] rfl (Le.of rfl) ?_
     refine RW.pullO (k := 4) (l := 7) (j := 13) 4 7 13 rfl rfl rfl (by decide) rfl rfl rfl rfl ?_
     refine RW.le [(4, .obj b2 [I n.id, I n.term_, I n.vote, I n.role, I n.lead, .w (sl 1 cI n.conf) (g9 0 5), I n.log.start, I n.log.startTerm, .w (sl 3 Entry.c n.log.entries) (g9 0 8), I n.commit, I (IntKind.i64.wrap (n.clock + 1)), I n.limit, .w (sl 1 cI n.votes) (g9 0 12), .w (sl 4 Peer.c n.peers) (g9 0 13)]), (7, .obj b10 [I n.id, I n.term_, I n.vote, I n.role, I n.lead, .u, I n.log.start, I n.log.startTerm, .u, I n.commit, I (IntKind.i64.wrap (n.clock + 1)), I n.limit, .u, .u])] rfl (Le.of rfl) ?_
     refine RW.v rfl (V.as (d := .r (.v (.slice none 0 0))) rfl rfl) ?_
     refine RW.v rfl (V.as (d := Bo true) rfl rfl) ?_
     refine RW.nil ?_
     refine CW.le [(4, .obj b2 [I n.id, I n.term_, I n.vote, I n.role, I n.lead, .w (sl 1 cI n.conf) (g9 0 5), I n.log.start, I n.log.startTerm, .w (sl 3 Entry.c n.log.entries) (g9 0 8), I n.commit, I (IntKind.i64.wrap (n.clock + 1)), I n.limit, .w (sl 1 cI n.votes) (g9 0 12), .w (sl 4 Peer.c n.peers) (g9 0 13)]), (5, .r (.v (.slice none 0 0))), (6, Bo true)] rfl (Le.of rfl) ?_
     refine CW.ret ?_
     exact Post.tup (by decide) (RVs.c (RV.c (f := fun e => (Node.c e).map .w) (e' := (⟨n.id, n.term_, n.vote, n.role, n.lead, n.conf, n.log, n.commit, (IntKind.i64.wrap (n.clock + 1)), n.limit, n.votes, n.peers⟩ : Node)) rfl rfl rfl rfl (DT.v (DT.v (DT.v (DT.v (DT.v (DT.w (DT.v (DT.v (DT.w (DT.v (DT.v (DT.v (DT.w (DT.w DT.e)))))))))))))) (by rw [tick_wait hgd h11 h13])) (RVs.c (RV.n rfl (by rw [tick_wait hgd h11 h13])) (RVs.c (RV.b rfl (by rw [tick_wait hgd h11 h13])) RVs.e))) (AOs.a rfl (AOs.r AOs.e))
    ·skip
     refine CW.skip ?_
     refine CW.le [(1, I limit), (2, .obj b1 ((Node.c n).map .r)), (4, .obj b2 [I 0, I 0, I 0, I 0, I 0, .r (.v (.slice none 0 0)), I 0, I 0, .r (.v (.slice none 0 0)), I 0, I 0, I 0, .r (.v (.slice none 0 0)), .r (.v (.slice none 0 0))]), (7, .obj b10 [I n.id, I n.term_, I n.vote, I n.role, I n.lead, .w (sl 1 cI n.conf) (g9 0 5), I n.log.start, I n.log.startTerm, .w (sl 3 Entry.c n.log.entries) (g9 0 8), I n.commit, I (IntKind.i64.wrap (n.clock + 1)), I n.limit, .w (sl 1 cI n.votes) (g9 0 12), .w (sl 4 Peer.c n.peers) (g9 0 13)])] rfl (Le.of rfl) ?_
     refine CW.seq ?_
     refine CW.region ?_
     refine RW.v rfl (V.mv (d := I limit) rfl rfl) ?_
     refine RW.v rfl (V.field rfl rfl rfl rfl (by decide) rfl) ?_
     refine RW.store (d := I 0) rfl rfl rfl rfl rfl rfl rfl (Nat.le_of_ble_eq_true rfl) rfl rfl ?_
     refine RW.v rfl (V.field rfl rfl rfl rfl (by decide) rfl) ?_
     refine RW.store (d := I limit) rfl rfl rfl rfl rfl rfl rfl (Nat.le_of_ble_eq_true rfl) rfl rfl ?_
     refine RW.nil ?_
     refine CW.le [(2, .obj b1 ((Node.c n).map .r)), (4, .obj b2 [I 0, I 0, I 0, I 0, I 0, .r (.v (.slice none 0 0)), I 0, I 0, .r (.v (.slice none 0 0)), I 0, I 0, I 0, .r (.v (.slice none 0 0)), .r (.v (.slice none 0 0))]), (7, .obj b10 [I n.id, I n.term_, I n.vote, I n.role, I n.lead, .w (sl 1 cI n.conf) (g9 0 5), I n.log.start, I n.log.startTerm, .w (sl 3 Entry.c n.log.entries) (g9 0 8), I n.commit, I 0, I limit, .w (sl 1 cI n.votes) (g9 0 12), .w (sl 4 Peer.c n.peers) (g9 0 13)])] rfl (Le.of rfl) ?_
     refine CW.seq ?_
     refine CW.anyP (fc := [(4, b2, [.int .i64 0, .int .i64 0, .int .i64 0, .int .i64 0, .int .i64 0, .slice none 0 0, .int .i64 0, .int .i64 0, .slice none 0 0, .int .i64 0, .int .i64 0, .int .i64 0, .slice none 0 0, .slice none 0 0]), (7, b10, [.int .i64 n.id, .int .i64 n.term_, .int .i64 n.vote, .int .i64 n.role, .int .i64 n.lead, (g9 0 5), .int .i64 n.log.start, .int .i64 n.log.startTerm, (g9 0 8), .int .i64 n.commit, .int .i64 0, .int .i64 limit, (g9 0 12), (g9 0 13)])]) 53 (fun (v14 : Bool) => [(4, .obj b2 [I 0, I 0, I 0, I 0, I 0, .r (.v (.slice none 0 0)), I 0, I 0, .r (.v (.slice none 0 0)), I 0, I 0, I 0, .r (.v (.slice none 0 0)), .r (.v (.slice none 0 0))]), (7, .obj b10 [I n.id, I n.term_, I n.vote, I n.role, I n.lead, .w (sl 1 cI n.conf) (g9 0 5), I n.log.start, I n.log.startTerm, .w (sl 3 Entry.c n.log.entries) (g9 0 8), I n.commit, I 0, I limit, .w (sl 1 cI n.votes) (g9 0 12), .w (sl 4 Peer.c n.peers) (g9 0 13)]), (48, Bo v14)]) (fun (v14 : Bool) => v14 = (decide (n.term_ ≥ 100000) || (!(hasI ((lastC n (logLast n.log).1).2) n.id)))) (fun K hK => ?_) ?_
     ·refine RA.start (m := 11) (ls' := #[false, false, false, false, false, false, false, false, false, false, false]) (by kernel_rfl) (by kernel_rfl) ?_
      refine RA.le [(2, .obj b1 ((Node.c n).map .r)), (4, .obj b2 [I 0, I 0, I 0, I 0, I 0, .r (.v (.slice none 0 0)), I 0, I 0, .r (.v (.slice none 0 0)), I 0, I 0, I 0, .r (.v (.slice none 0 0)), .r (.v (.slice none 0 0))]), (7, .obj b10 [I n.id, I n.term_, I n.vote, I n.role, I n.lead, .w (sl 1 cI n.conf) (g9 0 5), I n.log.start, I n.log.startTerm, .w (sl 3 Entry.c n.log.entries) (g9 0 8), I n.commit, I 0, I limit, .w (sl 1 cI n.votes) (g9 0 12), .w (sl 4 Peer.c n.peers) (g9 0 13)])] rfl (Le.of rfl) ?_
      refine RA.first (i := 0) (ls' := #[true, false, false, false, false, false, false, false, false, false, false]) (Tell.c rfl rfl (Tell.c rfl rfl Tell.e)) (by kernel_rfl) rfl rfl rfl (VF.p (V.field rfl rfl rfl rfl (by decide) rfl)) ?_
      refine RA.le [(2, .obj b1 ((Node.c n).map .r)), (4, .obj b2 [I 0, I 0, I 0, I 0, I 0, .r (.v (.slice none 0 0)), I 0, I 0, .r (.v (.slice none 0 0)), I 0, I 0, I 0, .r (.v (.slice none 0 0)), .r (.v (.slice none 0 0))]), (7, .obj b10 [I n.id, I n.term_, I n.vote, I n.role, I n.lead, .w (sl 1 cI n.conf) (g9 0 5), I n.log.start, I n.log.startTerm, .w (sl 3 Entry.c n.log.entries) (g9 0 8), I n.commit, I 0, I limit, .w (sl 1 cI n.votes) (g9 0 12), .w (sl 4 Peer.c n.peers) (g9 0 13)]), (38, .pt 2 b1 1)] rfl (Le.of rfl) ?_
      refine RA.stepH (L := [1]) (Tell.c rfl rfl (Tell.c rfl rfl Tell.e)) (by kernel_rfl) (by simp) (RA.each ?_ RA.each0)
      refine RO.v rfl rfl (V.loadPrim (d := I n.term_) rfl rfl (.inl rfl) rfl rfl rfl) rfl ?_
      refine RA.first (i := 2) (ls' := #[true, true, true, false, false, false, false, false, false, false, false]) (Tell.c rfl rfl (Tell.c rfl rfl Tell.e)) (by kernel_rfl) rfl rfl rfl (VF.p (V.cmpInt rfl rfl rfl rfl)) ?_
      refine RA.first (i := 3) (ls' := #[true, true, true, true, false, false, false, false, false, false, false]) (Tell.c rfl rfl (Tell.c rfl rfl Tell.e)) (by kernel_rfl) rfl rfl rfl (VF.p (V.mv (d := Bo (decide (n.term_ ≥ 100000))) rfl rfl)) ?_
      refine RA.le [(2, .obj b1 ((Node.c n).map .r)), (4, .obj b2 [I 0, I 0, I 0, I 0, I 0, .r (.v (.slice none 0 0)), I 0, I 0, .r (.v (.slice none 0 0)), I 0, I 0, I 0, .r (.v (.slice none 0 0)), .r (.v (.slice none 0 0))]), (7, .obj b10 [I n.id, I n.term_, I n.vote, I n.role, I n.lead, .w (sl 1 cI n.conf) (g9 0 5), I n.log.start, I n.log.startTerm, .w (sl 3 Entry.c n.log.entries) (g9 0 8), I n.commit, I 0, I limit, .w (sl 1 cI n.votes) (g9 0 12), .w (sl 4 Peer.c n.peers) (g9 0 13)]), (41, Bo (decide (n.term_ ≥ 100000)))] rfl (Le.of rfl) ?_
      refine RA.bool 41 rfl (fun h15 => ?_) (fun h15 => ?_)
      ·skip
       refine RA.firstF (i := 4) (ls' := #[true, true, true, true, true, false, false, false, false, false, false]) (Tell.c rfl rfl (Tell.c rfl rfl Tell.e)) (by kernel_rfl) rfl rfl rfl rfl rfl (.inl rfl) ?_
       refine RA.firstF (i := 5) (ls' := #[true, true, true, true, true, true, false, false, false, false, false]) (Tell.c rfl rfl (Tell.c rfl rfl Tell.e)) (by kernel_rfl) rfl rfl rfl rfl rfl (.inl rfl) ?_
       refine RA.firstF (i := 6) (ls' := #[true, true, true, true, true, true, true, false, false, false, false]) (Tell.c rfl rfl (Tell.c rfl rfl Tell.e)) (by kernel_rfl) rfl rfl rfl rfl rfl (.inl rfl) ?_
       refine RA.firstF (i := 7) (ls' := #[true, true, true, true, true, true, true, true, false, false, false]) (Tell.c rfl rfl (Tell.c rfl rfl Tell.e)) (by kernel_rfl) rfl rfl rfl rfl rfl (.inl rfl) ?_
       refine RA.firstF (i := 8) (ls' := #[true, true, true, true, true, true, true, true, true, false, false]) (Tell.c rfl rfl (Tell.c rfl rfl Tell.e)) (by kernel_rfl) rfl rfl rfl rfl rfl (.inl rfl) ?_
       refine RA.le [(4, .obj b2 [I 0, I 0, I 0, I 0, I 0, .r (.v (.slice none 0 0)), I 0, I 0, .r (.v (.slice none 0 0)), I 0, I 0, I 0, .r (.v (.slice none 0 0)), .r (.v (.slice none 0 0))]), (7, .obj b10 [I n.id, I n.term_, I n.vote, I n.role, I n.lead, .w (sl 1 cI n.conf) (g9 0 5), I n.log.start, I n.log.startTerm, .w (sl 3 Entry.c n.log.entries) (g9 0 8), I n.commit, I 0, I limit, .w (sl 1 cI n.votes) (g9 0 12), .w (sl 4 Peer.c n.peers) (g9 0 13)]), (41, Bo true), (46, .r (.v undef))] rfl (Le.of rfl) ?_
       refine RA.firstF (i := 9) (ls' := #[true, true, true, true, true, true, true, true, true, true, false]) (Tell.c rfl rfl (Tell.c rfl rfl Tell.e)) (by kernel_rfl) rfl rfl rfl rfl rfl (.inl rfl) ?_
       refine RA.first (i := 10) (ls' := #[true, true, true, true, true, true, true, true, true, true, true]) (Tell.c rfl rfl (Tell.c rfl rfl Tell.e)) (by kernel_rfl) rfl rfl rfl (VF.p (V.pickT (d := Bo true) rfl rfl rfl)) ?_
       exact RA.finH (Tell.c rfl rfl (Tell.c rfl rfl Tell.e)) (by kernel_rfl) (hK _ _ (by first | rfl | (simp_all; done) | grind) rfl (Le.of rfl))
      ·skip
       refine RA.firstT (i := 6) (ls' := #[true, true, true, true, false, false, true, false, false, false, false]) (Tell.c rfl rfl (Tell.c rfl rfl Tell.e)) (by kernel_rfl) rfl rfl rfl rfl rfl rfl (VF.p (V.field rfl rfl rfl rfl (by decide) rfl)) ?_
       refine RA.le [(2, .obj b1 ((Node.c n).map .r)), (4, .obj b2 [I 0, I 0, I 0, I 0, I 0, .r (.v (.slice none 0 0)), I 0, I 0, .r (.v (.slice none 0 0)), I 0, I 0, I 0, .r (.v (.slice none 0 0)), .r (.v (.slice none 0 0))]), (7, .obj b10 [I n.id, I n.term_, I n.vote, I n.role, I n.lead, .w (sl 1 cI n.conf) (g9 0 5), I n.log.start, I n.log.startTerm, .w (sl 3 Entry.c n.log.entries) (g9 0 8), I n.commit, I 0, I limit, .w (sl 1 cI n.votes) (g9 0 12), .w (sl 4 Peer.c n.peers) (g9 0 13)]), (41, Bo false), (44, .pt 2 b1 0)] rfl (Le.of rfl) ?_
       refine RA.stepG (L := [4, 7]) (Tell.c rfl rfl (Tell.c rfl rfl Tell.e)) (by kernel_rfl) (by simp) (RA.eachG ?_ (RA.eachG ?_ (RA.eachG0)))
       ·skip
        refine RG.v rfl (.inr ⟨_, _, _, _, rfl, rfl, rfl, rfl⟩) (V.loadAgg rfl rfl rfl rfl rfl (Nat.le_of_ble_eq_true rfl)) rfl ?_
        refine RA.le [(2, .obj b1 ((Node.c n).map .r)), (4, .obj b2 [I 0, I 0, I 0, I 0, I 0, .r (.v (.slice none 0 0)), I 0, I 0, .r (.v (.slice none 0 0)), I 0, I 0, I 0, .r (.v (.slice none 0 0)), .r (.v (.slice none 0 0))]), (7, .obj b10 [I n.id, I n.term_, I n.vote, I n.role, I n.lead, .w (sl 1 cI n.conf) (g9 0 5), I n.log.start, I n.log.startTerm, .w (sl 3 Entry.c n.log.entries) (g9 0 8), I n.commit, I 0, I limit, .w (sl 1 cI n.votes) (g9 0 12), .w (sl 4 Peer.c n.peers) (g9 0 13)]), (41, Bo false), (42, .agg ((Node.c n).map .r)), (44, .pt 2 b1 0)] rfl (Le.of rfl) ?_
        refine RA.stepG (L := [5, 7]) (Tell.c rfl rfl (Tell.c rfl rfl Tell.e)) (by kernel_rfl) (by simp) (RA.eachG ?_ (RA.eachG ?_ (RA.eachG0)))
        ·skip
         refine RG.call rfl (.inr ⟨_, _, _, _, rfl, rfl, rfl, rfl⟩) (impl_ConfOf_fn n hok) rfl (.cons (.agg (.cons (.r .r) (.cons (.r .r) (.cons (.r .r) (.cons (.r .r) (.cons (.r .r) (.cons (.r .r) (.cons (.r .r) (.cons (.r .r) (.cons (.r .r) (.cons (.r .r) (.cons (.r .r) (.cons (.r .r) (.cons (.r .r) (.cons (.r .r) (.nil)))))))))))))))) (.nil)) rfl fun g16 => ?_
         refine RA.le [(2, .obj b1 ((Node.c n).map .r)), (4, .obj b2 [I 0, I 0, I 0, I 0, I 0, .r (.v (.slice none 0 0)), I 0, I 0, .r (.v (.slice none 0 0)), I 0, I 0, I 0, .r (.v (.slice none 0 0)), .r (.v (.slice none 0 0))]), (7, .obj b10 [I n.id, I n.term_, I n.vote, I n.role, I n.lead, .w (sl 1 cI n.conf) (g9 0 5), I n.log.start, I n.log.startTerm, .w (sl 3 Entry.c n.log.entries) (g9 0 8), I n.commit, I 0, I limit, .w (sl 1 cI n.votes) (g9 0 12), .w (sl 4 Peer.c n.peers) (g9 0 13)]), (41, Bo false), (43, .w (sl 1 cI ((lastC n (logLast n.log).1).2)) (g16 0 0)), (44, .pt 2 b1 0)] rfl (Le.of rfl) ?_
         refine RA.oneV (i := 7) (ls' := #[true, true, true, true, true, true, true, true, false, false, false]) (Tell.c rfl rfl (Tell.c rfl rfl Tell.e)) (by kernel_rfl) rfl rfl rfl rfl rfl rfl (V.loadPrim (d := I n.id) rfl rfl (.inl rfl) rfl rfl rfl) ?_
         refine RA.le [(4, .obj b2 [I 0, I 0, I 0, I 0, I 0, .r (.v (.slice none 0 0)), I 0, I 0, .r (.v (.slice none 0 0)), I 0, I 0, I 0, .r (.v (.slice none 0 0)), .r (.v (.slice none 0 0))]), (7, .obj b10 [I n.id, I n.term_, I n.vote, I n.role, I n.lead, .w (sl 1 cI n.conf) (g9 0 5), I n.log.start, I n.log.startTerm, .w (sl 3 Entry.c n.log.entries) (g9 0 8), I n.commit, I 0, I limit, .w (sl 1 cI n.votes) (g9 0 12), .w (sl 4 Peer.c n.peers) (g9 0 13)]), (41, Bo false), (43, .w (sl 1 cI ((lastC n (logLast n.log).1).2)) (g16 0 0)), (45, I n.id)] rfl (Le.of rfl) ?_
         refine RA.oneCallOwn (i := 8) (ls' := #[true, true, true, true, true, true, true, true, true, false, false]) (Tell.c rfl rfl (Tell.c rfl rfl Tell.e)) (by kernel_rfl) rfl rfl rfl rfl rfl rfl (slices_Contains___int_int__fn ((lastC n (logLast n.log).1).2) n.id) rfl (.cons (.one (.r (.al (k := none) (i := 43) (sz := 1) (V := (g16 0 0)) rfl rfl nofun))) (.cons (.one (.r .r)) (.nil))) rfl fun g17 => ?_
         refine RA.firstT (i := 9) (ls' := #[true, true, true, true, true, true, true, true, true, true, false]) (Tell.c rfl rfl (Tell.c rfl rfl Tell.e)) (by kernel_rfl) rfl rfl rfl rfl rfl rfl (VF.p (V.not rfl rfl)) ?_
         refine RA.first (i := 10) (ls' := #[true, true, true, true, true, true, true, true, true, true, true]) (Tell.c rfl rfl (Tell.c rfl rfl Tell.e)) (by kernel_rfl) rfl rfl rfl (VF.p (V.pickF (d := Bo (!(hasI ((lastC n (logLast n.log).1).2) n.id))) rfl rfl rfl)) ?_
         exact RA.finH (Tell.c rfl rfl (Tell.c rfl rfl Tell.e)) (by kernel_rfl) (hK _ _ (by first | rfl | (simp_all; done) | grind) rfl (Le.of rfl))
        ·skip
         refine RG.v rfl (.inr ⟨_, _, _, _, rfl, rfl, rfl, rfl⟩) (V.loadPrim (d := I n.id) rfl rfl (.inl rfl) rfl rfl rfl) rfl ?_
         refine RA.le [(4, .obj b2 [I 0, I 0, I 0, I 0, I 0, .r (.v (.slice none 0 0)), I 0, I 0, .r (.v (.slice none 0 0)), I 0, I 0, I 0, .r (.v (.slice none 0 0)), .r (.v (.slice none 0 0))]), (7, .obj b10 [I n.id, I n.term_, I n.vote, I n.role, I n.lead, .w (sl 1 cI n.conf) (g9 0 5), I n.log.start, I n.log.startTerm, .w (sl 3 Entry.c n.log.entries) (g9 0 8), I n.commit, I 0, I limit, .w (sl 1 cI n.votes) (g9 0 12), .w (sl 4 Peer.c n.peers) (g9 0 13)]), (41, Bo false), (42, .agg ((Node.c n).map .r)), (45, I n.id)] rfl (Le.of rfl) ?_
         refine RA.oneCall (i := 5) (ls' := #[true, true, true, true, true, true, true, true, false, false, false]) (Tell.c rfl rfl (Tell.c rfl rfl Tell.e)) (by kernel_rfl) rfl rfl rfl rfl rfl rfl (impl_ConfOf_fn n hok) rfl (.cons (.agg (.cons (.r .r) (.cons (.r .r) (.cons (.r .r) (.cons (.r .r) (.cons (.r .r) (.cons (.r .r) (.cons (.r .r) (.cons (.r .r) (.cons (.r .r) (.cons (.r .r) (.cons (.r .r) (.cons (.r .r) (.cons (.r .r) (.cons (.r .r) (.nil)))))))))))))))) (.nil)) fun g18 => ?_
         refine RA.le [(4, .obj b2 [I 0, I 0, I 0, I 0, I 0, .r (.v (.slice none 0 0)), I 0, I 0, .r (.v (.slice none 0 0)), I 0, I 0, I 0, .r (.v (.slice none 0 0)), .r (.v (.slice none 0 0))]), (7, .obj b10 [I n.id, I n.term_, I n.vote, I n.role, I n.lead, .w (sl 1 cI n.conf) (g9 0 5), I n.log.start, I n.log.startTerm, .w (sl 3 Entry.c n.log.entries) (g9 0 8), I n.commit, I 0, I limit, .w (sl 1 cI n.votes) (g9 0 12), .w (sl 4 Peer.c n.peers) (g9 0 13)]), (41, Bo false), (43, .w (sl 1 cI ((lastC n (logLast n.log).1).2)) (g18 0 0)), (45, I n.id)] rfl (Le.of rfl) ?_
         refine RA.oneCallOwn (i := 8) (ls' := #[true, true, true, true, true, true, true, true, true, false, false]) (Tell.c rfl rfl (Tell.c rfl rfl Tell.e)) (by kernel_rfl) rfl rfl rfl rfl rfl rfl (slices_Contains___int_int__fn ((lastC n (logLast n.log).1).2) n.id) rfl (.cons (.one (.r (.al (k := none) (i := 43) (sz := 1) (V := (g18 0 0)) rfl rfl nofun))) (.cons (.one (.r .r)) (.nil))) rfl fun g19 => ?_
         refine RA.firstT (i := 9) (ls' := #[true, true, true, true, true, true, true, true, true, true, false]) (Tell.c rfl rfl (Tell.c rfl rfl Tell.e)) (by kernel_rfl) rfl rfl rfl rfl rfl rfl (VF.p (V.not rfl rfl)) ?_
         refine RA.first (i := 10) (ls' := #[true, true, true, true, true, true, true, true, true, true, true]) (Tell.c rfl rfl (Tell.c rfl rfl Tell.e)) (by kernel_rfl) rfl rfl rfl (VF.p (V.pickF (d := Bo (!(hasI ((lastC n (logLast n.log).1).2) n.id))) rfl rfl rfl)) ?_
         exact RA.finH (Tell.c rfl rfl (Tell.c rfl rfl Tell.e)) (by kernel_rfl) (hK _ _ (by first | rfl | (simp_all; done) | grind) rfl (Le.of rfl))
       ·skip
        refine RG.v rfl (.inr ⟨_, _, _, _, rfl, rfl, rfl, rfl⟩) (V.loadPrim (d := I n.id) rfl rfl (.inl rfl) rfl rfl rfl) rfl ?_
        refine RA.le [(2, .obj b1 ((Node.c n).map .r)), (4, .obj b2 [I 0, I 0, I 0, I 0, I 0, .r (.v (.slice none 0 0)), I 0, I 0, .r (.v (.slice none 0 0)), I 0, I 0, I 0, .r (.v (.slice none 0 0)), .r (.v (.slice none 0 0))]), (7, .obj b10 [I n.id, I n.term_, I n.vote, I n.role, I n.lead, .w (sl 1 cI n.conf) (g9 0 5), I n.log.start, I n.log.startTerm, .w (sl 3 Entry.c n.log.entries) (g9 0 8), I n.commit, I 0, I limit, .w (sl 1 cI n.votes) (g9 0 12), .w (sl 4 Peer.c n.peers) (g9 0 13)]), (41, Bo false), (45, I n.id)] rfl (Le.of rfl) ?_
        refine RA.oneV (i := 4) (ls' := #[true, true, true, true, true, false, true, true, false, false, false]) (Tell.c rfl rfl (Tell.c rfl rfl Tell.e)) (by kernel_rfl) rfl rfl rfl rfl rfl rfl (V.loadAgg rfl rfl rfl rfl rfl (Nat.le_of_ble_eq_true rfl)) ?_
        refine RA.le [(4, .obj b2 [I 0, I 0, I 0, I 0, I 0, .r (.v (.slice none 0 0)), I 0, I 0, .r (.v (.slice none 0 0)), I 0, I 0, I 0, .r (.v (.slice none 0 0)), .r (.v (.slice none 0 0))]), (7, .obj b10 [I n.id, I n.term_, I n.vote, I n.role, I n.lead, .w (sl 1 cI n.conf) (g9 0 5), I n.log.start, I n.log.startTerm, .w (sl 3 Entry.c n.log.entries) (g9 0 8), I n.commit, I 0, I limit, .w (sl 1 cI n.votes) (g9 0 12), .w (sl 4 Peer.c n.peers) (g9 0 13)]), (41, Bo false), (42, .agg ((Node.c n).map .r)), (45, I n.id)] rfl (Le.of rfl) ?_
        refine RA.oneCall (i := 5) (ls' := #[true, true, true, true, true, true, true, true, false, false, false]) (Tell.c rfl rfl (Tell.c rfl rfl Tell.e)) (by kernel_rfl) rfl rfl rfl rfl rfl rfl (impl_ConfOf_fn n hok) rfl (.cons (.agg (.cons (.r .r) (.cons (.r .r) (.cons (.r .r) (.cons (.r .r) (.cons (.r .r) (.cons (.r .r) (.cons (.r .r) (.cons (.r .r) (.cons (.r .r) (.cons (.r .r) (.cons (.r .r) (.cons (.r .r) (.cons (.r .r) (.cons (.r .r) (.nil)))))))))))))))) (.nil)) fun g20 => ?_
        refine RA.le [(4, .obj b2 [I 0, I 0, I 0, I 0, I 0, .r (.v (.slice none 0 0)), I 0, I 0, .r (.v (.slice none 0 0)), I 0, I 0, I 0, .r (.v (.slice none 0 0)), .r (.v (.slice none 0 0))]), (7, .obj b10 [I n.id, I n.term_, I n.vote, I n.role, I n.lead, .w (sl 1 cI n.conf) (g9 0 5), I n.log.start, I n.log.startTerm, .w (sl 3 Entry.c n.log.entries) (g9 0 8), I n.commit, I 0, I limit, .w (sl 1 cI n.votes) (g9 0 12), .w (sl 4 Peer.c n.peers) (g9 0 13)]), (41, Bo false), (43, .w (sl 1 cI ((lastC n (logLast n.log).1).2)) (g20 0 0)), (45, I n.id)] rfl (Le.of rfl) ?_
        refine RA.oneCallOwn (i := 8) (ls' := #[true, true, true, true, true, true, true, true, true, false, false]) (Tell.c rfl rfl (Tell.c rfl rfl Tell.e)) (by kernel_rfl) rfl rfl rfl rfl rfl rfl (slices_Contains___int_int__fn ((lastC n (logLast n.log).1).2) n.id) rfl (.cons (.one (.r (.al (k := none) (i := 43) (sz := 1) (V := (g20 0 0)) rfl rfl nofun))) (.cons (.one (.r .r)) (.nil))) rfl fun g21 => ?_
        refine RA.firstT (i := 9) (ls' := #[true, true, true, true, true, true, true, true, true, true, false]) (Tell.c rfl rfl (Tell.c rfl rfl Tell.e)) (by kernel_rfl) rfl rfl rfl rfl rfl rfl (VF.p (V.not rfl rfl)) ?_
        refine RA.first (i := 10) (ls' := #[true, true, true, true, true, true, true, true, true, true, true]) (Tell.c rfl rfl (Tell.c rfl rfl Tell.e)) (by kernel_rfl) rfl rfl rfl (VF.p (V.pickF (d := Bo (!(hasI ((lastC n (logLast n.log).1).2) n.id))) rfl rfl rfl)) ?_
        exact RA.finH (Tell.c rfl rfl (Tell.c rfl rfl Tell.e)) (by kernel_rfl) (hK _ _ (by first | rfl | (simp_all; done) | grind) rfl (Le.of rfl))
     ·rintro v14 hv22
      refine CW.cond rfl (fun h23 => ?_) (fun h23 => ?_)
      ·skip
       have hst : (decide (n.term_ ≥ 100000) || !hasI (confN n) n.id) = true := hv22.symm.trans h23
       refine CW.seq ?_
       refine CW.region ?_
       refine RW.v rfl (V.loadAgg rfl rfl rfl rfl rfl (Nat.le_of_ble_eq_true rfl)) ?_
       refine RW.storeAgg (es := [I n.id, I n.term_, I n.vote, I n.role, I n.lead, .al 7 (some 5) 1 n.conf.length (g9 0 5) 0, I n.log.start, I n.log.startTerm, .al 7 (some 8) 3 n.log.entries.length (g9 0 8) 0, I n.commit, I 0, I limit, .al 7 (some 12) 1 n.votes.length (g9 0 12) 0, .al 7 (some 13) 4 n.peers.length (g9 0 13) 0]) rfl rfl rfl rfl rfl rfl rfl rfl (Nat.le_of_ble_eq_true rfl) rfl ?_
       refine RW.le [(4, .obj b2 [I n.id, I n.term_, I n.vote, I n.role, I n.lead, .al 7 (some 5) 1 n.conf.length (g9 0 5) 0, I n.log.start, I n.log.startTerm, .al 7 (some 8) 3 n.log.entries.length (g9 0 8) 0, I n.commit, I 0, I limit, .al 7 (some 12) 1 n.votes.length (g9 0 12) 0, .al 7 (some 13) 4 n.peers.length (g9 0 13) 0]), (7, .obj b10 [I n.id, I n.term_, I n.vote, I n.role, I n.lead, .w (sl 1 cI n.conf) (g9 0 5), I n.log.start, I n.log.startTerm, .w (sl 3 Entry.c n.log.entries) (g9 0 8), I n.commit, I 0, I limit, .w (sl 1 cI n.votes) (g9 0 12), .w (sl 4 Peer.c n.peers) (g9 0 13)])] rfl (Le.of rfl) ?_
       refine RW.pullO (k := 4) (l := 7) (j := 5) 4 7 5 rfl rfl rfl (by decide) rfl rfl rfl rfl ?_
       refine RW.le [(4, .obj b2 [I n.id, I n.term_, I n.vote, I n.role, I n.lead, .w (sl 1 cI n.conf) (g9 0 5), I n.log.start, I n.log.startTerm, .al 7 (some 8) 3 n.log.entries.length (g9 0 8) 0, I n.commit, I 0, I limit, .al 7 (some 12) 1 n.votes.length (g9 0 12) 0, .al 7 (some 13) 4 n.peers.length (g9 0 13) 0]), (7, .obj b10 [I n.id, I n.term_, I n.vote, I n.role, I n.lead, .u, I n.log.start, I n.log.startTerm, .w (sl 3 Entry.c n.log.entries) (g9 0 8), I n.commit, I 0, I limit, .w (sl 1 cI n.votes) (g9 0 12), .w (sl 4 Peer.c n.peers) (g9 0 13)])] rfl (Le.of rfl) ?_
       refine RW.pullO (k := 4) (l := 7) (j := 8) 4 7 8 rfl rfl rfl (by decide) rfl rfl rfl rfl ?_
       refine RW.le [(4, .obj b2 [I n.id, I n.term_, I n.vote, I n.role, I n.lead, .w (sl 1 cI n.conf) (g9 0 5), I n.log.start, I n.log.startTerm, .w (sl 3 Entry.c n.log.entries) (g9 0 8), I n.commit, I 0, I limit, .al 7 (some 12) 1 n.votes.length (g9 0 12) 0, .al 7 (some 13) 4 n.peers.length (g9 0 13) 0]), (7, .obj b10 [I n.id, I n.term_, I n.vote, I n.role, I n.lead, .u, I n.log.start, I n.log.startTerm, .u, I n.commit, I 0, I limit, .w (sl 1 cI n.votes) (g9 0 12), .w (sl 4 Peer.c n.peers) (g9 0 13)])] rfl (Le.of rfl) ?_
       refine RW.pullO (k := 4) (l := 7) (j := 12) 4 7 12 rfl rfl rfl (by decide) rfl rfl rfl rfl ?_
       refine RW.le [(4, .obj b2 [I n.id, I n.term_, I n.vote, I n.role, I n.lead, .w (sl 1 cI n.conf) (g9 0 5), I n.log.start, I n.log.startTerm, .w (sl 3 Entry.c n.log.entries) (g9 0 8), I n.commit, I 0, I limit, .w (sl 1 cI n.votes) (g9 0 12), .al 7 (some 13) 4 n.peers.length (g9 0 13) 0]), (7, .obj b10 [I n.id, I n.term_, I n.vote, I n.role, I n.lead, .u, I n.log.start, I n.log.startTerm, .u, I n.commit, I 0, I limit, .u, .w (sl 4 Peer.c n.peers) (g9 0 13)])] rfl (Le.of rfl) ?_
       refine RW.pullO (k := 4) (l := 7) (j := 13) 4 7 13 rfl rfl rfl (by decide) rfl rfl rfl rfl ?_
       refine RW.le [(4, .obj b2 [I n.id, I n.term_, I n.vote, I n.role, I n.lead, .w (sl 1 cI n.conf) (g9 0 5), I n.log.start, I n.log.startTerm, .w (sl 3 Entry.c n.log.entries) (g9 0 8), I n.commit, I 0, I limit, .w (sl 1 cI n.votes) (g9 0 12), .w (sl 4 Peer.c n.peers) (g9 0 13)]), (7, .obj b10 [I n.id, I n.term_, I n.vote, I n.role, I n.lead, .u, I n.log.start, I n.log.startTerm, .u, I n.commit, I 0, I limit, .u, .u])] rfl (Le.of rfl) ?_
       refine RW.v rfl (V.as (d := .r (.v (.slice none 0 0))) rfl rfl) ?_
       refine RW.v rfl (V.as (d := Bo true) rfl rfl) ?_
       refine RW.nil ?_
       refine CW.le [(4, .obj b2 [I n.id, I n.term_, I n.vote, I n.role, I n.lead, .w (sl 1 cI n.conf) (g9 0 5), I n.log.start, I n.log.startTerm, .w (sl 3 Entry.c n.log.entries) (g9 0 8), I n.commit, I 0, I limit, .w (sl 1 cI n.votes) (g9 0 12), .w (sl 4 Peer.c n.peers) (g9 0 13)]), (5, .r (.v (.slice none 0 0))), (6, Bo true)] rfl (Le.of rfl) ?_
       refine CW.ret ?_
       exact Post.tup (by decide) (RVs.c (RV.c (f := fun e => (Node.c e).map .w) (e' := (⟨n.id, n.term_, n.vote, n.role, n.lead, n.conf, n.log, n.commit, 0, limit, n.votes, n.peers⟩ : Node)) rfl rfl rfl rfl (DT.v (DT.v (DT.v (DT.v (DT.v (DT.w (DT.v (DT.v (DT.w (DT.v (DT.v (DT.v (DT.w (DT.w DT.e)))))))))))))) (by rw [tick_stay hgd h11 h13 hst])) (RVs.c (RV.n rfl (by rw [tick_stay hgd h11 h13 hst])) (RVs.c (RV.b rfl (by rw [tick_stay hgd h11 h13 hst])) RVs.e))) (AOs.a rfl (AOs.r AOs.e))
      ·skip
       have hst : (decide (n.term_ ≥ 100000) || !hasI (confN n) n.id) = false := hv22.symm.trans h23
       have hterm : 0 ≤ n.term_ ∧ n.term_ < 100000 := by unfold inR at htm; simp at htm hst; omega
       refine CW.skip ?_
       refine CW.le [(4, .obj b2 [I 0, I 0, I 0, I 0, I 0, .r (.v (.slice none 0 0)), I 0, I 0, .r (.v (.slice none 0 0)), I 0, I 0, I 0, .r (.v (.slice none 0 0)), .r (.v (.slice none 0 0))]), (7, .obj b10 [I n.id, I n.term_, I n.vote, I n.role, I n.lead, .w (sl 1 cI n.conf) (g9 0 5), I n.log.start, I n.log.startTerm, .w (sl 3 Entry.c n.log.entries) (g9 0 8), I n.commit, I 0, I limit, .w (sl 1 cI n.votes) (g9 0 12), .w (sl 4 Peer.c n.peers) (g9 0 13)])] rfl (Le.of rfl) ?_
       refine CW.seq ?_
       refine CW.region ?_
       refine RW.callW (k := 7) (__impl_Node__stand_fn (⟨n.id, n.term_, n.vote, n.role, n.lead, n.conf, n.log, n.commit, 0, limit, n.votes, n.peers⟩ : Node) hl hok hterm) rfl rfl (Nat.le_of_ble_eq_true rfl) (by decide) (.here (AsW.ob (DT.v (DT.v (DT.v (DT.v (DT.v (DT.w (DT.v (DT.v (DT.w (DT.v (DT.v (DT.v (DT.w (DT.w DT.e)))))))))))))) rfl) (.nil)) rfl fun g24 q25 => ?_
       refine RW.assignMove rfl rfl rfl (by decide) (Nat.le_of_ble_eq_true rfl) (Nat.le_of_ble_eq_true rfl) ?_
       refine RW.nil ?_
       refine CW.le [(4, .obj b2 [I 0, I 0, I 0, I 0, I 0, .r (.v (.slice none 0 0)), I 0, I 0, .r (.v (.slice none 0 0)), I 0, I 0, I 0, .r (.v (.slice none 0 0)), .r (.v (.slice none 0 0))]), (7, .obj b10 [I (((standN (⟨n.id, n.term_, n.vote, n.role, n.lead, n.conf, n.log, n.commit, 0, limit, n.votes, n.peers⟩ : Node)).1).id), I (((standN (⟨n.id, n.term_, n.vote, n.role, n.lead, n.conf, n.log, n.commit, 0, limit, n.votes, n.peers⟩ : Node)).1).term_), I (((standN (⟨n.id, n.term_, n.vote, n.role, n.lead, n.conf, n.log, n.commit, 0, limit, n.votes, n.peers⟩ : Node)).1).vote), I (((standN (⟨n.id, n.term_, n.vote, n.role, n.lead, n.conf, n.log, n.commit, 0, limit, n.votes, n.peers⟩ : Node)).1).role), I (((standN (⟨n.id, n.term_, n.vote, n.role, n.lead, n.conf, n.log, n.commit, 0, limit, n.votes, n.peers⟩ : Node)).1).lead), .w (sl 1 cI (((standN (⟨n.id, n.term_, n.vote, n.role, n.lead, n.conf, n.log, n.commit, 0, limit, n.votes, n.peers⟩ : Node)).1).conf)) (q25 5), I ((((standN (⟨n.id, n.term_, n.vote, n.role, n.lead, n.conf, n.log, n.commit, 0, limit, n.votes, n.peers⟩ : Node)).1).log).start), I ((((standN (⟨n.id, n.term_, n.vote, n.role, n.lead, n.conf, n.log, n.commit, 0, limit, n.votes, n.peers⟩ : Node)).1).log).startTerm), .w (sl 3 Entry.c ((((standN (⟨n.id, n.term_, n.vote, n.role, n.lead, n.conf, n.log, n.commit, 0, limit, n.votes, n.peers⟩ : Node)).1).log).entries)) (q25 8), I (((standN (⟨n.id, n.term_, n.vote, n.role, n.lead, n.conf, n.log, n.commit, 0, limit, n.votes, n.peers⟩ : Node)).1).commit), I (((standN (⟨n.id, n.term_, n.vote, n.role, n.lead, n.conf, n.log, n.commit, 0, limit, n.votes, n.peers⟩ : Node)).1).clock), I (((standN (⟨n.id, n.term_, n.vote, n.role, n.lead, n.conf, n.log, n.commit, 0, limit, n.votes, n.peers⟩ : Node)).1).limit), .w (sl 1 cI (((standN (⟨n.id, n.term_, n.vote, n.role, n.lead, n.conf, n.log, n.commit, 0, limit, n.votes, n.peers⟩ : Node)).1).votes)) (q25 12), .w (sl 4 Peer.c (((standN (⟨n.id, n.term_, n.vote, n.role, n.lead, n.conf, n.log, n.commit, 0, limit, n.votes, n.peers⟩ : Node)).1).peers)) (q25 13)]), (8, .w (sl 12 Message.c ((standN (⟨n.id, n.term_, n.vote, n.role, n.lead, n.conf, n.log, n.commit, 0, limit, n.votes, n.peers⟩ : Node)).2)) (g24 0 0))] rfl (Le.of rfl) ?_
       refine CW.seq ?_
       refine CW.region ?_
       refine RW.v rfl (V.loadAgg rfl rfl rfl rfl rfl (Nat.le_of_ble_eq_true rfl)) ?_
       refine RW.v rfl (V.mv (d := .al 8 none 12 (((standN (⟨n.id, n.term_, n.vote, n.role, n.lead, n.conf, n.log, n.commit, 0, limit, n.votes, n.peers⟩ : Node)).2).length) (g24 0 0) 0) rfl rfl) ?_
       refine RW.storeAgg (es := [I (((standN (⟨n.id, n.term_, n.vote, n.role, n.lead, n.conf, n.log, n.commit, 0, limit, n.votes, n.peers⟩ : Node)).1).id), I (((standN (⟨n.id, n.term_, n.vote, n.role, n.lead, n.conf, n.log, n.commit, 0, limit, n.votes, n.peers⟩ : Node)).1).term_), I (((standN (⟨n.id, n.term_, n.vote, n.role, n.lead, n.conf, n.log, n.commit, 0, limit, n.votes, n.peers⟩ : Node)).1).vote), I (((standN (⟨n.id, n.term_, n.vote, n.role, n.lead, n.conf, n.log, n.commit, 0, limit, n.votes, n.peers⟩ : Node)).1).role), I (((standN (⟨n.id, n.term_, n.vote, n.role, n.lead, n.conf, n.log, n.commit, 0, limit, n.votes, n.peers⟩ : Node)).1).lead), .al 7 (some 5) 1 ((((standN (⟨n.id, n.term_, n.vote, n.role, n.lead, n.conf, n.log, n.commit, 0, limit, n.votes, n.peers⟩ : Node)).1).conf).length) (q25 5) 0, I ((((standN (⟨n.id, n.term_, n.vote, n.role, n.lead, n.conf, n.log, n.commit, 0, limit, n.votes, n.peers⟩ : Node)).1).log).start), I ((((standN (⟨n.id, n.term_, n.vote, n.role, n.lead, n.conf, n.log, n.commit, 0, limit, n.votes, n.peers⟩ : Node)).1).log).startTerm), .al 7 (some 8) 3 (((((standN (⟨n.id, n.term_, n.vote, n.role, n.lead, n.conf, n.log, n.commit, 0, limit, n.votes, n.peers⟩ : Node)).1).log).entries).length) (q25 8) 0, I (((standN (⟨n.id, n.term_, n.vote, n.role, n.lead, n.conf, n.log, n.commit, 0, limit, n.votes, n.peers⟩ : Node)).1).commit), I (((standN (⟨n.id, n.term_, n.vote, n.role, n.lead, n.conf, n.log, n.commit, 0, limit, n.votes, n.peers⟩ : Node)).1).clock), I (((standN (⟨n.id, n.term_, n.vote, n.role, n.lead, n.conf, n.log, n.commit, 0, limit, n.votes, n.peers⟩ : Node)).1).limit), .al 7 (some 12) 1 ((((standN (⟨n.id, n.term_, n.vote, n.role, n.lead, n.conf, n.log, n.commit, 0, limit, n.votes, n.peers⟩ : Node)).1).votes).length) (q25 12) 0, .al 7 (some 13) 4 ((((standN (⟨n.id, n.term_, n.vote, n.role, n.lead, n.conf, n.log, n.commit, 0, limit, n.votes, n.peers⟩ : Node)).1).peers).length) (q25 13) 0]) rfl rfl rfl rfl rfl rfl rfl rfl (Nat.le_of_ble_eq_true rfl) rfl ?_
       refine RW.le [(4, .obj b2 [I (((standN (⟨n.id, n.term_, n.vote, n.role, n.lead, n.conf, n.log, n.commit, 0, limit, n.votes, n.peers⟩ : Node)).1).id), I (((standN (⟨n.id, n.term_, n.vote, n.role, n.lead, n.conf, n.log, n.commit, 0, limit, n.votes, n.peers⟩ : Node)).1).term_), I (((standN (⟨n.id, n.term_, n.vote, n.role, n.lead, n.conf, n.log, n.commit, 0, limit, n.votes, n.peers⟩ : Node)).1).vote), I (((standN (⟨n.id, n.term_, n.vote, n.role, n.lead, n.conf, n.log, n.commit, 0, limit, n.votes, n.peers⟩ : Node)).1).role), I (((standN (⟨n.id, n.term_, n.vote, n.role, n.lead, n.conf, n.log, n.commit, 0, limit, n.votes, n.peers⟩ : Node)).1).lead), .al 7 (some 5) 1 ((((standN (⟨n.id, n.term_, n.vote, n.role, n.lead, n.conf, n.log, n.commit, 0, limit, n.votes, n.peers⟩ : Node)).1).conf).length) (q25 5) 0, I ((((standN (⟨n.id, n.term_, n.vote, n.role, n.lead, n.conf, n.log, n.commit, 0, limit, n.votes, n.peers⟩ : Node)).1).log).start), I ((((standN (⟨n.id, n.term_, n.vote, n.role, n.lead, n.conf, n.log, n.commit, 0, limit, n.votes, n.peers⟩ : Node)).1).log).startTerm), .al 7 (some 8) 3 (((((standN (⟨n.id, n.term_, n.vote, n.role, n.lead, n.conf, n.log, n.commit, 0, limit, n.votes, n.peers⟩ : Node)).1).log).entries).length) (q25 8) 0, I (((standN (⟨n.id, n.term_, n.vote, n.role, n.lead, n.conf, n.log, n.commit, 0, limit, n.votes, n.peers⟩ : Node)).1).commit), I (((standN (⟨n.id, n.term_, n.vote, n.role, n.lead, n.conf, n.log, n.commit, 0, limit, n.votes, n.peers⟩ : Node)).1).clock), I (((standN (⟨n.id, n.term_, n.vote, n.role, n.lead, n.conf, n.log, n.commit, 0, limit, n.votes, n.peers⟩ : Node)).1).limit), .al 7 (some 12) 1 ((((standN (⟨n.id, n.term_, n.vote, n.role, n.lead, n.conf, n.log, n.commit, 0, limit, n.votes, n.peers⟩ : Node)).1).votes).length) (q25 12) 0, .al 7 (some 13) 4 ((((standN (⟨n.id, n.term_, n.vote, n.role, n.lead, n.conf, n.log, n.commit, 0, limit, n.votes, n.peers⟩ : Node)).1).peers).length) (q25 13) 0]), (7, .obj b10 [I (((standN (⟨n.id, n.term_, n.vote, n.role, n.lead, n.conf, n.log, n.commit, 0, limit, n.votes, n.peers⟩ : Node)).1).id), I (((standN (⟨n.id, n.term_, n.vote, n.role, n.lead, n.conf, n.log, n.commit, 0, limit, n.votes, n.peers⟩ : Node)).1).term_), I (((standN (⟨n.id, n.term_, n.vote, n.role, n.lead, n.conf, n.log, n.commit, 0, limit, n.votes, n.peers⟩ : Node)).1).vote), I (((standN (⟨n.id, n.term_, n.vote, n.role, n.lead, n.conf, n.log, n.commit, 0, limit, n.votes, n.peers⟩ : Node)).1).role), I (((standN (⟨n.id, n.term_, n.vote, n.role, n.lead, n.conf, n.log, n.commit, 0, limit, n.votes, n.peers⟩ : Node)).1).lead), .w (sl 1 cI (((standN (⟨n.id, n.term_, n.vote, n.role, n.lead, n.conf, n.log, n.commit, 0, limit, n.votes, n.peers⟩ : Node)).1).conf)) (q25 5), I ((((standN (⟨n.id, n.term_, n.vote, n.role, n.lead, n.conf, n.log, n.commit, 0, limit, n.votes, n.peers⟩ : Node)).1).log).start), I ((((standN (⟨n.id, n.term_, n.vote, n.role, n.lead, n.conf, n.log, n.commit, 0, limit, n.votes, n.peers⟩ : Node)).1).log).startTerm), .w (sl 3 Entry.c ((((standN (⟨n.id, n.term_, n.vote, n.role, n.lead, n.conf, n.log, n.commit, 0, limit, n.votes, n.peers⟩ : Node)).1).log).entries)) (q25 8), I (((standN (⟨n.id, n.term_, n.vote, n.role, n.lead, n.conf, n.log, n.commit, 0, limit, n.votes, n.peers⟩ : Node)).1).commit), I (((standN (⟨n.id, n.term_, n.vote, n.role, n.lead, n.conf, n.log, n.commit, 0, limit, n.votes, n.peers⟩ : Node)).1).clock), I (((standN (⟨n.id, n.term_, n.vote, n.role, n.lead, n.conf, n.log, n.commit, 0, limit, n.votes, n.peers⟩ : Node)).1).limit), .w (sl 1 cI (((standN (⟨n.id, n.term_, n.vote, n.role, n.lead, n.conf, n.log, n.commit, 0, limit, n.votes, n.peers⟩ : Node)).1).votes)) (q25 12), .w (sl 4 Peer.c (((standN (⟨n.id, n.term_, n.vote, n.role, n.lead, n.conf, n.log, n.commit, 0, limit, n.votes, n.peers⟩ : Node)).1).peers)) (q25 13)]), (8, .w (sl 12 Message.c ((standN (⟨n.id, n.term_, n.vote, n.role, n.lead, n.conf, n.log, n.commit, 0, limit, n.votes, n.peers⟩ : Node)).2)) (g24 0 0)), (52, .al 8 none 12 (((standN (⟨n.id, n.term_, n.vote, n.role, n.lead, n.conf, n.log, n.commit, 0, limit, n.votes, n.peers⟩ : Node)).2).length) (g24 0 0) 0)] rfl (Le.of rfl) ?_
       refine RW.pullO (k := 4) (l := 7) (j := 5) 4 7 5 rfl rfl rfl (by decide) rfl rfl rfl rfl ?_
       refine RW.le [(4, .obj b2 [I (((standN (⟨n.id, n.term_, n.vote, n.role, n.lead, n.conf, n.log, n.commit, 0, limit, n.votes, n.peers⟩ : Node)).1).id), I (((standN (⟨n.id, n.term_, n.vote, n.role, n.lead, n.conf, n.log, n.commit, 0, limit, n.votes, n.peers⟩ : Node)).1).term_), I (((standN (⟨n.id, n.term_, n.vote, n.role, n.lead, n.conf, n.log, n.commit, 0, limit, n.votes, n.peers⟩ : Node)).1).vote), I (((standN (⟨n.id, n.term_, n.vote, n.role, n.lead, n.conf, n.log, n.commit, 0, limit, n.votes, n.peers⟩ : Node)).1).role), I (((standN (⟨n.id, n.term_, n.vote, n.role, n.lead, n.conf, n.log, n.commit, 0, limit, n.votes, n.peers⟩ : Node)).1).lead), .w (sl 1 cI (((standN (⟨n.id, n.term_, n.vote, n.role, n.lead, n.conf, n.log, n.commit, 0, limit, n.votes, n.peers⟩ : Node)).1).conf)) (q25 5), I ((((standN (⟨n.id, n.term_, n.vote, n.role, n.lead, n.conf, n.log, n.commit, 0, limit, n.votes, n.peers⟩ : Node)).1).log).start), I ((((standN (⟨n.id, n.term_, n.vote, n.role, n.lead, n.conf, n.log, n.commit, 0, limit, n.votes, n.peers⟩ : Node)).1).log).startTerm), .al 7 (some 8) 3 (((((standN (⟨n.id, n.term_, n.vote, n.role, n.lead, n.conf, n.log, n.commit, 0, limit, n.votes, n.peers⟩ : Node)).1).log).entries).length) (q25 8) 0, I (((standN (⟨n.id, n.term_, n.vote, n.role, n.lead, n.conf, n.log, n.commit, 0, limit, n.votes, n.peers⟩ : Node)).1).commit), I (((standN (⟨n.id, n.term_, n.vote, n.role, n.lead, n.conf, n.log, n.commit, 0, limit, n.votes, n.peers⟩ : Node)).1).clock), I (((standN (⟨n.id, n.term_, n.vote, n.role, n.lead, n.conf, n.log, n.commit, 0, limit, n.votes, n.peers⟩ : Node)).1).limit), .al 7 (some 12) 1 ((((standN (⟨n.id, n.term_, n.vote, n.role, n.lead, n.conf, n.log, n.commit, 0, limit, n.votes, n.peers⟩ : Node)).1).votes).length) (q25 12) 0, .al 7 (some 13) 4 ((((standN (⟨n.id, n.term_, n.vote, n.role, n.lead, n.conf, n.log, n.commit, 0, limit, n.votes, n.peers⟩ : Node)).1).peers).length) (q25 13) 0]), (7, .obj b10 [I (((standN (⟨n.id, n.term_, n.vote, n.role, n.lead, n.conf, n.log, n.commit, 0, limit, n.votes, n.peers⟩ : Node)).1).id), I (((standN (⟨n.id, n.term_, n.vote, n.role, n.lead, n.conf, n.log, n.commit, 0, limit, n.votes, n.peers⟩ : Node)).1).term_), I (((standN (⟨n.id, n.term_, n.vote, n.role, n.lead, n.conf, n.log, n.commit, 0, limit, n.votes, n.peers⟩ : Node)).1).vote), I (((standN (⟨n.id, n.term_, n.vote, n.role, n.lead, n.conf, n.log, n.commit, 0, limit, n.votes, n.peers⟩ : Node)).1).role), I (((standN (⟨n.id, n.term_, n.vote, n.role, n.lead, n.conf, n.log, n.commit, 0, limit, n.votes, n.peers⟩ : Node)).1).lead), .u, I ((((standN (⟨n.id, n.term_, n.vote, n.role, n.lead, n.conf, n.log, n.commit, 0, limit, n.votes, n.peers⟩ : Node)).1).log).start), I ((((standN (⟨n.id, n.term_, n.vote, n.role, n.lead, n.conf, n.log, n.commit, 0, limit, n.votes, n.peers⟩ : Node)).1).log).startTerm), .w (sl 3 Entry.c ((((standN (⟨n.id, n.term_, n.vote, n.role, n.lead, n.conf, n.log, n.commit, 0, limit, n.votes, n.peers⟩ : Node)).1).log).entries)) (q25 8), I (((standN (⟨n.id, n.term_, n.vote, n.role, n.lead, n.conf, n.log, n.commit, 0, limit, n.votes, n.peers⟩ : Node)).1).commit), I (((standN (⟨n.id, n.term_, n.vote, n.role, n.lead, n.conf, n.log, n.commit, 0, limit, n.votes, n.peers⟩ : Node)).1).clock), I (((standN (⟨n.id, n.term_, n.vote, n.role, n.lead, n.conf, n.log, n.commit, 0, limit, n.votes, n.peers⟩ : Node)).1).limit), .w (sl 1 cI (((standN (⟨n.id, n.term_, n.vote, n.role, n.lead, n.conf, n.log, n.commit, 0, limit, n.votes, n.peers⟩ : Node)).1).votes)) (q25 12), .w (sl 4 Peer.c (((standN (⟨n.id, n.term_, n.vote, n.role, n.lead, n.conf, n.log, n.commit, 0, limit, n.votes, n.peers⟩ : Node)).1).peers)) (q25 13)]), (8, .w (sl 12 Message.c ((standN (⟨n.id, n.term_, n.vote, n.role, n.lead, n.conf, n.log, n.commit, 0, limit, n.votes, n.peers⟩ : Node)).2)) (g24 0 0)), (52, .al 8 none 12 (((standN (⟨n.id, n.term_, n.vote, n.role, n.lead, n.conf, n.log, n.commit, 0, limit, n.votes, n.peers⟩ : Node)).2).length) (g24 0 0) 0)] rfl (Le.of rfl) ?_
       refine RW.pullO (k := 4) (l := 7) (j := 8) 4 7 8 rfl rfl rfl (by decide) rfl rfl rfl rfl ?_
       refine RW.le [(4, .obj b2 [I (((standN (⟨n.id, n.term_, n.vote, n.role, n.lead, n.conf, n.log, n.commit, 0, limit, n.votes, n.peers⟩ : Node)).1).id), I (((standN (⟨n.id, n.term_, n.vote, n.role, n.lead, n.conf, n.log, n.commit, 0, limit, n.votes, n.peers⟩ : Node)).1).term_), I (((standN (⟨n.id, n.term_, n.vote, n.role, n.lead, n.conf, n.log, n.commit, 0, limit, n.votes, n.peers⟩ : Node)).1).vote), I (((standN (⟨n.id, n.term_, n.vote, n.role, n.lead, n.conf, n.log, n.commit, 0, limit, n.votes, n.peers⟩ : Node)).1).role), I (((standN (⟨n.id, n.term_, n.vote, n.role, n.lead, n.conf, n.log, n.commit, 0, limit, n.votes, n.peers⟩ : Node)).1).lead), .w (sl 1 cI (((standN (⟨n.id, n.term_, n.vote, n.role, n.lead, n.conf, n.log, n.commit, 0, limit, n.votes, n.peers⟩ : Node)).1).conf)) (q25 5), I ((((standN (⟨n.id, n.term_, n.vote, n.role, n.lead, n.conf, n.log, n.commit, 0, limit, n.votes, n.peers⟩ : Node)).1).log).start), I ((((standN (⟨n.id, n.term_, n.vote, n.role, n.lead, n.conf, n.log, n.commit, 0, limit, n.votes, n.peers⟩ : Node)).1).log).startTerm), .w (sl 3 Entry.c ((((standN (⟨n.id, n.term_, n.vote, n.role, n.lead, n.conf, n.log, n.commit, 0, limit, n.votes, n.peers⟩ : Node)).1).log).entries)) (q25 8), I (((standN (⟨n.id, n.term_, n.vote, n.role, n.lead, n.conf, n.log, n.commit, 0, limit, n.votes, n.peers⟩ : Node)).1).commit), I (((standN (⟨n.id, n.term_, n.vote, n.role, n.lead, n.conf, n.log, n.commit, 0, limit, n.votes, n.peers⟩ : Node)).1).clock), I (((standN (⟨n.id, n.term_, n.vote, n.role, n.lead, n.conf, n.log, n.commit, 0, limit, n.votes, n.peers⟩ : Node)).1).limit), .al 7 (some 12) 1 ((((standN (⟨n.id, n.term_, n.vote, n.role, n.lead, n.conf, n.log, n.commit, 0, limit, n.votes, n.peers⟩ : Node)).1).votes).length) (q25 12) 0, .al 7 (some 13) 4 ((((standN (⟨n.id, n.term_, n.vote, n.role, n.lead, n.conf, n.log, n.commit, 0, limit, n.votes, n.peers⟩ : Node)).1).peers).length) (q25 13) 0]), (7, .obj b10 [I (((standN (⟨n.id, n.term_, n.vote, n.role, n.lead, n.conf, n.log, n.commit, 0, limit, n.votes, n.peers⟩ : Node)).1).id), I (((standN (⟨n.id, n.term_, n.vote, n.role, n.lead, n.conf, n.log, n.commit, 0, limit, n.votes, n.peers⟩ : Node)).1).term_), I (((standN (⟨n.id, n.term_, n.vote, n.role, n.lead, n.conf, n.log, n.commit, 0, limit, n.votes, n.peers⟩ : Node)).1).vote), I (((standN (⟨n.id, n.term_, n.vote, n.role, n.lead, n.conf, n.log, n.commit, 0, limit, n.votes, n.peers⟩ : Node)).1).role), I (((standN (⟨n.id, n.term_, n.vote, n.role, n.lead, n.conf, n.log, n.commit, 0, limit, n.votes, n.peers⟩ : Node)).1).lead), .u, I ((((standN (⟨n.id, n.term_, n.vote, n.role, n.lead, n.conf, n.log, n.commit, 0, limit, n.votes, n.peers⟩ : Node)).1).log).start), I ((((standN (⟨n.id, n.term_, n.vote, n.role, n.lead, n.conf, n.log, n.commit, 0, limit, n.votes, n.peers⟩ : Node)).1).log).startTerm), .u, I (((standN (⟨n.id, n.term_, n.vote, n.role, n.lead, n.conf, n.log, n.commit, 0, limit, n.votes, n.peers⟩ : Node)).1).commit), I (((standN (⟨n.id, n.term_, n.vote, n.role, n.lead, n.conf, n.log, n.commit, 0, limit, n.votes, n.peers⟩ : Node)).1).clock), I (((standN (⟨n.id, n.term_, n.vote, n.role, n.lead, n.conf, n.log, n.commit, 0, limit, n.votes, n.peers⟩ : Node)).1).limit), .w (sl 1 cI (((standN (⟨n.id, n.term_, n.vote, n.role, n.lead, n.conf, n.log, n.commit, 0, limit, n.votes, n.peers⟩ : Node)).1).votes)) (q25 12), .w (sl 4 Peer.c (((standN (⟨n.id, n.term_, n.vote, n.role, n.lead, n.conf, n.log, n.commit, 0, limit, n.votes, n.peers⟩ : Node)).1).peers)) (q25 13)]), (8, .w (sl 12 Message.c ((standN (⟨n.id, n.term_, n.vote, n.role, n.lead, n.conf, n.log, n.commit, 0, limit, n.votes, n.peers⟩ : Node)).2)) (g24 0 0)), (52, .al 8 none 12 (((standN (⟨n.id, n.term_, n.vote, n.role, n.lead, n.conf, n.log, n.commit, 0, limit, n.votes, n.peers⟩ : Node)).2).length) (g24 0 0) 0)] rfl (Le.of rfl) ?_
       refine RW.pullO (k := 4) (l := 7) (j := 12) 4 7 12 rfl rfl rfl (by decide) rfl rfl rfl rfl ?_
       refine RW.le [(4, .obj b2 [I (((standN (⟨n.id, n.term_, n.vote, n.role, n.lead, n.conf, n.log, n.commit, 0, limit, n.votes, n.peers⟩ : Node)).1).id), I (((standN (⟨n.id, n.term_, n.vote, n.role, n.lead, n.conf, n.log, n.commit, 0, limit, n.votes, n.peers⟩ : Node)).1).term_), I (((standN (⟨n.id, n.term_, n.vote, n.role, n.lead, n.conf, n.log, n.commit, 0, limit, n.votes, n.peers⟩ : Node)).1).vote), I (((standN (⟨n.id, n.term_, n.vote, n.role, n.lead, n.conf, n.log, n.commit, 0, limit, n.votes, n.peers⟩ : Node)).1).role), I (((standN (⟨n.id, n.term_, n.vote, n.role, n.lead, n.conf, n.log, n.commit, 0, limit, n.votes, n.peers⟩ : Node)).1).lead), .w (sl 1 cI (((standN (⟨n.id, n.term_, n.vote, n.role, n.lead, n.conf, n.log, n.commit, 0, limit, n.votes, n.peers⟩ : Node)).1).conf)) (q25 5), I ((((standN (⟨n.id, n.term_, n.vote, n.role, n.lead, n.conf, n.log, n.commit, 0, limit, n.votes, n.peers⟩ : Node)).1).log).start), I ((((standN (⟨n.id, n.term_, n.vote, n.role, n.lead, n.conf, n.log, n.commit, 0, limit, n.votes, n.peers⟩ : Node)).1).log).startTerm), .w (sl 3 Entry.c ((((standN (⟨n.id, n.term_, n.vote, n.role, n.lead, n.conf, n.log, n.commit, 0, limit, n.votes, n.peers⟩ : Node)).1).log).entries)) (q25 8), I (((standN (⟨n.id, n.term_, n.vote, n.role, n.lead, n.conf, n.log, n.commit, 0, limit, n.votes, n.peers⟩ : Node)).1).commit), I (((standN (⟨n.id, n.term_, n.vote, n.role, n.lead, n.conf, n.log, n.commit, 0, limit, n.votes, n.peers⟩ : Node)).1).clock), I (((standN (⟨n.id, n.term_, n.vote, n.role, n.lead, n.conf, n.log, n.commit, 0, limit, n.votes, n.peers⟩ : Node)).1).limit), .w (sl 1 cI (((standN (⟨n.id, n.term_, n.vote, n.role, n.lead, n.conf, n.log, n.commit, 0, limit, n.votes, n.peers⟩ : Node)).1).votes)) (q25 12), .al 7 (some 13) 4 ((((standN (⟨n.id, n.term_, n.vote, n.role, n.lead, n.conf, n.log, n.commit, 0, limit, n.votes, n.peers⟩ : Node)).1).peers).length) (q25 13) 0]), (7, .obj b10 [I (((standN (⟨n.id, n.term_, n.vote, n.role, n.lead, n.conf, n.log, n.commit, 0, limit, n.votes, n.peers⟩ : Node)).1).id), I (((standN (⟨n.id, n.term_, n.vote, n.role, n.lead, n.conf, n.log, n.commit, 0, limit, n.votes, n.peers⟩ : Node)).1).term_), I (((standN (⟨n.id, n.term_, n.vote, n.role, n.lead, n.conf, n.log, n.commit, 0, limit, n.votes, n.peers⟩ : Node)).1).vote), I (((standN (⟨n.id, n.term_, n.vote, n.role, n.lead, n.conf, n.log, n.commit, 0, limit, n.votes, n.peers⟩ : Node)).1).role), I (((standN (⟨n.id, n.term_, n.vote, n.role, n.lead, n.conf, n.log, n.commit, 0, limit, n.votes, n.peers⟩ : Node)).1).lead), .u, I ((((standN (⟨n.id, n.term_, n.vote, n.role, n.lead, n.conf, n.log, n.commit, 0, limit, n.votes, n.peers⟩ : Node)).1).log).start), I ((((standN (⟨n.id, n.term_, n.vote, n.role, n.lead, n.conf, n.log, n.commit, 0, limit, n.votes, n.peers⟩ : Node)).1).log).startTerm), .u, I (((standN (⟨n.id, n.term_, n.vote, n.role, n.lead, n.conf, n.log, n.commit, 0, limit, n.votes, n.peers⟩ : Node)).1).commit), I (((standN (⟨n.id, n.term_, n.vote, n.role, n.lead, n.conf, n.log, n.commit, 0, limit, n.votes, n.peers⟩ : Node)).1).clock), I (((standN (⟨n.id, n.term_, n.vote, n.role, n.lead, n.conf, n.log, n.commit, 0, limit, n.votes, n.peers⟩ : Node)).1).limit), .u, .w (sl 4 Peer.c (((standN (⟨n.id, n.term_, n.vote, n.role, n.lead, n.conf, n.log, n.commit, 0, limit, n.votes, n.peers⟩ : Node)).1).peers)) (q25 13)]), (8, .w (sl 12 Message.c ((standN (⟨n.id, n.term_, n.vote, n.role, n.lead, n.conf, n.log, n.commit, 0, limit, n.votes, n.peers⟩ : Node)).2)) (g24 0 0)), (52, .al 8 none 12 (((standN (⟨n.id, n.term_, n.vote, n.role, n.lead, n.conf, n.log, n.commit, 0, limit, n.votes, n.peers⟩ : Node)).2).length) (g24 0 0) 0)] rfl (Le.of rfl) ?_
       refine RW.pullO (k := 4) (l := 7) (j := 13) 4 7 13 rfl rfl rfl (by decide) rfl rfl rfl rfl ?_
       refine RW.le [(4, .obj b2 [I (((standN (⟨n.id, n.term_, n.vote, n.role, n.lead, n.conf, n.log, n.commit, 0, limit, n.votes, n.peers⟩ : Node)).1).id), I (((standN (⟨n.id, n.term_, n.vote, n.role, n.lead, n.conf, n.log, n.commit, 0, limit, n.votes, n.peers⟩ : Node)).1).term_), I (((standN (⟨n.id, n.term_, n.vote, n.role, n.lead, n.conf, n.log, n.commit, 0, limit, n.votes, n.peers⟩ : Node)).1).vote), I (((standN (⟨n.id, n.term_, n.vote, n.role, n.lead, n.conf, n.log, n.commit, 0, limit, n.votes, n.peers⟩ : Node)).1).role), I (((standN (⟨n.id, n.term_, n.vote, n.role, n.lead, n.conf, n.log, n.commit, 0, limit, n.votes, n.peers⟩ : Node)).1).lead), .w (sl 1 cI (((standN (⟨n.id, n.term_, n.vote, n.role, n.lead, n.conf, n.log, n.commit, 0, limit, n.votes, n.peers⟩ : Node)).1).conf)) (q25 5), I ((((standN (⟨n.id, n.term_, n.vote, n.role, n.lead, n.conf, n.log, n.commit, 0, limit, n.votes, n.peers⟩ : Node)).1).log).start), I ((((standN (⟨n.id, n.term_, n.vote, n.role, n.lead, n.conf, n.log, n.commit, 0, limit, n.votes, n.peers⟩ : Node)).1).log).startTerm), .w (sl 3 Entry.c ((((standN (⟨n.id, n.term_, n.vote, n.role, n.lead, n.conf, n.log, n.commit, 0, limit, n.votes, n.peers⟩ : Node)).1).log).entries)) (q25 8), I (((standN (⟨n.id, n.term_, n.vote, n.role, n.lead, n.conf, n.log, n.commit, 0, limit, n.votes, n.peers⟩ : Node)).1).commit), I (((standN (⟨n.id, n.term_, n.vote, n.role, n.lead, n.conf, n.log, n.commit, 0, limit, n.votes, n.peers⟩ : Node)).1).clock), I (((standN (⟨n.id, n.term_, n.vote, n.role, n.lead, n.conf, n.log, n.commit, 0, limit, n.votes, n.peers⟩ : Node)).1).limit), .w (sl 1 cI (((standN (⟨n.id, n.term_, n.vote, n.role, n.lead, n.conf, n.log, n.commit, 0, limit, n.votes, n.peers⟩ : Node)).1).votes)) (q25 12), .w (sl 4 Peer.c (((standN (⟨n.id, n.term_, n.vote, n.role, n.lead, n.conf, n.log, n.commit, 0, limit, n.votes, n.peers⟩ : Node)).1).peers)) (q25 13)]), (7, .obj b10 [I (((standN (⟨n.id, n.term_, n.vote, n.role, n.lead, n.conf, n.log, n.commit, 0, limit, n.votes, n.peers⟩ : Node)).1).id), I (((standN (⟨n.id, n.term_, n.vote, n.role, n.lead, n.conf, n.log, n.commit, 0, limit, n.votes, n.peers⟩ : Node)).1).term_), I (((standN (⟨n.id, n.term_, n.vote, n.role, n.lead, n.conf, n.log, n.commit, 0, limit, n.votes, n.peers⟩ : Node)).1).vote), I (((standN (⟨n.id, n.term_, n.vote, n.role, n.lead, n.conf, n.log, n.commit, 0, limit, n.votes, n.peers⟩ : Node)).1).role), I (((standN (⟨n.id, n.term_, n.vote, n.role, n.lead, n.conf, n.log, n.commit, 0, limit, n.votes, n.peers⟩ : Node)).1).lead), .u, I ((((standN (⟨n.id, n.term_, n.vote, n.role, n.lead, n.conf, n.log, n.commit, 0, limit, n.votes, n.peers⟩ : Node)).1).log).start), I ((((standN (⟨n.id, n.term_, n.vote, n.role, n.lead, n.conf, n.log, n.commit, 0, limit, n.votes, n.peers⟩ : Node)).1).log).startTerm), .u, I (((standN (⟨n.id, n.term_, n.vote, n.role, n.lead, n.conf, n.log, n.commit, 0, limit, n.votes, n.peers⟩ : Node)).1).commit), I (((standN (⟨n.id, n.term_, n.vote, n.role, n.lead, n.conf, n.log, n.commit, 0, limit, n.votes, n.peers⟩ : Node)).1).clock), I (((standN (⟨n.id, n.term_, n.vote, n.role, n.lead, n.conf, n.log, n.commit, 0, limit, n.votes, n.peers⟩ : Node)).1).limit), .u, .u]), (8, .w (sl 12 Message.c ((standN (⟨n.id, n.term_, n.vote, n.role, n.lead, n.conf, n.log, n.commit, 0, limit, n.votes, n.peers⟩ : Node)).2)) (g24 0 0)), (52, .al 8 none 12 (((standN (⟨n.id, n.term_, n.vote, n.role, n.lead, n.conf, n.log, n.commit, 0, limit, n.votes, n.peers⟩ : Node)).2).length) (g24 0 0) 0)] rfl (Le.of rfl) ?_
       refine RW.v rfl (V.as (d := .al 8 none 12 (((standN (⟨n.id, n.term_, n.vote, n.role, n.lead, n.conf, n.log, n.commit, 0, limit, n.votes, n.peers⟩ : Node)).2).length) (g24 0 0) 0) rfl rfl) ?_
       refine RW.pullS 5 8 (by decide) rfl rfl ?_
       refine RW.v rfl (V.as (d := Bo true) rfl rfl) ?_
       refine RW.nil ?_
       refine CW.le [(4, .obj b2 [I (((standN (⟨n.id, n.term_, n.vote, n.role, n.lead, n.conf, n.log, n.commit, 0, limit, n.votes, n.peers⟩ : Node)).1).id), I (((standN (⟨n.id, n.term_, n.vote, n.role, n.lead, n.conf, n.log, n.commit, 0, limit, n.votes, n.peers⟩ : Node)).1).term_), I (((standN (⟨n.id, n.term_, n.vote, n.role, n.lead, n.conf, n.log, n.commit, 0, limit, n.votes, n.peers⟩ : Node)).1).vote), I (((standN (⟨n.id, n.term_, n.vote, n.role, n.lead, n.conf, n.log, n.commit, 0, limit, n.votes, n.peers⟩ : Node)).1).role), I (((standN (⟨n.id, n.term_, n.vote, n.role, n.lead, n.conf, n.log, n.commit, 0, limit, n.votes, n.peers⟩ : Node)).1).lead), .w (sl 1 cI (((standN (⟨n.id, n.term_, n.vote, n.role, n.lead, n.conf, n.log, n.commit, 0, limit, n.votes, n.peers⟩ : Node)).1).conf)) (q25 5), I ((((standN (⟨n.id, n.term_, n.vote, n.role, n.lead, n.conf, n.log, n.commit, 0, limit, n.votes, n.peers⟩ : Node)).1).log).start), I ((((standN (⟨n.id, n.term_, n.vote, n.role, n.lead, n.conf, n.log, n.commit, 0, limit, n.votes, n.peers⟩ : Node)).1).log).startTerm), .w (sl 3 Entry.c ((((standN (⟨n.id, n.term_, n.vote, n.role, n.lead, n.conf, n.log, n.commit, 0, limit, n.votes, n.peers⟩ : Node)).1).log).entries)) (q25 8), I (((standN (⟨n.id, n.term_, n.vote, n.role, n.lead, n.conf, n.log, n.commit, 0, limit, n.votes, n.peers⟩ : Node)).1).commit), I (((standN (⟨n.id, n.term_, n.vote, n.role, n.lead, n.conf, n.log, n.commit, 0, limit, n.votes, n.peers⟩ : Node)).1).clock), I (((standN (⟨n.id, n.term_, n.vote, n.role, n.lead, n.conf, n.log, n.commit, 0, limit, n.votes, n.peers⟩ : Node)).1).limit), .w (sl 1 cI (((standN (⟨n.id, n.term_, n.vote, n.role, n.lead, n.conf, n.log, n.commit, 0, limit, n.votes, n.peers⟩ : Node)).1).votes)) (q25 12), .w (sl 4 Peer.c (((standN (⟨n.id, n.term_, n.vote, n.role, n.lead, n.conf, n.log, n.commit, 0, limit, n.votes, n.peers⟩ : Node)).1).peers)) (q25 13)]), (5, .w (sl 12 Message.c ((standN (⟨n.id, n.term_, n.vote, n.role, n.lead, n.conf, n.log, n.commit, 0, limit, n.votes, n.peers⟩ : Node)).2)) (g24 0 0)), (6, Bo true)] rfl (Le.of rfl) ?_
       refine CW.ret ?_
       exact Post.tup (by decide) (RVs.c (RV.c (f := fun e => (Node.c e).map .w) (e' := ((standN (⟨n.id, n.term_, n.vote, n.role, n.lead, n.conf, n.log, n.commit, 0, limit, n.votes, n.peers⟩ : Node)).1)) rfl rfl rfl rfl (DT.v (DT.v (DT.v (DT.v (DT.v (DT.w (DT.v (DT.v (DT.w (DT.v (DT.v (DT.v (DT.w (DT.w DT.e)))))))))))))) (by rw [tick_go hgd h11 h13 hst])) (RVs.c (RV.w rfl (by rw [tick_go hgd h11 h13 hst])) (RVs.c (RV.b rfl (by rw [tick_go hgd h11 h13 hst])) RVs.e))) (AOs.a rfl (AOs.r AOs.e))
set_option maxHeartbeats 4000000 in
theorem impl_nextConf_fn (a : List Int) (b : List Int) : Eng.Fn E.P 128 [.one (.r (sl 1 cI a)), .one (.r (sl 1 cI b))] (.one (.one (.w (.v (.bool (nextConf a b)))))) [.one (.r (sl 1 cI a)), .one (.r (sl 1 cI b))] := by
 refine Eng.Fn.intro (E := E) (rvs := [.tmp 4]) Try.func128 rfl rfl rfl (by simp [outSlots, moved, rvSlot, sl]) ?_
 intro B g bo
 refine CW.bound (x := .tmp 0) (n := a.length) (AsT.r) (fun hl0 => ?_)
 refine CW.bound (x := .tmp 1) (n := b.length) (AsT.r) (fun hl1 => ?_)
 refine CW.le [(0, .r (sl 1 cI a)), (1, .r (sl 1 cI b))] rfl (Le.of rfl) ?_
 refine CW.seq ?_
 refine CW.region ?_
 refine RW.v rfl (V.as (d := Bo false) rfl rfl) ?_
 refine RW.nil ?_
 refine CW.le [(0, .r (sl 1 cI a)), (1, .r (sl 1 cI b))] rfl (Le.of rfl) ?_
 refine CW.seq ?_
 refine CW.region ?_
 refine RW.v rfl (V.as (d := I 0) rfl rfl) ?_
 refine RW.v rfl (V.as (d := I 0) rfl rfl) ?_
 refine RW.nil ?_
 refine CW.le [(0, .r (sl 1 cI a)), (1, .r (sl 1 cI b)), (5, I 0), (6, I 0)] rfl (Le.of rfl) ?_
 refine CW.seq ?_
 refine CW.seq ?_
 refine CW.region ?_
 refine RW.v rfl (V.mv (d := .r (sl 1 cI b)) rfl rfl) ?_
 refine RW.v rfl (V.lenT (n := b.length) rfl rfl rfl .r) ?_
 refine RW.v rfl (V.mv (d := I 0) rfl rfl) ?_
 refine RW.nil ?_
 refine CW.le [(0, .r (sl 1 cI a)), (1, .r (sl 1 cI b)), (5, I 0), (6, I 0), (11, .r (sl 1 cI b)), (12, I (b.length : Int)), (13, I 0)] rfl (Le.of rfl) ?_
 refine CW.block ?_
 refine CW.loopI 41 (fun (zz : Nat × Int) => match zz with | (i, c) => [(0, .r (sl 1 cI a)), (1, .r (sl 1 cI b)), (5, I c), (6, I 0), (11, .r (sl 1 cI b)), (12, I (b.length : Int)), (13, I (i : Int))]) (fun (zz : Nat × Int) => match zz with | (i, c) => i ≤ b.length ∧ c = (b.take i).foldl (dst a) 0) (fun (zz : Nat × Int) => match zz with | (i, c) => b.length - i) (0, _) rfl (Le.c rfl <| Le.c rfl <| Le.c rfl <| Le.c rfl <| Le.c rfl <| Le.c rfl <| Le.c rfl <| Le.e) ⟨by omega, rfl⟩ ?_
 rintro ⟨i, c⟩ ⟨hb, hc⟩
 refine CW.seq ?_
 refine CW.region ?_
 refine RW.v rfl (V.cmpInt rfl rfl rfl rfl) ?_
 refine RW.nil ?_
 refine CW.le [(0, .r (sl 1 cI a)), (1, .r (sl 1 cI b)), (5, I c), (6, I 0), (11, .r (sl 1 cI b)), (12, I (b.length : Int)), (13, I (i : Int)), (14, Bo (decide ((i : Int) < (b.length : Int))))] rfl (Le.of rfl) ?_
 refine CW.seq ?_
 refine CW.cond rfl (fun h1 => ?_) (fun h1 => ?_)
 ·skip
  have hii : i < b.length := by have := h1; simp at this; first | exact this | omega | (simp; done) | (simp; omega)
  obtain ⟨ei, hei⟩ : ∃ e, b[i]? = some e := ⟨_, List.getElem?_eq_getElem hii⟩
  have hdi := drop_get hei
  refine CW.skip ?_
  refine CW.le [(0, .r (sl 1 cI a)), (1, .r (sl 1 cI b)), (5, I c), (6, I 0), (11, .r (sl 1 cI b)), (12, I (b.length : Int)), (13, I (i : Int))] rfl (Le.of rfl) ?_
  refine CW.seq ?_
  refine CW.block ?_
  refine CW.seq ?_
  refine CW.region ?_
  refine RW.v rfl (V.indexS rfl rfl rfl rfl rfl rfl cI.len hei) ?_
  refine RW.v rfl (V.loadPrimR (t0 := .v (.int .i64 ei)) rfl rfl (.inl rfl) rfl rfl) ?_
  refine RW.v rfl (V.as (d := I ei) rfl rfl) ?_
  refine RW.nil ?_
  refine CW.le [(0, .r (sl 1 cI a)), (1, .r (sl 1 cI b)), (5, I c), (6, I 0), (8, I ei), (11, .r (sl 1 cI b)), (12, I (b.length : Int)), (13, I (i : Int))] rfl (Le.of rfl) ?_
  refine CW.seq ?_
  refine CW.region ?_
  refine RW.v rfl (V.mv (d := .r (sl 1 cI a)) rfl rfl) ?_
  refine RW.v rfl (V.mv (d := I ei) rfl rfl) ?_
  refine RW.call rfl (slices_Contains___int_int__fn a ei) rfl (.cons (.one (.r .r)) (.cons (.one (.r .r)) (.nil))) fun g2 => ?_
  refine RW.v rfl (V.not rfl rfl) ?_
  refine RW.nil ?_
  refine CW.le [(0, .r (sl 1 cI a)), (1, .r (sl 1 cI b)), (5, I c), (6, I 0), (11, .r (sl 1 cI b)), (12, I (b.length : Int)), (13, I (i : Int)), (20, Bo (!(hasI a ei)))] rfl (Le.of rfl) ?_
  refine CW.cond rfl (fun h3 => ?_) (fun h3 => ?_)
  ·skip
   refine CW.region ?_
   refine RW.v rfl (V.mv (d := I c) rfl rfl) ?_
   refine RW.v rfl (V.arInt rfl rfl rfl rfl) ?_
   refine RW.v rfl (V.as (d := I (IntKind.i64.wrap (c + 1))) rfl rfl) ?_
   refine RW.nil ?_
   refine CW.le [(0, .r (sl 1 cI a)), (1, .r (sl 1 cI b)), (5, I (IntKind.i64.wrap (c + 1))), (6, I 0), (11, .r (sl 1 cI b)), (12, I (b.length : Int)), (13, I (i : Int))] rfl (Le.of rfl) ?_
   refine CW.region ?_
   refine RW.v rfl (V.inc rfl rfl rfl hii hl1) ?_
   refine RW.v rfl (V.mv (d := I ((i + 1 : Nat) : Int)) rfl rfl) ?_
   refine RW.nil ?_
   exact ⟨(i + 1, (IntKind.i64.wrap (c + 1))), by simp only []; omega, ⟨by omega, by rw [take_snoc hei, List.foldl_append, ← hc]; simp_all [dst]⟩, rfl, Le.c rfl <| Le.c rfl <| Le.c rfl <| Le.c rfl <| Le.c rfl <| Le.c rfl <| Le.c rfl <| Le.e⟩
  ·skip
   refine CW.skip ?_
   refine CW.le [(0, .r (sl 1 cI a)), (1, .r (sl 1 cI b)), (5, I c), (6, I 0), (11, .r (sl 1 cI b)), (12, I (b.length : Int)), (13, I (i : Int))] rfl (Le.of rfl) ?_
   refine CW.region ?_
   refine RW.v rfl (V.inc rfl rfl rfl hii hl1) ?_
   refine RW.v rfl (V.mv (d := I ((i + 1 : Nat) : Int)) rfl rfl) ?_
   refine RW.nil ?_
   exact ⟨(i + 1, c), by simp only []; omega, ⟨by omega, by rw [take_snoc hei, List.foldl_append, ← hc]; simp_all [dst]⟩, rfl, Le.c rfl <| Le.c rfl <| Le.c rfl <| Le.c rfl <| Le.c rfl <| Le.c rfl <| Le.c rfl <| Le.e⟩
 ·skip
  have hii : b.length ≤ i := by have := h1; simp at this; first | exact this | omega | (simp; done) | (simp; omega)
  have hdi : b.drop i = [] := List.drop_eq_nil_of_le hii
  refine CW.exit ?_
  refine CW.le [(0, .r (sl 1 cI a)), (1, .r (sl 1 cI b)), (5, I c), (6, I 0)] rfl (Le.of rfl) ?_
  refine CW.seq ?_
  refine CW.seq ?_
  refine CW.region ?_
  refine RW.v rfl (V.mv (d := .r (sl 1 cI a)) rfl rfl) ?_
  refine RW.v rfl (V.lenT (n := a.length) rfl rfl rfl .r) ?_
  refine RW.v rfl (V.mv (d := I 0) rfl rfl) ?_
  refine RW.nil ?_
  refine CW.le [(1, .r (sl 1 cI b)), (5, I c), (6, I 0), (24, .r (sl 1 cI a)), (25, I (a.length : Int)), (26, I 0)] rfl (Le.of rfl) ?_
  refine CW.block ?_
  refine CW.loopI 41 (fun (zz : Nat × Int) => match zz with | (j, d) => [(1, .r (sl 1 cI b)), (5, I c), (6, I d), (24, .r (sl 1 cI a)), (25, I (a.length : Int)), (26, I (j : Int))]) (fun (zz : Nat × Int) => match zz with | (j, d) => j ≤ a.length ∧ d = (a.take j).foldl (dst b) 0) (fun (zz : Nat × Int) => match zz with | (j, d) => a.length - j) (0, _) rfl (Le.c rfl <| Le.c rfl <| Le.c rfl <| Le.c rfl <| Le.c rfl <| Le.c rfl <| Le.e) ⟨by omega, rfl⟩ ?_
  rintro ⟨j, d⟩ ⟨hbj, hd⟩
  refine CW.seq ?_
  refine CW.region ?_
  refine RW.v rfl (V.cmpInt rfl rfl rfl rfl) ?_
  refine RW.nil ?_
  refine CW.le [(1, .r (sl 1 cI b)), (5, I c), (6, I d), (24, .r (sl 1 cI a)), (25, I (a.length : Int)), (26, I (j : Int)), (27, Bo (decide ((j : Int) < (a.length : Int))))] rfl (Le.of rfl) ?_
  refine CW.seq ?_
  refine CW.cond rfl (fun h4 => ?_) (fun h4 => ?_)
  ·skip
   have hij : j < a.length := by have := h4; simp at this; first | exact this | omega | (simp; done) | (simp; omega)
   obtain ⟨ej, hej⟩ : ∃ e, a[j]? = some e := ⟨_, List.getElem?_eq_getElem hij⟩
   have hdj := drop_get hej
   refine CW.skip ?_
   refine CW.le [(1, .r (sl 1 cI b)), (5, I c), (6, I d), (24, .r (sl 1 cI a)), (25, I (a.length : Int)), (26, I (j : Int))] rfl (Le.of rfl) ?_
   refine CW.seq ?_
   refine CW.block ?_
   refine CW.seq ?_
   refine CW.region ?_
   refine RW.v rfl (V.indexS rfl rfl rfl rfl rfl rfl cI.len hej) ?_
   refine RW.v rfl (V.loadPrimR (t0 := .v (.int .i64 ej)) rfl rfl (.inl rfl) rfl rfl) ?_
   refine RW.v rfl (V.as (d := I ej) rfl rfl) ?_
   refine RW.nil ?_
   refine CW.le [(1, .r (sl 1 cI b)), (5, I c), (6, I d), (10, I ej), (24, .r (sl 1 cI a)), (25, I (a.length : Int)), (26, I (j : Int))] rfl (Le.of rfl) ?_
   refine CW.seq ?_
   refine CW.region ?_
   refine RW.v rfl (V.mv (d := .r (sl 1 cI b)) rfl rfl) ?_
   refine RW.v rfl (V.mv (d := I ej) rfl rfl) ?_
   refine RW.call rfl (slices_Contains___int_int__fn b ej) rfl (.cons (.one (.r .r)) (.cons (.one (.r .r)) (.nil))) fun g5 => ?_
   refine RW.v rfl (V.not rfl rfl) ?_
   refine RW.nil ?_
   refine CW.le [(1, .r (sl 1 cI b)), (5, I c), (6, I d), (24, .r (sl 1 cI a)), (25, I (a.length : Int)), (26, I (j : Int)), (33, Bo (!(hasI b ej)))] rfl (Le.of rfl) ?_
   refine CW.cond rfl (fun h6 => ?_) (fun h6 => ?_)
   ·skip
    refine CW.region ?_
    refine RW.v rfl (V.mv (d := I d) rfl rfl) ?_
    refine RW.v rfl (V.arInt rfl rfl rfl rfl) ?_
    refine RW.v rfl (V.as (d := I (IntKind.i64.wrap (d + 1))) rfl rfl) ?_
    refine RW.nil ?_
    refine CW.le [(1, .r (sl 1 cI b)), (5, I c), (6, I (IntKind.i64.wrap (d + 1))), (24, .r (sl 1 cI a)), (25, I (a.length : Int)), (26, I (j : Int))] rfl (Le.of rfl) ?_
    refine CW.region ?_
    refine RW.v rfl (V.inc rfl rfl rfl hij hl0) ?_
    refine RW.v rfl (V.mv (d := I ((j + 1 : Nat) : Int)) rfl rfl) ?_
    refine RW.nil ?_
    exact ⟨(j + 1, (IntKind.i64.wrap (d + 1))), by simp only []; omega, ⟨by omega, by rw [take_snoc hej, List.foldl_append, ← hd]; simp_all [dst]⟩, rfl, Le.c rfl <| Le.c rfl <| Le.c rfl <| Le.c rfl <| Le.c rfl <| Le.c rfl <| Le.e⟩
   ·skip
    refine CW.skip ?_
    refine CW.le [(1, .r (sl 1 cI b)), (5, I c), (6, I d), (24, .r (sl 1 cI a)), (25, I (a.length : Int)), (26, I (j : Int))] rfl (Le.of rfl) ?_
    refine CW.region ?_
    refine RW.v rfl (V.inc rfl rfl rfl hij hl0) ?_
    refine RW.v rfl (V.mv (d := I ((j + 1 : Nat) : Int)) rfl rfl) ?_
    refine RW.nil ?_
    exact ⟨(j + 1, d), by simp only []; omega, ⟨by omega, by rw [take_snoc hej, List.foldl_append, ← hd]; simp_all [dst]⟩, rfl, Le.c rfl <| Le.c rfl <| Le.c rfl <| Le.c rfl <| Le.c rfl <| Le.c rfl <| Le.e⟩
  ·skip
   have hij : a.length ≤ j := by have := h4; simp at this; first | exact this | omega | (simp; done) | (simp; omega)
   have hdj : a.drop j = [] := List.drop_eq_nil_of_le hij
   refine CW.exit ?_
   refine CW.le [(5, I c), (6, I d)] rfl (Le.of rfl) ?_
   refine CW.seq ?_
   refine CW.region ?_
   refine RW.v rfl (V.mv (d := I c) rfl rfl) ?_
   refine RW.v rfl (V.mv (d := I d) rfl rfl) ?_
   refine RW.v rfl (V.arInt rfl rfl rfl rfl) ?_
   refine RW.v rfl (V.cmpInt rfl rfl rfl rfl) ?_
   refine RW.v rfl (V.as (d := Bo ((IntKind.i64.wrap (c + d)) == 1)) rfl rfl) ?_
   refine RW.nil ?_
   refine CW.le [(4, Bo ((IntKind.i64.wrap (c + d)) == 1))] rfl (Le.of rfl) ?_
   refine CW.ret ?_
   exact Post.one (RV.b rfl (by rw [List.take_of_length_le hii] at hc; rw [List.take_of_length_le hij] at hd; rw [nextConf, diffs, diffs, ← hc, ← hd])) (AOs.r (AOs.r AOs.e))
set_option maxHeartbeats 4000000 in
theorem impl_mayTurn_fn (n : Node) (data : ByteArray) (hok : okToNode n) (hl : logB n.log) (hc : n.commit ≤ 9223372036854775807) (hm : data.size ≤ 1048576) : Eng.Fn E.P 97 [.agg ((Node.c n).map .r), .one (.r (.v (.string data)))] (.one (.one (.w (.v (.bool (mayTurn n data)))))) [.agg ((Node.c n).map .r), .one (.r (.v (.string data)))] := by
 refine Eng.Fn.intro (E := E) (rvs := [.tmp 4]) Try.func97 rfl rfl rfl (by simp [outSlots, moved, rvSlot, sl]) ?_
 intro B g bo
 refine CW.le [(0, .agg ((Node.c n).map .r)), (1, S data)] rfl (Le.of rfl) ?_
 refine CW.seq ?_
 refine CW.region ?_
 refine RW.box (ds := ((Node.c n).map .r)) rfl rfl rfl fun b1 => ?_
 refine RW.v rfl (V.as (d := Bo false) rfl rfl) ?_
 refine RW.nil ?_
 refine CW.le [(1, S data), (2, .obj b1 ((Node.c n).map .r))] rfl (Le.of rfl) ?_
 refine CW.seq ?_
 refine CW.region ?_
 refine RW.v rfl (V.field rfl rfl rfl rfl (by decide) rfl) ?_
 refine RW.v rfl (V.loadAgg rfl rfl rfl rfl rfl (Nat.le_of_ble_eq_true rfl)) ?_
 refine RW.call rfl (impl_LogLast_fn n.log (hok.2.1)) rfl (.cons (.agg (.cons (.r .r) (.cons (.r .r) (.cons (.r .r) (.nil))))) (.nil)) fun g2 => ?_
 refine RW.moveMove rfl rfl rfl (by decide) (Nat.le_of_ble_eq_true rfl) (Nat.le_of_ble_eq_true rfl) ?_
 refine RW.extract (d := I ((logLast n.log).1)) rfl rfl rfl (by decide) (Nat.le_of_ble_eq_true rfl) rfl rfl ?_
 refine RW.extract (d := I ((logLast n.log).2)) rfl rfl rfl (by decide) (Nat.le_of_ble_eq_true rfl) rfl rfl ?_
 refine RW.v rfl (V.as (d := I ((logLast n.log).1)) rfl rfl) ?_
 refine RW.v rfl (V.as (d := I ((logLast n.log).2)) rfl rfl) ?_
 refine RW.nil ?_
 refine CW.le [(1, S data), (2, .obj b1 ((Node.c n).map .r)), (5, I ((logLast n.log).1))] rfl (Le.of rfl) ?_
 refine CW.seq ?_
 refine CW.region ?_
 refine RW.v rfl (V.loadAgg rfl rfl rfl rfl rfl (Nat.le_of_ble_eq_true rfl)) ?_
 refine RW.v rfl (V.mv (d := I ((logLast n.log).1)) rfl rfl) ?_
 refine RW.call rfl (impl_lastConf_fn n ((logLast n.log).1) hok) rfl (.cons (.agg (.cons (.r .r) (.cons (.r .r) (.cons (.r .r) (.cons (.r .r) (.cons (.r .r) (.cons (.r .r) (.cons (.r .r) (.cons (.r .r) (.cons (.r .r) (.cons (.r .r) (.cons (.r .r) (.cons (.r .r) (.cons (.r .r) (.cons (.r .r) (.nil)))))))))))))))) (.cons (.one (.r .r)) (.nil))) fun g3 => ?_
 refine RW.moveMove rfl rfl rfl (by decide) (Nat.le_of_ble_eq_true rfl) (Nat.le_of_ble_eq_true rfl) ?_
 refine RW.extract (d := I ((lastC n ((logLast n.log).1)).1)) rfl rfl rfl (by decide) (Nat.le_of_ble_eq_true rfl) rfl rfl ?_
 refine RW.extract (d := .w (sl 1 cI ((lastC n ((logLast n.log).1)).2)) (g3 1 0)) rfl rfl rfl (by decide) (Nat.le_of_ble_eq_true rfl) rfl rfl ?_
 refine RW.v rfl (V.as (d := I ((lastC n ((logLast n.log).1)).1)) rfl rfl) ?_
 refine RW.assignMove rfl rfl rfl (by decide) (Nat.le_of_ble_eq_true rfl) (Nat.le_of_ble_eq_true rfl) ?_
 refine RW.nil ?_
 refine CW.le [(1, S data), (2, .obj b1 ((Node.c n).map .r)), (7, I ((lastC n ((logLast n.log).1)).1)), (8, .w (sl 1 cI ((lastC n ((logLast n.log).1)).2)) (g3 1 0))] rfl (Le.of rfl) ?_
 refine CW.seq ?_
 refine CW.region ?_
 refine RW.v rfl (V.mv (d := S data) rfl rfl) ?_
 refine RW.call rfl (impl_ReadConf_fn data hm) rfl (.cons (.one (.r .r)) (.nil)) fun g4 => ?_
 refine RW.moveMove rfl rfl rfl (by decide) (Nat.le_of_ble_eq_true rfl) (Nat.le_of_ble_eq_true rfl) ?_
 refine RW.extract (d := .w (sl 1 cI ((readConf data).1)) (g4 0 0)) rfl rfl rfl (by decide) (Nat.le_of_ble_eq_true rfl) rfl rfl ?_
 refine RW.extract (d := Bo ((readConf data).2)) rfl rfl rfl (by decide) (Nat.le_of_ble_eq_true rfl) rfl rfl ?_
 refine RW.assignMove rfl rfl rfl (by decide) (Nat.le_of_ble_eq_true rfl) (Nat.le_of_ble_eq_true rfl) ?_
 refine RW.v rfl (V.as (d := Bo ((readConf data).2)) rfl rfl) ?_
 refine RW.nil ?_
 refine CW.le [(2, .obj b1 ((Node.c n).map .r)), (7, I ((lastC n ((logLast n.log).1)).1)), (8, .w (sl 1 cI ((lastC n ((logLast n.log).1)).2)) (g3 1 0)), (9, .w (sl 1 cI ((readConf data).1)) (g4 0 0)), (10, Bo ((readConf data).2))] rfl (Le.of rfl) ?_
 refine CW.seqJ 50 (fun (v5 : Bool) => [(4, Bo v5)]) (fun v5 => v5 = (((((readConf data).2) && ((logTerm n.log n.commit) == n.term_)) && decide (((lastC n ((logLast n.log).1)).1) ≤ n.commit)) && (nextConf ((lastC n ((logLast n.log).1)).2) ((readConf data).1)))) ?_ ?_
 ·refine CW.drawn (by kernel_rfl) ?_
  refine RQ.v rfl (V.mv (d := Bo ((readConf data).2)) rfl rfl) ?_
  refine RQ.v rfl (V.mv (d := Bo ((readConf data).2)) rfl rfl) ?_
  refine RQ.gv rfl rfl rfl rfl (fun h6 => V.field rfl rfl rfl rfl (by decide) rfl) (fun h6 => ?_) (fun h6 => ?_)
  ·skip
   refine RQ.gt rfl rfl rfl rfl (V.loadAgg rfl rfl rfl rfl rfl (Nat.le_of_ble_eq_true rfl)) ?_
   refine RQ.gt rfl rfl rfl rfl (V.field rfl rfl rfl rfl (by decide) rfl) ?_
   refine RQ.gt rfl rfl rfl rfl (V.loadPrim (d := I n.commit) rfl rfl (.inl rfl) rfl rfl rfl) ?_
   refine RQ.guardT rfl rfl rfl rfl (QOK.call (impl_LogTerm_fn n.log n.commit hl hc) rfl (.cons (.agg (.cons (.r .r) (.cons (.r .r) (.cons (.r .r) (.nil))))) (.cons (.one (.r .r)) (.nil))) ?_)
   refine RQ.gt rfl rfl rfl rfl (V.field rfl rfl rfl rfl (by decide) rfl) ?_
   refine RQ.gt rfl rfl rfl rfl (V.loadPrim (d := I n.term_) rfl rfl (.inl rfl) rfl rfl rfl) ?_
   refine RQ.gt rfl rfl rfl rfl (V.cmpInt rfl rfl rfl rfl) ?_
   refine RQ.v rfl (V.pickT (d := Bo ((logTerm n.log n.commit) == n.term_)) rfl rfl rfl) ?_
   refine RQ.v rfl (V.mv (d := Bo ((logTerm n.log n.commit) == n.term_)) rfl rfl) ?_
   refine RQ.gv rfl rfl rfl rfl (fun h7 => V.mv (d := I ((lastC n ((logLast n.log).1)).1)) rfl rfl) (fun h7 => ?_) (fun h7 => ?_)
   ·skip
    refine RQ.gt rfl rfl rfl rfl (V.field rfl rfl rfl rfl (by decide) rfl) ?_
    refine RQ.gt rfl rfl rfl rfl (V.loadPrim (d := I n.commit) rfl rfl (.inl rfl) rfl rfl rfl) ?_
    refine RQ.gt rfl rfl rfl rfl (V.cmpInt rfl rfl rfl rfl) ?_
    refine RQ.v rfl (V.pickT (d := Bo (decide (((lastC n ((logLast n.log).1)).1) ≤ n.commit))) rfl rfl rfl) ?_
    refine RQ.v rfl (V.mv (d := Bo (decide (((lastC n ((logLast n.log).1)).1) ≤ n.commit))) rfl rfl) ?_
    refine RQ.gv rfl rfl rfl rfl (fun h8 => V.mv (d := .al 8 none 1 (((lastC n ((logLast n.log).1)).2).length) (g3 1 0) 0) rfl rfl) (fun h8 => ?_) (fun h8 => ?_)
    ·skip
     refine RQ.gt rfl rfl rfl rfl (V.mv (d := .al 9 none 1 (((readConf data).1).length) (g4 0 0) 0) rfl rfl) ?_
     refine RQ.guardT rfl rfl rfl rfl (QOK.call (impl_nextConf_fn ((lastC n ((logLast n.log).1)).2) ((readConf data).1)) rfl (.cons (.one (.r (.al (k := none) (i := 8) (sz := 1) (V := (g3 1 0)) rfl rfl nofun))) (.cons (.one (.r (.al (k := none) (i := 9) (sz := 1) (V := (g4 0 0)) rfl rfl nofun))) (.nil))) ?_)
     refine RQ.v rfl (V.pickT (d := Bo (nextConf ((lastC n ((logLast n.log).1)).2) ((readConf data).1))) rfl rfl rfl) ?_
     refine RQ.v rfl (V.as (d := Bo (nextConf ((lastC n ((logLast n.log).1)).2) ((readConf data).1))) rfl rfl) ?_
     refine RQ.nil ?_
     exact ⟨_, by first | rfl | (simp_all; done) | (simp_all; omega) | grind, rfl, Le.c rfl <| Le.e⟩
    ·skip
     refine RQ.guardF rfl rfl rfl rfl ?_
     refine RQ.guardF rfl rfl rfl rfl ?_
     refine RQ.v rfl (V.pickF (d := Bo false) rfl rfl rfl) ?_
     refine RQ.v rfl (V.as (d := Bo false) rfl rfl) ?_
     refine RQ.nil ?_
     exact ⟨_, by first | rfl | (simp_all; done) | (simp_all; omega) | grind, rfl, Le.c rfl <| Le.e⟩
   ·skip
    refine RQ.guardF rfl rfl rfl rfl ?_
    refine RQ.guardF rfl rfl rfl rfl ?_
    refine RQ.guardF rfl rfl rfl rfl ?_
    refine RQ.v rfl (V.pickF (d := Bo false) rfl rfl rfl) ?_
    refine RQ.v rfl (V.mv (d := Bo false) rfl rfl) ?_
    refine RQ.guardF rfl rfl rfl rfl ?_
    refine RQ.guardF rfl rfl rfl rfl ?_
    refine RQ.guardF rfl rfl rfl rfl ?_
    refine RQ.v rfl (V.pickF (d := Bo false) rfl rfl rfl) ?_
    refine RQ.v rfl (V.as (d := Bo false) rfl rfl) ?_
    refine RQ.nil ?_
    exact ⟨_, by first | rfl | (simp_all; done) | (simp_all; omega) | grind, rfl, Le.c rfl <| Le.e⟩
  ·skip
   refine RQ.guardF rfl rfl rfl rfl ?_
   refine RQ.guardF rfl rfl rfl rfl ?_
   refine RQ.guardF rfl rfl rfl rfl ?_
   refine RQ.guardF rfl rfl rfl rfl ?_
   refine RQ.guardF rfl rfl rfl rfl ?_
   refine RQ.guardF rfl rfl rfl rfl ?_
   refine RQ.guardF rfl rfl rfl rfl ?_
   refine RQ.v rfl (V.pickF (d := Bo false) rfl rfl rfl) ?_
   refine RQ.v rfl (V.mv (d := Bo false) rfl rfl) ?_
   refine RQ.guardF rfl rfl rfl rfl ?_
   refine RQ.guardF rfl rfl rfl rfl ?_
   refine RQ.guardF rfl rfl rfl rfl ?_
   refine RQ.guardF rfl rfl rfl rfl ?_
   refine RQ.v rfl (V.pickF (d := Bo false) rfl rfl rfl) ?_
   refine RQ.v rfl (V.mv (d := Bo false) rfl rfl) ?_
   refine RQ.guardF rfl rfl rfl rfl ?_
   refine RQ.guardF rfl rfl rfl rfl ?_
   refine RQ.guardF rfl rfl rfl rfl ?_
   refine RQ.v rfl (V.pickF (d := Bo false) rfl rfl rfl) ?_
   refine RQ.v rfl (V.as (d := Bo false) rfl rfl) ?_
   refine RQ.nil ?_
   exact ⟨_, by first | rfl | (simp_all; done) | (simp_all; omega) | grind, rfl, Le.c rfl <| Le.e⟩
 ·intro v5 hv9
  refine CW.ret ?_
  exact Post.one (RV.b rfl (by unfold mayTurn confN; first | (simp_all; done) | grind)) (AOs.a rfl (AOs.r AOs.e))
set_option maxHeartbeats 4000000 in
theorem impl_Peer__fn (a : List Peer) (f_id : Nat) (f_ts : List T) (f_p : Peer → Bool) (f_h : ∀ x, Eng.Fn E.P f_id [.agg ((Peer.c x).map .r), .one (.r (.f none f_ts))] (wB (f_p x)) [.agg ((Peer.c x).map .r), .one (.r (.f none f_ts))]) : Eng.Fn E.P 99 [.one (.r (sl 4 Peer.c a)), .one (.r (.f (some f_id) f_ts))] (.one (.one (.w (.v (.int .i64 (idxF f_p a)))))) [.one (.r (sl 4 Peer.c a)), .one (.r (.f (some f_id) f_ts))] := by
 refine Eng.Fn.intro (E := E) (rvs := [.tmp 4]) Try.func99 rfl rfl rfl (by simp [outSlots, moved, rvSlot, sl]) ?_
 intro B g bo
 refine CW.bound (x := .tmp 0) (n := a.length) (AsT.r) (fun hl0 => ?_)
 refine CW.le [(0, .r (sl 4 Peer.c a)), (1, .r (.f (some f_id) f_ts))] rfl (Le.of rfl) ?_
 refine CW.seq ?_
 refine CW.region ?_
 refine RW.v rfl (V.as (d := I 0) rfl rfl) ?_
 refine RW.nil ?_
 refine CW.le [(0, .r (sl 4 Peer.c a)), (1, .r (.f (some f_id) f_ts))] rfl (Le.of rfl) ?_
 refine CW.seq ?_
 refine CW.seq ?_
 refine CW.region ?_
 refine RW.v rfl (V.mv (d := .r (sl 4 Peer.c a)) rfl rfl) ?_
 refine RW.v rfl (V.lenT (n := a.length) rfl rfl rfl .r) ?_
 refine RW.v rfl (V.mv (d := I 0) rfl rfl) ?_
 refine RW.nil ?_
 refine CW.le [(0, .r (sl 4 Peer.c a)), (1, .r (.f (some f_id) f_ts)), (7, I (a.length : Int)), (8, I 0)] rfl (Le.of rfl) ?_
 refine CW.block ?_
 refine CW.loopI 19 (fun (i : Nat) => [(0, .r (sl 4 Peer.c a)), (1, .r (.f (some f_id) f_ts)), (7, I (a.length : Int)), (8, I (i : Int))]) (fun (i : Nat) => i ≤ a.length ∧ (a.take i).any f_p = false) (fun (i : Nat) => a.length - i) 0 rfl (Le.c rfl <| Le.c rfl <| Le.c rfl <| Le.c rfl <| Le.e) ⟨by omega, by simp⟩ ?_
 rintro i ⟨hb, hr⟩
 refine CW.seq ?_
 refine CW.region ?_
 refine RW.v rfl (V.cmpInt rfl rfl rfl rfl) ?_
 refine RW.nil ?_
 refine CW.le [(0, .r (sl 4 Peer.c a)), (1, .r (.f (some f_id) f_ts)), (7, I (a.length : Int)), (8, I (i : Int)), (9, Bo (decide ((i : Int) < (a.length : Int))))] rfl (Le.of rfl) ?_
 refine CW.seq ?_
 refine CW.cond rfl (fun h1 => ?_) (fun h1 => ?_)
 ·skip
  have hii : i < a.length := by have := h1; simp at this; first | exact this | omega | (simp; done) | (simp; omega)
  obtain ⟨ei, hei⟩ : ∃ e, a[i]? = some e := ⟨_, List.getElem?_eq_getElem hii⟩
  have hdi := drop_get hei
  refine CW.skip ?_
  refine CW.le [(0, .r (sl 4 Peer.c a)), (1, .r (.f (some f_id) f_ts)), (7, I (a.length : Int)), (8, I (i : Int))] rfl (Le.of rfl) ?_
  refine CW.seq ?_
  refine CW.block ?_
  refine CW.seq ?_
  refine CW.region ?_
  refine RW.v rfl (V.mv (d := I (i : Int)) rfl rfl) ?_
  refine RW.v rfl (V.as (d := I (i : Int)) rfl rfl) ?_
  refine RW.nil ?_
  refine CW.le [(0, .r (sl 4 Peer.c a)), (1, .r (.f (some f_id) f_ts)), (5, I (i : Int)), (7, I (a.length : Int)), (8, I (i : Int))] rfl (Le.of rfl) ?_
  refine CW.seq ?_
  refine CW.region ?_
  refine RW.v rfl (V.mv (d := .r (.f (some f_id) f_ts)) rfl rfl) ?_
  refine RW.v rfl (V.mv (d := .r (sl 4 Peer.c a)) rfl rfl) ?_
  refine RW.v rfl (V.mv (d := I (i : Int)) rfl rfl) ?_
  refine RW.v rfl (V.indexS rfl rfl rfl rfl rfl rfl Peer.len hei) ?_
  refine RW.v rfl (V.loadAggR rfl rfl rfl rfl (Nat.le_of_ble_eq_true rfl)) ?_
  refine RW.callF (ars := [.agg ((Peer.c ei).map .r)]) rfl (f_h ei) rfl rfl (.cons (.agg (.cons (.r .r) (.cons (.r .r) (.cons (.r .r) (.cons (.r .r) (.nil)))))) .nil) ?_
  refine RW.nil ?_
  refine CW.le [(0, .r (sl 4 Peer.c a)), (1, .r (.f (some f_id) f_ts)), (5, I (i : Int)), (7, I (a.length : Int)), (8, I (i : Int)), (16, Bo (f_p ei))] rfl (Le.of rfl) ?_
  refine CW.cond rfl (fun h2 => ?_) (fun h2 => ?_)
  ·skip
   refine CW.seq ?_
   refine CW.region ?_
   refine RW.v rfl (V.mv (d := I (i : Int)) rfl rfl) ?_
   refine RW.v rfl (V.as (d := I (i : Int)) rfl rfl) ?_
   refine RW.nil ?_
   refine CW.le [(4, I (i : Int))] rfl (Le.of rfl) ?_
   refine CW.ret ?_
   exact Post.one (RV.i rfl (by exact idxF_at hr hei h2)) (AOs.r (AOs.r AOs.e))
  ·skip
   refine CW.skip ?_
   refine CW.le [(0, .r (sl 4 Peer.c a)), (1, .r (.f (some f_id) f_ts)), (7, I (a.length : Int)), (8, I (i : Int))] rfl (Le.of rfl) ?_
   refine CW.region ?_
   refine RW.v rfl (V.inc rfl rfl rfl hii hl0) ?_
   refine RW.v rfl (V.mv (d := I ((i + 1 : Nat) : Int)) rfl rfl) ?_
   refine RW.nil ?_
   exact ⟨i + 1, by omega, ⟨by omega, any_snoc hr hei h2⟩, rfl, Le.c rfl <| Le.c rfl <| Le.c rfl <| Le.c rfl <| Le.e⟩
 ·skip
  have hii : a.length ≤ i := by have := h1; simp at this; first | exact this | omega | (simp; done) | (simp; omega)
  have hdi : a.drop i = [] := List.drop_eq_nil_of_le hii
  refine CW.exit ?_
  refine CW.le [] rfl (Le.of rfl) ?_
  refine CW.seq ?_
  refine CW.region ?_
  refine RW.v rfl (V.as (d := I (-1)) rfl rfl) ?_
  refine RW.nil ?_
  refine CW.le [(4, I (-1))] rfl (Le.of rfl) ?_
  refine CW.ret ?_
  exact Post.one (RV.i rfl (by exact idxF_no hr hii)) (AOs.r (AOs.r AOs.e))
set_option maxHeartbeats 4000000 in
theorem impl_Propose_1_fn (p : Peer) (c : Int) : Eng.Fn E.P 100 [.agg ((Peer.c p).map .r), .one (.r (.f none [.v (.int .i64 c)]))] (.one (.one (.w (.v (.bool (p.id == c)))))) [.agg ((Peer.c p).map .r), .one (.r (.f none [.v (.int .i64 c)]))] := by
 refine Eng.Fn.intro (E := E) (rvs := [.tmp 3]) Try.func100 rfl rfl rfl (by simp [outSlots, moved, rvSlot, sl]) ?_
 intro B g bo
 refine CW.asRp 1 rfl ?_
 refine CW.le [(0, .agg ((Peer.c p).map .r)), (1, .rp [.v (.int .i64 c)])] rfl (Le.of rfl) ?_
 refine CW.seq ?_
 refine CW.region ?_
 refine RW.box (ds := ((Peer.c p).map .r)) rfl rfl rfl fun b1 => ?_
 refine RW.v rfl (V.as (d := Bo false) rfl rfl) ?_
 refine RW.nil ?_
 refine CW.le [(1, .rp [.v (.int .i64 c)]), (2, .obj b1 ((Peer.c p).map .r))] rfl (Le.of rfl) ?_
 refine CW.seq ?_
 refine CW.region ?_
 refine RW.v rfl (V.field rfl rfl rfl rfl (by decide) rfl) ?_
 refine RW.v rfl (V.loadPrim (d := I p.id) rfl rfl (.inl rfl) rfl rfl rfl) ?_
 refine RW.v rfl (V.loadPrimR (t0 := .v (.int .i64 c)) rfl rfl (.inl rfl) rfl rfl) ?_
 refine RW.v rfl (V.cmpInt rfl rfl rfl rfl) ?_
 refine RW.v rfl (V.as (d := Bo (p.id == c)) rfl rfl) ?_
 refine RW.nil ?_
 refine CW.le [(3, Bo (p.id == c))] rfl (Le.of rfl) ?_
 refine CW.ret ?_
 exact Post.one (RV.b rfl (by rfl)) (AOs.a rfl (AOs.r AOs.e))
end Go.Proofs.Ytbiocicogminlaa.Y
