import Derived.Test.YtbiocicogminlaaWTickD
namespace Go.Proofs.Ytbiocicogminlaa.Y
open Go Go.RowKit Go.Eng Go.Proofs
set_option maxRecDepth 10000
set_option maxHeartbeats 4000000 in
theorem spec_l18Send_fn (r : l18Run) (p : Peer) (hl : logB r.n.log) (hp : peerB r.n.log p) (hc : r.n.conf.length ≤ 1048576) (hm : r.told.length ≤ 3145728) : Eng.Fn E.P 126 [.ob (l18Run.m r), .agg ((Peer.c p).map .r)] (.tup []) [.ob (l18Run.m (⟨r.n, r.told ++ [sendN r.n p]⟩ : l18Run)), .agg ((Peer.c p).map .r)] := by
 refine Eng.Fn.intro (E := E) (rvs := []) Try.func126 rfl rfl rfl (by simp [outSlots, moved, rvSlot, sl]) ?_
 intro B g bo
 refine CW.keep 83 [0,1] rfl ?_;(conv=>whnf);refine ⟨?_⟩
 have hl0 : r.n.log.entries.length ≤ maxLen := by have := hl.2.2; simp only [maxLen]; omega
 refine CW.k XK 83 2 [0,3,4] rfl ?_
 (conv=>whnf);intro b1;(conv=>whnf);intro b2;(conv=>whnf);refine ⟨rfl,?_⟩
 refine CW.seq ?_
 refine CW.k XK 83 1 [0,3,4,16] rfl ?_
 (conv=>whnf);refine ⟨rfl,?_⟩
 refine CW.cond rfl (fun h3 => ?_) (fun h3 => ?_)
 ·skip
  refine CW.anyJ2 (fc := [(3, b1, [.int .i64 p.id, .int .i64 p.next, .int .i64 p.match_, .int .i64 p.sent])]) (L0 := [(3, .obj b1 ((Peer.c p).map .r))]) 83 (fun (zz : Value × Value × (Nat → Value)) => match zz with | (Xo4_13_1, Xo4_7_1, qo4_17_1) => [(0, .obj (bo 0) [I r.n.id, I r.n.term_, I r.n.vote, I r.n.role, I r.n.lead, .r (sl 1 cI r.n.conf), I r.n.log.start, I r.n.log.startTerm, .r (sl 3 Entry.c r.n.log.entries), I r.n.commit, I r.n.clock, I r.n.limit, .r (sl 1 cI r.n.votes), .r (sl 4 Peer.c r.n.peers), .w (sl 12 Message.c (r.told ++ [tellM r.n (⟨5, 0, p.id, 0, r.n.log.start, r.n.log.startTerm, p.sent, false, [], (([] : List Int) ++ r.n.conf), ⟨#[]⟩, false⟩ : Message)])) (qo4_17_1 14)])]) (fun all hall f hf b0 hb K hK => ?_) ?_
  ·skip
   have ro4_20 : ∀ (Xo4_13_1 : Value), ∀ (Xo4_7_1 : Value), ∀ (qo4_17_1 : Nat → Value), RA f E B all 0 (bt 18 262143) ⟨83, [(0, .obj (bo 0) [I r.n.id, I r.n.term_, I r.n.vote, I r.n.role, I r.n.lead, .r (sl 1 cI r.n.conf), I r.n.log.start, I r.n.log.startTerm, .r (sl 3 Entry.c r.n.log.entries), I r.n.commit, I r.n.clock, I r.n.limit, .r (sl 1 cI r.n.votes), .r (sl 4 Peer.c r.n.peers), .w (sl 12 Message.c (r.told ++ [tellM r.n (⟨5, 0, p.id, 0, r.n.log.start, r.n.log.startTerm, p.sent, false, [], (([] : List Int) ++ r.n.conf), ⟨#[]⟩, false⟩ : Message)])) (qo4_17_1 14)])] ++ b0⟩ K := by
    intro Xo4_13_1 Xo4_7_1 qo4_17_1
    exact RA.of2 hall hf hb (RA.finH (Tell.of rfl) (by kernel_rfl) (hK (Xo4_13_1, Xo4_7_1, qo4_17_1) _ rfl (Le.of rfl)))
   have ro4_19 : ∀ (Xo4_13_1 : Value), ∀ (Xo4_7_1 : Value), RA f E B all 1 (bt 18 131071) ⟨83, [(0, .obj (bo 0) [I r.n.id, I r.n.term_, I r.n.vote, I r.n.role, I r.n.lead, .r (sl 1 cI r.n.conf), I r.n.log.start, I r.n.log.startTerm, .r (sl 3 Entry.c r.n.log.entries), I r.n.commit, I r.n.clock, I r.n.limit, .r (sl 1 cI r.n.votes), .r (sl 4 Peer.c r.n.peers), .w (sl 12 Message.c r.told) (g 0 14)]), (17, .pt 0 (bo 0) 0), (30, .w (sl 1 cI (([] : List Int) ++ r.n.conf)) Xo4_13_1), (33, .agg [I 5, I 0, I p.id, I 0, I r.n.log.start, I r.n.log.startTerm, I p.sent, Bo false, .r (.v (.slice none 0 0)), .al 30 none 1 ((([] : List Int) ++ r.n.conf).length) Xo4_13_1 0, S (⟨#[]⟩), Bo false])] ++ b0⟩ K := by
    intro Xo4_13_1 Xo4_7_1
    refine RA.of2 hall hf hb (RA.stepH (L := [17]) (Tell.of rfl) (by kernel_rfl) (by simp) (RA.each ?_ (RA.each0)))
    ·skip
     refine RO.pullG (k := 33) (l := 30) (j := 9) (by decide) rfl rfl rfl ?_
     refine RO.callT (k := 0) (q := 33) (spec_l18Tell_fn r (⟨5, 0, p.id, 0, r.n.log.start, r.n.log.startTerm, p.sent, false, [], (([] : List Int) ++ r.n.conf), ⟨#[]⟩, false⟩ : Message) hm) rfl rfl rfl rfl (by decide) (by decide) rfl rfl (DT.r (DT.r (DT.r (DT.r (DT.r (DT.r (DT.r (DT.r (DT.r (DT.r (DT.r (DT.r (DT.r (DT.r (DT.w DT.e))))))))))))))) rfl (Nat.le_of_ble_eq_true rfl) (Tk.agg ⟨_, (Hand.v (Hand.v (Hand.v (Hand.v (Hand.v (Hand.v (Hand.v (Hand.v (Hand.n (Hand.w (Hand.v (Hand.v Hand.e))))))))))))⟩) fun qo4_17_1 => ?_
     exact RA.to2 hall hf hb (ro4_20 Xo4_13_1 Xo4_7_1 qo4_17_1) rfl rfl (by kernel_rfl)
   have ro4_18 : ∀ (Xo4_13_1 : Value), ∀ (Xo4_7_1 : Value), RA f E B all 3 (bt 18 65519) ⟨83, [(0, .obj (bo 0) [I r.n.id, I r.n.term_, I r.n.vote, I r.n.role, I r.n.lead, .r (sl 1 cI r.n.conf), I r.n.log.start, I r.n.log.startTerm, .r (sl 3 Entry.c r.n.log.entries), I r.n.commit, I r.n.clock, I r.n.limit, .r (sl 1 cI r.n.votes), .r (sl 4 Peer.c r.n.peers), .w (sl 12 Message.c r.told) (g 0 14)]), (4, .obj b2 ((Log.c r.n.log).map .r)), (17, .pt 0 (bo 0) 0), (19, I p.id), (20, .pt 4 b2 0), (23, I r.n.log.startTerm), (30, .w (sl 1 cI (([] : List Int) ++ r.n.conf)) Xo4_13_1), (32, I p.sent)] ++ b0⟩ K := by
    intro Xo4_13_1 Xo4_7_1
    refine RA.of2 hall hf hb (RA.stepH (L := [4]) (Tell.of rfl) (by kernel_rfl) (by simp) (RA.each ?_ (RA.each0)))
    ·skip
     refine RO.v rfl rfl (V.loadPrim (d := I r.n.log.start) rfl rfl (.inl rfl) rfl rfl rfl) rfl ?_
     refine RA.fs XK 83 1 [16] (bt 18 131071) rfl rfl (by kernel_rfl) (Tell.of rfl) ?_
     (conv=>whnf);refine ⟨rfl,?_⟩
     exact RA.to2 hall hf hb (ro4_19 Xo4_13_1 Xo4_7_1) rfl rfl (by kernel_rfl)
   have ro4_17 : ∀ (Xo4_13_1 : Value), ∀ (Xo4_7_1 : Value), RA f E B all 3 (bt 18 65471) ⟨83, [(0, .obj (bo 0) [I r.n.id, I r.n.term_, I r.n.vote, I r.n.role, I r.n.lead, .r (sl 1 cI r.n.conf), I r.n.log.start, I r.n.log.startTerm, .r (sl 3 Entry.c r.n.log.entries), I r.n.commit, I r.n.clock, I r.n.limit, .r (sl 1 cI r.n.votes), .r (sl 4 Peer.c r.n.peers), .w (sl 12 Message.c r.told) (g 0 14)]), (4, .obj b2 ((Log.c r.n.log).map .r)), (17, .pt 0 (bo 0) 0), (19, I p.id), (21, I r.n.log.start), (22, .pt 4 b2 1), (30, .w (sl 1 cI (([] : List Int) ++ r.n.conf)) Xo4_13_1), (32, I p.sent)] ++ b0⟩ K := by
    intro Xo4_13_1 Xo4_7_1
    refine RA.of2 hall hf hb (RA.stepH (L := [6]) (Tell.of rfl) (by kernel_rfl) (by simp) (RA.each ?_ (RA.each0)))
    ·skip
     refine RO.v rfl rfl (V.loadPrim (d := I r.n.log.startTerm) rfl rfl (.inl rfl) rfl rfl rfl) rfl ?_
     refine RA.fs XK 83 1 [16] (bt 18 131071) rfl rfl (by kernel_rfl) (Tell.of rfl) ?_
     (conv=>whnf);refine ⟨rfl,?_⟩
     exact RA.to2 hall hf hb (ro4_19 Xo4_13_1 Xo4_7_1) rfl rfl (by kernel_rfl)
   have ro4_16 : ∀ (Xo4_7_1 : Value), RA f E B all 3 (bt 18 57343) ⟨83, [(0, .obj (bo 0) [I r.n.id, I r.n.term_, I r.n.vote, I r.n.role, I r.n.lead, .r (sl 1 cI r.n.conf), I r.n.log.start, I r.n.log.startTerm, .r (sl 3 Entry.c r.n.log.entries), I r.n.commit, I r.n.clock, I r.n.limit, .r (sl 1 cI r.n.votes), .r (sl 4 Peer.c r.n.peers), .w (sl 12 Message.c r.told) (g 0 14)]), (17, .pt 0 (bo 0) 0), (19, I p.id), (21, I r.n.log.start), (23, I r.n.log.startTerm), (24, .w (sl 1 cI ([] : List Int)) Xo4_7_1), (29, .r (sl 1 cI r.n.conf)), (32, I p.sent)] ++ b0⟩ K := by
    intro Xo4_7_1
    refine RA.of2 hall hf hb (RA.stepH (L := [13]) (Tell.of rfl) (by kernel_rfl) (by simp) (RA.each ?_ (RA.each0)))
    ·skip
     refine RO.appendSR (c := cI) (l1 := ([] : List Int)) (l2 := r.n.conf) rfl rfl rfl rfl rfl rfl rfl rfl rfl rfl .r (by decide) (Nat.le_of_ble_eq_true rfl) cI.len (fun _ => rfl) rfl (by simp only [maxLen, List.length_append, List.length_nil, List.length_take, List.length_singleton]; omega) (by simp only [maxLen, List.length_append, List.length_nil, List.length_take, List.length_singleton]; omega) fun Xo4_13_1 => ?_
     refine RA.fs XK 83 1 [16] (bt 18 131071) rfl rfl (by kernel_rfl) (Tell.of rfl) ?_
     (conv=>whnf);refine ⟨rfl,?_⟩
     exact RA.to2 hall hf hb (ro4_19 Xo4_13_1 Xo4_7_1) rfl rfl (by kernel_rfl)
   have ro4_15 : ∀ (Xo4_13_1 : Value), ∀ (Xo4_7_1 : Value), RA f E B all 4 (bt 18 65455) ⟨83, [(0, .obj (bo 0) [I r.n.id, I r.n.term_, I r.n.vote, I r.n.role, I r.n.lead, .r (sl 1 cI r.n.conf), I r.n.log.start, I r.n.log.startTerm, .r (sl 3 Entry.c r.n.log.entries), I r.n.commit, I r.n.clock, I r.n.limit, .r (sl 1 cI r.n.votes), .r (sl 4 Peer.c r.n.peers), .w (sl 12 Message.c r.told) (g 0 14)]), (4, .obj b2 ((Log.c r.n.log).map .r)), (17, .pt 0 (bo 0) 0), (19, I p.id), (20, .pt 4 b2 0), (22, .pt 4 b2 1), (30, .w (sl 1 cI (([] : List Int) ++ r.n.conf)) Xo4_13_1), (32, I p.sent)] ++ b0⟩ K := by
    intro Xo4_13_1 Xo4_7_1
    refine RA.of2 hall hf hb (RA.stepH (L := [4, 6]) (Tell.of rfl) (by kernel_rfl) (by simp) (RA.each ?_ (RA.each ?_ (RA.each0))))
    ·skip
     refine RO.v rfl rfl (V.loadPrim (d := I r.n.log.start) rfl rfl (.inl rfl) rfl rfl rfl) rfl ?_
     exact RA.to2 hall hf hb (ro4_17 Xo4_13_1 Xo4_7_1) rfl rfl (by kernel_rfl)
    ·skip
     refine RO.v rfl rfl (V.loadPrim (d := I r.n.log.startTerm) rfl rfl (.inl rfl) rfl rfl rfl) rfl ?_
     exact RA.to2 hall hf hb (ro4_18 Xo4_13_1 Xo4_7_1) rfl rfl (by kernel_rfl)
   have ro4_14 : ∀ (Xo4_7_1 : Value), RA f E B all 4 (bt 18 57327) ⟨83, [(0, .obj (bo 0) [I r.n.id, I r.n.term_, I r.n.vote, I r.n.role, I r.n.lead, .r (sl 1 cI r.n.conf), I r.n.log.start, I r.n.log.startTerm, .r (sl 3 Entry.c r.n.log.entries), I r.n.commit, I r.n.clock, I r.n.limit, .r (sl 1 cI r.n.votes), .r (sl 4 Peer.c r.n.peers), .w (sl 12 Message.c r.told) (g 0 14)]), (4, .obj b2 ((Log.c r.n.log).map .r)), (17, .pt 0 (bo 0) 0), (19, I p.id), (20, .pt 4 b2 0), (23, I r.n.log.startTerm), (24, .w (sl 1 cI ([] : List Int)) Xo4_7_1), (29, .r (sl 1 cI r.n.conf)), (32, I p.sent)] ++ b0⟩ K := by
    intro Xo4_7_1
    refine RA.of2 hall hf hb (RA.stepH (L := [4, 13]) (Tell.of rfl) (by kernel_rfl) (by simp) (RA.each ?_ (RA.each ?_ (RA.each0))))
    ·skip
     refine RO.v rfl rfl (V.loadPrim (d := I r.n.log.start) rfl rfl (.inl rfl) rfl rfl rfl) rfl ?_
     exact RA.to2 hall hf hb (ro4_16 Xo4_7_1) rfl rfl (by kernel_rfl)
    ·skip
     refine RO.appendSR (c := cI) (l1 := ([] : List Int)) (l2 := r.n.conf) rfl rfl rfl rfl rfl rfl rfl rfl rfl rfl .r (by decide) (Nat.le_of_ble_eq_true rfl) cI.len (fun _ => rfl) rfl (by simp only [maxLen, List.length_append, List.length_nil, List.length_take, List.length_singleton]; omega) (by simp only [maxLen, List.length_append, List.length_nil, List.length_take, List.length_singleton]; omega) fun Xo4_13_1 => ?_
     exact RA.to2 hall hf hb (ro4_18 Xo4_13_1 Xo4_7_1) rfl rfl (by kernel_rfl)
   have ro4_13 : ∀ (Xo4_7_1 : Value), RA f E B all 4 (bt 18 57279) ⟨83, [(0, .obj (bo 0) [I r.n.id, I r.n.term_, I r.n.vote, I r.n.role, I r.n.lead, .r (sl 1 cI r.n.conf), I r.n.log.start, I r.n.log.startTerm, .r (sl 3 Entry.c r.n.log.entries), I r.n.commit, I r.n.clock, I r.n.limit, .r (sl 1 cI r.n.votes), .r (sl 4 Peer.c r.n.peers), .w (sl 12 Message.c r.told) (g 0 14)]), (4, .obj b2 ((Log.c r.n.log).map .r)), (17, .pt 0 (bo 0) 0), (19, I p.id), (21, I r.n.log.start), (22, .pt 4 b2 1), (24, .w (sl 1 cI ([] : List Int)) Xo4_7_1), (29, .r (sl 1 cI r.n.conf)), (32, I p.sent)] ++ b0⟩ K := by
    intro Xo4_7_1
    refine RA.of2 hall hf hb (RA.stepH (L := [6, 13]) (Tell.of rfl) (by kernel_rfl) (by simp) (RA.each ?_ (RA.each ?_ (RA.each0))))
    ·skip
     refine RO.v rfl rfl (V.loadPrim (d := I r.n.log.startTerm) rfl rfl (.inl rfl) rfl rfl rfl) rfl ?_
     exact RA.to2 hall hf hb (ro4_16 Xo4_7_1) rfl rfl (by kernel_rfl)
    ·skip
     refine RO.appendSR (c := cI) (l1 := ([] : List Int)) (l2 := r.n.conf) rfl rfl rfl rfl rfl rfl rfl rfl rfl rfl .r (by decide) (Nat.le_of_ble_eq_true rfl) cI.len (fun _ => rfl) rfl (by simp only [maxLen, List.length_append, List.length_nil, List.length_take, List.length_singleton]; omega) (by simp only [maxLen, List.length_append, List.length_nil, List.length_take, List.length_singleton]; omega) fun Xo4_13_1 => ?_
     exact RA.to2 hall hf hb (ro4_17 Xo4_13_1 Xo4_7_1) rfl rfl (by kernel_rfl)
   have ro4_12 : RA f E B all 4 (bt 18 57215) ⟨83, [(0, .obj (bo 0) [I r.n.id, I r.n.term_, I r.n.vote, I r.n.role, I r.n.lead, .r (sl 1 cI r.n.conf), I r.n.log.start, I r.n.log.startTerm, .r (sl 3 Entry.c r.n.log.entries), I r.n.commit, I r.n.clock, I r.n.limit, .r (sl 1 cI r.n.votes), .r (sl 4 Peer.c r.n.peers), .w (sl 12 Message.c r.told) (g 0 14)]), (17, .pt 0 (bo 0) 0), (19, I p.id), (21, I r.n.log.start), (23, I r.n.log.startTerm), (29, .r (sl 1 cI r.n.conf)), (32, I p.sent)] ++ b0⟩ K := by
    refine RA.of2 hall hf hb (RA.stepH (L := [7]) (Tell.of rfl) (by kernel_rfl) (by simp) (RA.each ?_ (RA.each0)))
    ·skip
     refine RO.build0 cI rfl rfl rfl rfl rfl rfl rfl fun Xo4_7_1 => ?_
     exact RA.to2 hall hf hb (ro4_16 Xo4_7_1) rfl rfl (by kernel_rfl)
   have ro4_11 : ∀ (Xo4_7_1 : Value), RA f E B all 4 (bt 18 53247) ⟨83, [(0, .obj (bo 0) [I r.n.id, I r.n.term_, I r.n.vote, I r.n.role, I r.n.lead, .r (sl 1 cI r.n.conf), I r.n.log.start, I r.n.log.startTerm, .r (sl 3 Entry.c r.n.log.entries), I r.n.commit, I r.n.clock, I r.n.limit, .r (sl 1 cI r.n.votes), .r (sl 4 Peer.c r.n.peers), .w (sl 12 Message.c r.told) (g 0 14)]), (17, .pt 0 (bo 0) 0), (19, I p.id), (21, I r.n.log.start), (23, I r.n.log.startTerm), (24, .w (sl 1 cI ([] : List Int)) Xo4_7_1), (28, .pt 0 (bo 0) 5), (32, I p.sent)] ++ b0⟩ K := by
    intro Xo4_7_1
    refine RA.of2 hall hf hb (RA.stepH (L := [12]) (Tell.of rfl) (by kernel_rfl) (by simp) (RA.each ?_ (RA.each0)))
    ·skip
     refine RO.v rfl rfl (V.loadPrim (d := .r (sl 1 cI r.n.conf)) rfl rfl (.inr ⟨_, rfl⟩) rfl rfl rfl) rfl ?_
     exact RA.to2 hall hf hb (ro4_16 Xo4_7_1) rfl rfl (by kernel_rfl)
   have ro4_10 : ∀ (Xo4_7_1 : Value), RA f E B all 5 (bt 18 57263) ⟨83, [(0, .obj (bo 0) [I r.n.id, I r.n.term_, I r.n.vote, I r.n.role, I r.n.lead, .r (sl 1 cI r.n.conf), I r.n.log.start, I r.n.log.startTerm, .r (sl 3 Entry.c r.n.log.entries), I r.n.commit, I r.n.clock, I r.n.limit, .r (sl 1 cI r.n.votes), .r (sl 4 Peer.c r.n.peers), .w (sl 12 Message.c r.told) (g 0 14)]), (4, .obj b2 ((Log.c r.n.log).map .r)), (17, .pt 0 (bo 0) 0), (19, I p.id), (20, .pt 4 b2 0), (22, .pt 4 b2 1), (24, .w (sl 1 cI ([] : List Int)) Xo4_7_1), (29, .r (sl 1 cI r.n.conf)), (32, I p.sent)] ++ b0⟩ K := by
    intro Xo4_7_1
    refine RA.of2 hall hf hb (RA.stepH (L := [4, 6, 13]) (Tell.of rfl) (by kernel_rfl) (by simp) (RA.each ?_ (RA.each ?_ (RA.each ?_ (RA.each0)))))
    ·skip
     refine RO.v rfl rfl (V.loadPrim (d := I r.n.log.start) rfl rfl (.inl rfl) rfl rfl rfl) rfl ?_
     exact RA.to2 hall hf hb (ro4_13 Xo4_7_1) rfl rfl (by kernel_rfl)
    ·skip
     refine RO.v rfl rfl (V.loadPrim (d := I r.n.log.startTerm) rfl rfl (.inl rfl) rfl rfl rfl) rfl ?_
     exact RA.to2 hall hf hb (ro4_14 Xo4_7_1) rfl rfl (by kernel_rfl)
    ·skip
     refine RO.appendSR (c := cI) (l1 := ([] : List Int)) (l2 := r.n.conf) rfl rfl rfl rfl rfl rfl rfl rfl rfl rfl .r (by decide) (Nat.le_of_ble_eq_true rfl) cI.len (fun _ => rfl) rfl (by simp only [maxLen, List.length_append, List.length_nil, List.length_take, List.length_singleton]; omega) (by simp only [maxLen, List.length_append, List.length_nil, List.length_take, List.length_singleton]; omega) fun Xo4_13_1 => ?_
     exact RA.to2 hall hf hb (ro4_15 Xo4_13_1 Xo4_7_1) rfl rfl (by kernel_rfl)
   have ro4_9 : RA f E B all 5 (bt 18 57199) ⟨83, [(0, .obj (bo 0) [I r.n.id, I r.n.term_, I r.n.vote, I r.n.role, I r.n.lead, .r (sl 1 cI r.n.conf), I r.n.log.start, I r.n.log.startTerm, .r (sl 3 Entry.c r.n.log.entries), I r.n.commit, I r.n.clock, I r.n.limit, .r (sl 1 cI r.n.votes), .r (sl 4 Peer.c r.n.peers), .w (sl 12 Message.c r.told) (g 0 14)]), (4, .obj b2 ((Log.c r.n.log).map .r)), (17, .pt 0 (bo 0) 0), (19, I p.id), (20, .pt 4 b2 0), (23, I r.n.log.startTerm), (29, .r (sl 1 cI r.n.conf)), (32, I p.sent)] ++ b0⟩ K := by
    refine RA.of2 hall hf hb (RA.stepH (L := [4, 7]) (Tell.of rfl) (by kernel_rfl) (by simp) (RA.each ?_ (RA.each ?_ (RA.each0))))
    ·skip
     refine RO.v rfl rfl (V.loadPrim (d := I r.n.log.start) rfl rfl (.inl rfl) rfl rfl rfl) rfl ?_
     exact RA.to2 hall hf hb ro4_12 rfl rfl (by kernel_rfl)
    ·skip
     refine RO.build0 cI rfl rfl rfl rfl rfl rfl rfl fun Xo4_7_1 => ?_
     exact RA.to2 hall hf hb (ro4_14 Xo4_7_1) rfl rfl (by kernel_rfl)
   have ro4_8 : ∀ (Xo4_7_1 : Value), RA f E B all 5 (bt 18 53231) ⟨83, [(0, .obj (bo 0) [I r.n.id, I r.n.term_, I r.n.vote, I r.n.role, I r.n.lead, .r (sl 1 cI r.n.conf), I r.n.log.start, I r.n.log.startTerm, .r (sl 3 Entry.c r.n.log.entries), I r.n.commit, I r.n.clock, I r.n.limit, .r (sl 1 cI r.n.votes), .r (sl 4 Peer.c r.n.peers), .w (sl 12 Message.c r.told) (g 0 14)]), (4, .obj b2 ((Log.c r.n.log).map .r)), (17, .pt 0 (bo 0) 0), (19, I p.id), (20, .pt 4 b2 0), (23, I r.n.log.startTerm), (24, .w (sl 1 cI ([] : List Int)) Xo4_7_1), (28, .pt 0 (bo 0) 5), (32, I p.sent)] ++ b0⟩ K := by
    intro Xo4_7_1
    refine RA.of2 hall hf hb (RA.stepH (L := [4, 12]) (Tell.of rfl) (by kernel_rfl) (by simp) (RA.each ?_ (RA.each ?_ (RA.each0))))
    ·skip
     refine RO.v rfl rfl (V.loadPrim (d := I r.n.log.start) rfl rfl (.inl rfl) rfl rfl rfl) rfl ?_
     exact RA.to2 hall hf hb (ro4_11 Xo4_7_1) rfl rfl (by kernel_rfl)
    ·skip
     refine RO.v rfl rfl (V.loadPrim (d := .r (sl 1 cI r.n.conf)) rfl rfl (.inr ⟨_, rfl⟩) rfl rfl rfl) rfl ?_
     exact RA.to2 hall hf hb (ro4_14 Xo4_7_1) rfl rfl (by kernel_rfl)
   have ro4_7 : RA f E B all 5 (bt 18 57151) ⟨83, [(0, .obj (bo 0) [I r.n.id, I r.n.term_, I r.n.vote, I r.n.role, I r.n.lead, .r (sl 1 cI r.n.conf), I r.n.log.start, I r.n.log.startTerm, .r (sl 3 Entry.c r.n.log.entries), I r.n.commit, I r.n.clock, I r.n.limit, .r (sl 1 cI r.n.votes), .r (sl 4 Peer.c r.n.peers), .w (sl 12 Message.c r.told) (g 0 14)]), (4, .obj b2 ((Log.c r.n.log).map .r)), (17, .pt 0 (bo 0) 0), (19, I p.id), (21, I r.n.log.start), (22, .pt 4 b2 1), (29, .r (sl 1 cI r.n.conf)), (32, I p.sent)] ++ b0⟩ K := by
    refine RA.of2 hall hf hb (RA.stepH (L := [6, 7]) (Tell.of rfl) (by kernel_rfl) (by simp) (RA.each ?_ (RA.each ?_ (RA.each0))))
    ·skip
     refine RO.v rfl rfl (V.loadPrim (d := I r.n.log.startTerm) rfl rfl (.inl rfl) rfl rfl rfl) rfl ?_
     exact RA.to2 hall hf hb ro4_12 rfl rfl (by kernel_rfl)
    ·skip
     refine RO.build0 cI rfl rfl rfl rfl rfl rfl rfl fun Xo4_7_1 => ?_
     exact RA.to2 hall hf hb (ro4_13 Xo4_7_1) rfl rfl (by kernel_rfl)
   have ro4_6 : ∀ (Xo4_7_1 : Value), RA f E B all 5 (bt 18 53183) ⟨83, [(0, .obj (bo 0) [I r.n.id, I r.n.term_, I r.n.vote, I r.n.role, I r.n.lead, .r (sl 1 cI r.n.conf), I r.n.log.start, I r.n.log.startTerm, .r (sl 3 Entry.c r.n.log.entries), I r.n.commit, I r.n.clock, I r.n.limit, .r (sl 1 cI r.n.votes), .r (sl 4 Peer.c r.n.peers), .w (sl 12 Message.c r.told) (g 0 14)]), (4, .obj b2 ((Log.c r.n.log).map .r)), (17, .pt 0 (bo 0) 0), (19, I p.id), (21, I r.n.log.start), (22, .pt 4 b2 1), (24, .w (sl 1 cI ([] : List Int)) Xo4_7_1), (28, .pt 0 (bo 0) 5), (32, I p.sent)] ++ b0⟩ K := by
    intro Xo4_7_1
    refine RA.of2 hall hf hb (RA.stepH (L := [6, 12]) (Tell.of rfl) (by kernel_rfl) (by simp) (RA.each ?_ (RA.each ?_ (RA.each0))))
    ·skip
     refine RO.v rfl rfl (V.loadPrim (d := I r.n.log.startTerm) rfl rfl (.inl rfl) rfl rfl rfl) rfl ?_
     exact RA.to2 hall hf hb (ro4_11 Xo4_7_1) rfl rfl (by kernel_rfl)
    ·skip
     refine RO.v rfl rfl (V.loadPrim (d := .r (sl 1 cI r.n.conf)) rfl rfl (.inr ⟨_, rfl⟩) rfl rfl rfl) rfl ?_
     exact RA.to2 hall hf hb (ro4_13 Xo4_7_1) rfl rfl (by kernel_rfl)
   have ro4_5 : RA f E B all 5 (bt 18 53119) ⟨83, [(0, .obj (bo 0) [I r.n.id, I r.n.term_, I r.n.vote, I r.n.role, I r.n.lead, .r (sl 1 cI r.n.conf), I r.n.log.start, I r.n.log.startTerm, .r (sl 3 Entry.c r.n.log.entries), I r.n.commit, I r.n.clock, I r.n.limit, .r (sl 1 cI r.n.votes), .r (sl 4 Peer.c r.n.peers), .w (sl 12 Message.c r.told) (g 0 14)]), (17, .pt 0 (bo 0) 0), (19, I p.id), (21, I r.n.log.start), (23, I r.n.log.startTerm), (28, .pt 0 (bo 0) 5), (32, I p.sent)] ++ b0⟩ K := by
    refine RA.of2 hall hf hb (RA.stepH (L := [7, 12]) (Tell.of rfl) (by kernel_rfl) (by simp) (RA.each ?_ (RA.each ?_ (RA.each0))))
    ·skip
     refine RO.build0 cI rfl rfl rfl rfl rfl rfl rfl fun Xo4_7_1 => ?_
     exact RA.to2 hall hf hb (ro4_11 Xo4_7_1) rfl rfl (by kernel_rfl)
    ·skip
     refine RO.v rfl rfl (V.loadPrim (d := .r (sl 1 cI r.n.conf)) rfl rfl (.inr ⟨_, rfl⟩) rfl rfl rfl) rfl ?_
     exact RA.to2 hall hf hb ro4_12 rfl rfl (by kernel_rfl)
   have ro4_4 : RA f E B all 6 (bt 18 57135) ⟨83, [(0, .obj (bo 0) [I r.n.id, I r.n.term_, I r.n.vote, I r.n.role, I r.n.lead, .r (sl 1 cI r.n.conf), I r.n.log.start, I r.n.log.startTerm, .r (sl 3 Entry.c r.n.log.entries), I r.n.commit, I r.n.clock, I r.n.limit, .r (sl 1 cI r.n.votes), .r (sl 4 Peer.c r.n.peers), .w (sl 12 Message.c r.told) (g 0 14)]), (4, .obj b2 ((Log.c r.n.log).map .r)), (17, .pt 0 (bo 0) 0), (19, I p.id), (20, .pt 4 b2 0), (22, .pt 4 b2 1), (29, .r (sl 1 cI r.n.conf)), (32, I p.sent)] ++ b0⟩ K := by
    refine RA.of2 hall hf hb (RA.stepH (L := [4, 6, 7]) (Tell.of rfl) (by kernel_rfl) (by simp) (RA.each ?_ (RA.each ?_ (RA.each ?_ (RA.each0)))))
    ·skip
     refine RO.v rfl rfl (V.loadPrim (d := I r.n.log.start) rfl rfl (.inl rfl) rfl rfl rfl) rfl ?_
     exact RA.to2 hall hf hb ro4_7 rfl rfl (by kernel_rfl)
    ·skip
     refine RO.v rfl rfl (V.loadPrim (d := I r.n.log.startTerm) rfl rfl (.inl rfl) rfl rfl rfl) rfl ?_
     exact RA.to2 hall hf hb ro4_9 rfl rfl (by kernel_rfl)
    ·skip
     refine RO.build0 cI rfl rfl rfl rfl rfl rfl rfl fun Xo4_7_1 => ?_
     exact RA.to2 hall hf hb (ro4_10 Xo4_7_1) rfl rfl (by kernel_rfl)
   have ro4_3 : ∀ (Xo4_7_1 : Value), RA f E B all 6 (bt 18 53167) ⟨83, [(0, .obj (bo 0) [I r.n.id, I r.n.term_, I r.n.vote, I r.n.role, I r.n.lead, .r (sl 1 cI r.n.conf), I r.n.log.start, I r.n.log.startTerm, .r (sl 3 Entry.c r.n.log.entries), I r.n.commit, I r.n.clock, I r.n.limit, .r (sl 1 cI r.n.votes), .r (sl 4 Peer.c r.n.peers), .w (sl 12 Message.c r.told) (g 0 14)]), (4, .obj b2 ((Log.c r.n.log).map .r)), (17, .pt 0 (bo 0) 0), (19, I p.id), (20, .pt 4 b2 0), (22, .pt 4 b2 1), (24, .w (sl 1 cI ([] : List Int)) Xo4_7_1), (28, .pt 0 (bo 0) 5), (32, I p.sent)] ++ b0⟩ K := by
    intro Xo4_7_1
    refine RA.of2 hall hf hb (RA.stepH (L := [4, 6, 12]) (Tell.of rfl) (by kernel_rfl) (by simp) (RA.each ?_ (RA.each ?_ (RA.each ?_ (RA.each0)))))
    ·skip
     refine RO.v rfl rfl (V.loadPrim (d := I r.n.log.start) rfl rfl (.inl rfl) rfl rfl rfl) rfl ?_
     exact RA.to2 hall hf hb (ro4_6 Xo4_7_1) rfl rfl (by kernel_rfl)
    ·skip
     refine RO.v rfl rfl (V.loadPrim (d := I r.n.log.startTerm) rfl rfl (.inl rfl) rfl rfl rfl) rfl ?_
     exact RA.to2 hall hf hb (ro4_8 Xo4_7_1) rfl rfl (by kernel_rfl)
    ·skip
     refine RO.v rfl rfl (V.loadPrim (d := .r (sl 1 cI r.n.conf)) rfl rfl (.inr ⟨_, rfl⟩) rfl rfl rfl) rfl ?_
     exact RA.to2 hall hf hb (ro4_10 Xo4_7_1) rfl rfl (by kernel_rfl)
   have ro4_2 : RA f E B all 6 (bt 18 53103) ⟨83, [(0, .obj (bo 0) [I r.n.id, I r.n.term_, I r.n.vote, I r.n.role, I r.n.lead, .r (sl 1 cI r.n.conf), I r.n.log.start, I r.n.log.startTerm, .r (sl 3 Entry.c r.n.log.entries), I r.n.commit, I r.n.clock, I r.n.limit, .r (sl 1 cI r.n.votes), .r (sl 4 Peer.c r.n.peers), .w (sl 12 Message.c r.told) (g 0 14)]), (4, .obj b2 ((Log.c r.n.log).map .r)), (17, .pt 0 (bo 0) 0), (19, I p.id), (20, .pt 4 b2 0), (23, I r.n.log.startTerm), (28, .pt 0 (bo 0) 5), (32, I p.sent)] ++ b0⟩ K := by
    refine RA.of2 hall hf hb (RA.stepH (L := [4, 7, 12]) (Tell.of rfl) (by kernel_rfl) (by simp) (RA.each ?_ (RA.each ?_ (RA.each ?_ (RA.each0)))))
    ·skip
     refine RO.v rfl rfl (V.loadPrim (d := I r.n.log.start) rfl rfl (.inl rfl) rfl rfl rfl) rfl ?_
     exact RA.to2 hall hf hb ro4_5 rfl rfl (by kernel_rfl)
    ·skip
     refine RO.build0 cI rfl rfl rfl rfl rfl rfl rfl fun Xo4_7_1 => ?_
     exact RA.to2 hall hf hb (ro4_8 Xo4_7_1) rfl rfl (by kernel_rfl)
    ·skip
     refine RO.v rfl rfl (V.loadPrim (d := .r (sl 1 cI r.n.conf)) rfl rfl (.inr ⟨_, rfl⟩) rfl rfl rfl) rfl ?_
     exact RA.to2 hall hf hb ro4_9 rfl rfl (by kernel_rfl)
   have ro4_1 : RA f E B all 6 (bt 18 53055) ⟨83, [(0, .obj (bo 0) [I r.n.id, I r.n.term_, I r.n.vote, I r.n.role, I r.n.lead, .r (sl 1 cI r.n.conf), I r.n.log.start, I r.n.log.startTerm, .r (sl 3 Entry.c r.n.log.entries), I r.n.commit, I r.n.clock, I r.n.limit, .r (sl 1 cI r.n.votes), .r (sl 4 Peer.c r.n.peers), .w (sl 12 Message.c r.told) (g 0 14)]), (4, .obj b2 ((Log.c r.n.log).map .r)), (17, .pt 0 (bo 0) 0), (19, I p.id), (21, I r.n.log.start), (22, .pt 4 b2 1), (28, .pt 0 (bo 0) 5), (32, I p.sent)] ++ b0⟩ K := by
    refine RA.of2 hall hf hb (RA.stepH (L := [6, 7, 12]) (Tell.of rfl) (by kernel_rfl) (by simp) (RA.each ?_ (RA.each ?_ (RA.each ?_ (RA.each0)))))
    ·skip
     refine RO.v rfl rfl (V.loadPrim (d := I r.n.log.startTerm) rfl rfl (.inl rfl) rfl rfl rfl) rfl ?_
     exact RA.to2 hall hf hb ro4_5 rfl rfl (by kernel_rfl)
    ·skip
     refine RO.build0 cI rfl rfl rfl rfl rfl rfl rfl fun Xo4_7_1 => ?_
     exact RA.to2 hall hf hb (ro4_6 Xo4_7_1) rfl rfl (by kernel_rfl)
    ·skip
     refine RO.v rfl rfl (V.loadPrim (d := .r (sl 1 cI r.n.conf)) rfl rfl (.inr ⟨_, rfl⟩) rfl rfl rfl) rfl ?_
     exact RA.to2 hall hf hb ro4_7 rfl rfl (by kernel_rfl)
   have ro4_0 : RA f E B all 7 (bt 18 53039) ⟨83, [(0, .obj (bo 0) [I r.n.id, I r.n.term_, I r.n.vote, I r.n.role, I r.n.lead, .r (sl 1 cI r.n.conf), I r.n.log.start, I r.n.log.startTerm, .r (sl 3 Entry.c r.n.log.entries), I r.n.commit, I r.n.clock, I r.n.limit, .r (sl 1 cI r.n.votes), .r (sl 4 Peer.c r.n.peers), .w (sl 12 Message.c r.told) (g 0 14)]), (4, .obj b2 ((Log.c r.n.log).map .r)), (17, .pt 0 (bo 0) 0), (19, I p.id), (20, .pt 4 b2 0), (22, .pt 4 b2 1), (28, .pt 0 (bo 0) 5), (32, I p.sent)] ++ b0⟩ K := by
    refine RA.of2 hall hf hb (RA.stepH (L := [4, 6, 7, 12]) (Tell.of rfl) (by kernel_rfl) (by simp) (RA.each ?_ (RA.each ?_ (RA.each ?_ (RA.each ?_ (RA.each0))))))
    ·skip
     refine RO.v rfl rfl (V.loadPrim (d := I r.n.log.start) rfl rfl (.inl rfl) rfl rfl rfl) rfl ?_
     exact RA.to2 hall hf hb ro4_1 rfl rfl (by kernel_rfl)
    ·skip
     refine RO.v rfl rfl (V.loadPrim (d := I r.n.log.startTerm) rfl rfl (.inl rfl) rfl rfl rfl) rfl ?_
     exact RA.to2 hall hf hb ro4_2 rfl rfl (by kernel_rfl)
    ·skip
     refine RO.build0 cI rfl rfl rfl rfl rfl rfl rfl fun Xo4_7_1 => ?_
     exact RA.to2 hall hf hb (ro4_3 Xo4_7_1) rfl rfl (by kernel_rfl)
    ·skip
     refine RO.v rfl rfl (V.loadPrim (d := .r (sl 1 cI r.n.conf)) rfl rfl (.inr ⟨_, rfl⟩) rfl rfl rfl) rfl ?_
     exact RA.to2 hall hf hb ro4_4 rfl rfl (by kernel_rfl)
   refine RA.start (by kernel_rfl) (by kernel_rfl) (m := 18) (ls' := (bt 18 0)) ?_
   refine RA.fs XK 83 7 [0,1,2,3,5,8,9,10,11,14,15] (bt 18 53039) rfl rfl (by kernel_rfl) (Tell.of rfl) ?_
   (conv=>whnf);refine ⟨rfl,?_⟩
   exact RA.to2 hall hf hb ro4_0 rfl rfl (by kernel_rfl)
  ·rintro ⟨Xo4_13_1, Xo4_7_1, qo4_17_1⟩
   refine CW.ret ?_
   exact Post.tup (by decide) RVs.e (AOs.obE (f := fun e => l18Run.m e) (e' := (⟨r.n, r.told ++ [tellM r.n (⟨5, 0, p.id, 0, r.n.log.start, r.n.log.startTerm, p.sent, false, [], (([] : List Int) ++ r.n.conf), ⟨#[]⟩, false⟩ : Message)]⟩ : l18Run)) rfl (DT.r (DT.r (DT.r (DT.r (DT.r (DT.r (DT.r (DT.r (DT.r (DT.r (DT.r (DT.r (DT.r (DT.r (DT.w DT.e))))))))))))))) (by rw [List.nil_append, send_low h3]) (AOs.a rfl AOs.e))
 ·skip
  have hk0 := send_k0 hl hp h3
  refine CW.skip ?_
  refine CW.keep 83 [0,3,4] rfl ?_;(conv=>whnf);refine ⟨?_⟩
  refine CW.anyJ2 (fc := [(3, b1, [.int .i64 p.id, .int .i64 p.next, .int .i64 p.match_, .int .i64 p.sent])]) (L0 := [(0, .obj (bo 0) [I r.n.id, I r.n.term_, I r.n.vote, I r.n.role, I r.n.lead, .r (sl 1 cI r.n.conf), I r.n.log.start, I r.n.log.startTerm, .r (sl 3 Entry.c r.n.log.entries), I r.n.commit, I r.n.clock, I r.n.limit, .r (sl 1 cI r.n.votes), .r (sl 4 Peer.c r.n.peers), .w (sl 12 Message.c r.told) (g 0 14)]), (3, .obj b1 ((Peer.c p).map .r)), (4, .obj b2 ((Log.c r.n.log).map .r))]) 83 (fun (zz : Nat × (Nat → Nat → Value)) => match zz with | (bo5_16_1, go5_9_1) => [(5, .obj bo5_16_1 [I 3, I 0, I p.id, I 0, I (IntKind.i64.wrap (p.next - 1)), I (logTerm r.n.log (IntKind.i64.wrap (p.next - 1))), I r.n.commit, Bo false, .r (.v (.slice none 0 0)), .r (.v (.slice none 0 0)), S (⟨#[]⟩), Bo false])]) (fun all hall f hf b0 hb K hK => ?_) ?_
  ·skip
   have ro5_12 : ∀ (bo5_16_1 : Nat), ∀ (go5_9_1 : Nat → Nat → Value), RA f E B all 0 (bt 18 262143) ⟨83, [(5, .obj bo5_16_1 [I 3, I 0, I p.id, I 0, I (IntKind.i64.wrap (p.next - 1)), I (logTerm r.n.log (IntKind.i64.wrap (p.next - 1))), I r.n.commit, Bo false, .r (.v (.slice none 0 0)), .r (.v (.slice none 0 0)), S (⟨#[]⟩), Bo false])] ++ b0⟩ K := by
    intro bo5_16_1 go5_9_1
    exact RA.of2 hall hf hb (RA.finH (Tell.of rfl) (by kernel_rfl) (hK (bo5_16_1, go5_9_1) _ rfl (Le.of rfl)))
   have ro5_11 : ∀ (bo5_16_1 : Nat), ∀ (go5_9_1 : Nat → Nat → Value), RA f E B all 1 (bt 18 131071) ⟨83, [(5, .obj bo5_16_1 [I 0, I 0, I 0, I 0, I 0, I 0, I 0, Bo false, .r (.v (.slice none 0 0)), .r (.v (.slice none 0 0)), S (⟨#[]⟩), Bo false]), (50, .agg [I 3, I 0, I p.id, I 0, I (IntKind.i64.wrap (p.next - 1)), I (logTerm r.n.log (IntKind.i64.wrap (p.next - 1))), I r.n.commit, Bo false, .r (.v (.slice none 0 0)), .r (.v (.slice none 0 0)), S (⟨#[]⟩), Bo false])] ++ b0⟩ K := by
    intro bo5_16_1 go5_9_1
    refine RA.of2 hall hf hb (RA.stepH (L := [17]) (Tell.of rfl) (by kernel_rfl) (by simp) (RA.each ?_ (RA.each0)))
    ·skip
     refine RO.storeAgg (es := [I 3, I 0, I p.id, I 0, I (IntKind.i64.wrap (p.next - 1)), I (logTerm r.n.log (IntKind.i64.wrap (p.next - 1))), I r.n.commit, Bo false, .r (.v (.slice none 0 0)), .r (.v (.slice none 0 0)), S (⟨#[]⟩), Bo false]) rfl rfl rfl rfl rfl rfl rfl rfl rfl rfl (Nat.le_of_ble_eq_true rfl) rfl ?_
     exact RA.to2 hall hf hb (ro5_12 bo5_16_1 go5_9_1) rfl rfl (by kernel_rfl)
   have ro5_10 : ∀ (go5_9_1 : Nat → Nat → Value), RA f E B all 2 (bt 18 65535) ⟨83, [(50, .agg [I 3, I 0, I p.id, I 0, I (IntKind.i64.wrap (p.next - 1)), I (logTerm r.n.log (IntKind.i64.wrap (p.next - 1))), I r.n.commit, Bo false, .r (.v (.slice none 0 0)), .r (.v (.slice none 0 0)), S (⟨#[]⟩), Bo false])] ++ b0⟩ K := by
    intro go5_9_1
    refine RA.of2 hall hf hb (RA.stepH (L := [16]) (Tell.of rfl) (by kernel_rfl) (by simp) (RA.each ?_ (RA.each0)))
    ·skip
     refine RO.alloc (ds := [I 0, I 0, I 0, I 0, I 0, I 0, I 0, Bo false, .r (.v (.slice none 0 0)), .r (.v (.slice none 0 0)), S (⟨#[]⟩), Bo false]) rfl rfl rfl rfl rfl rfl fun bo5_16_1 => ?_
     exact RA.to2 hall hf hb (ro5_11 bo5_16_1 go5_9_1) rfl rfl (by kernel_rfl)
   have ro5_9 : ∀ (bo5_16_1 : Nat), RA f E B all 3 (bt 18 97791) ⟨83, [(5, .obj bo5_16_1 [I 0, I 0, I 0, I 0, I 0, I 0, I 0, Bo false, .r (.v (.slice none 0 0)), .r (.v (.slice none 0 0)), S (⟨#[]⟩), Bo false]), (36, I p.id), (39, I (IntKind.i64.wrap (p.next - 1))), (40, .agg ((Log.c r.n.log).map .r)), (43, I (IntKind.i64.wrap (p.next - 1))), (49, I r.n.commit)] ++ b0⟩ K := by
    intro bo5_16_1
    refine RA.of2 hall hf hb (RA.stepH (L := [9]) (Tell.of rfl) (by kernel_rfl) (by simp) (RA.each ?_ (RA.each0)))
    ·skip
     refine RO.call rfl rfl (spec_LogTerm_fn r.n.log (IntKind.i64.wrap (p.next - 1)) hl (wrap_le _)) rfl (.cons (.agg (.cons (.r .r) (.cons (.r .r) (.cons (.r .r) (.nil))))) (.cons (.one (.r .r)) (.nil))) rfl fun go5_9_1 => ?_
     refine RA.fs XK 83 1 [15] (bt 18 131071) rfl rfl (by kernel_rfl) (Tell.of rfl) ?_
     (conv=>whnf);refine ⟨rfl,?_⟩
     exact RA.to2 hall hf hb (ro5_11 bo5_16_1 go5_9_1) rfl rfl (by kernel_rfl)
   have ro5_8 : ∀ (bo5_16_1 : Nat), ∀ (go5_9_1 : Nat → Nat → Value), RA f E B all 3 (bt 18 81919) ⟨83, [(5, .obj bo5_16_1 [I 0, I 0, I 0, I 0, I 0, I 0, I 0, Bo false, .r (.v (.slice none 0 0)), .r (.v (.slice none 0 0)), S (⟨#[]⟩), Bo false]), (36, I p.id), (39, I (IntKind.i64.wrap (p.next - 1))), (44, I (logTerm r.n.log (IntKind.i64.wrap (p.next - 1)))), (48, .pt 0 (bo 0) 9)] ++ b0⟩ K := by
    intro bo5_16_1 go5_9_1
    refine RA.of2 hall hf hb (RA.stepH (L := [14]) (Tell.of rfl) (by kernel_rfl) (by simp) (RA.each ?_ (RA.each0)))
    ·skip
     refine RO.v rfl rfl (V.loadPrim (d := I r.n.commit) rfl rfl (.inl rfl) rfl rfl rfl) rfl ?_
     refine RA.fs XK 83 1 [15] (bt 18 131071) rfl rfl (by kernel_rfl) (Tell.of rfl) ?_
     (conv=>whnf);refine ⟨rfl,?_⟩
     exact RA.to2 hall hf hb (ro5_11 bo5_16_1 go5_9_1) rfl rfl (by kernel_rfl)
   have ro5_7 : ∀ (bo5_16_1 : Nat), RA f E B all 4 (bt 18 97759) ⟨83, [(5, .obj bo5_16_1 [I 0, I 0, I 0, I 0, I 0, I 0, I 0, Bo false, .r (.v (.slice none 0 0)), .r (.v (.slice none 0 0)), S (⟨#[]⟩), Bo false]), (36, I p.id), (39, I (IntKind.i64.wrap (p.next - 1))), (43, I (IntKind.i64.wrap (p.next - 1))), (49, I r.n.commit)] ++ b0⟩ K := by
    intro bo5_16_1
    refine RA.of2 hall hf hb (RA.stepH (L := [5]) (Tell.of rfl) (by kernel_rfl) (by simp) (RA.each ?_ (RA.each0)))
    ·skip
     refine RO.v rfl rfl (V.loadAgg rfl rfl rfl rfl rfl (Nat.le_of_ble_eq_true rfl)) rfl ?_
     exact RA.to2 hall hf hb (ro5_9 bo5_16_1) rfl rfl (by kernel_rfl)
   have ro5_6 : ∀ (bo5_16_1 : Nat), RA f E B all 4 (bt 18 81407) ⟨83, [(5, .obj bo5_16_1 [I 0, I 0, I 0, I 0, I 0, I 0, I 0, Bo false, .r (.v (.slice none 0 0)), .r (.v (.slice none 0 0)), S (⟨#[]⟩), Bo false]), (36, I p.id), (39, I (IntKind.i64.wrap (p.next - 1))), (40, .agg ((Log.c r.n.log).map .r)), (43, I (IntKind.i64.wrap (p.next - 1))), (48, .pt 0 (bo 0) 9)] ++ b0⟩ K := by
    intro bo5_16_1
    refine RA.of2 hall hf hb (RA.stepH (L := [9, 14]) (Tell.of rfl) (by kernel_rfl) (by simp) (RA.each ?_ (RA.each ?_ (RA.each0))))
    ·skip
     refine RO.call rfl rfl (spec_LogTerm_fn r.n.log (IntKind.i64.wrap (p.next - 1)) hl (wrap_le _)) rfl (.cons (.agg (.cons (.r .r) (.cons (.r .r) (.cons (.r .r) (.nil))))) (.cons (.one (.r .r)) (.nil))) rfl fun go5_9_1 => ?_
     exact RA.to2 hall hf hb (ro5_8 bo5_16_1 go5_9_1) rfl rfl (by kernel_rfl)
    ·skip
     refine RO.v rfl rfl (V.loadPrim (d := I r.n.commit) rfl rfl (.inl rfl) rfl rfl rfl) rfl ?_
     exact RA.to2 hall hf hb (ro5_9 bo5_16_1) rfl rfl (by kernel_rfl)
   have ro5_5 : RA f E B all 4 (bt 18 32255) ⟨83, [(36, I p.id), (39, I (IntKind.i64.wrap (p.next - 1))), (40, .agg ((Log.c r.n.log).map .r)), (43, I (IntKind.i64.wrap (p.next - 1))), (49, I r.n.commit)] ++ b0⟩ K := by
    refine RA.of2 hall hf hb (RA.stepH (L := [9, 16]) (Tell.of rfl) (by kernel_rfl) (by simp) (RA.each ?_ (RA.each ?_ (RA.each0))))
    ·skip
     refine RO.call rfl rfl (spec_LogTerm_fn r.n.log (IntKind.i64.wrap (p.next - 1)) hl (wrap_le _)) rfl (.cons (.agg (.cons (.r .r) (.cons (.r .r) (.cons (.r .r) (.nil))))) (.cons (.one (.r .r)) (.nil))) rfl fun go5_9_1 => ?_
     refine RA.fs XK 83 2 [15] (bt 18 65535) rfl rfl (by kernel_rfl) (Tell.of rfl) ?_
     (conv=>whnf);refine ⟨rfl,?_⟩
     exact RA.to2 hall hf hb (ro5_10 go5_9_1) rfl rfl (by kernel_rfl)
    ·skip
     refine RO.alloc (ds := [I 0, I 0, I 0, I 0, I 0, I 0, I 0, Bo false, .r (.v (.slice none 0 0)), .r (.v (.slice none 0 0)), S (⟨#[]⟩), Bo false]) rfl rfl rfl rfl rfl rfl fun bo5_16_1 => ?_
     exact RA.to2 hall hf hb (ro5_9 bo5_16_1) rfl rfl (by kernel_rfl)
   have ro5_4 : ∀ (go5_9_1 : Nat → Nat → Value), RA f E B all 4 (bt 18 16383) ⟨83, [(36, I p.id), (39, I (IntKind.i64.wrap (p.next - 1))), (44, I (logTerm r.n.log (IntKind.i64.wrap (p.next - 1)))), (48, .pt 0 (bo 0) 9)] ++ b0⟩ K := by
    intro go5_9_1
    refine RA.of2 hall hf hb (RA.stepH (L := [14, 16]) (Tell.of rfl) (by kernel_rfl) (by simp) (RA.each ?_ (RA.each ?_ (RA.each0))))
    ·skip
     refine RO.v rfl rfl (V.loadPrim (d := I r.n.commit) rfl rfl (.inl rfl) rfl rfl rfl) rfl ?_
     refine RA.fs XK 83 2 [15] (bt 18 65535) rfl rfl (by kernel_rfl) (Tell.of rfl) ?_
     (conv=>whnf);refine ⟨rfl,?_⟩
     exact RA.to2 hall hf hb (ro5_10 go5_9_1) rfl rfl (by kernel_rfl)
    ·skip
     refine RO.alloc (ds := [I 0, I 0, I 0, I 0, I 0, I 0, I 0, Bo false, .r (.v (.slice none 0 0)), .r (.v (.slice none 0 0)), S (⟨#[]⟩), Bo false]) rfl rfl rfl rfl rfl rfl fun bo5_16_1 => ?_
     exact RA.to2 hall hf hb (ro5_8 bo5_16_1 go5_9_1) rfl rfl (by kernel_rfl)
   have ro5_3 : ∀ (bo5_16_1 : Nat), RA f E B all 5 (bt 18 81375) ⟨83, [(5, .obj bo5_16_1 [I 0, I 0, I 0, I 0, I 0, I 0, I 0, Bo false, .r (.v (.slice none 0 0)), .r (.v (.slice none 0 0)), S (⟨#[]⟩), Bo false]), (36, I p.id), (39, I (IntKind.i64.wrap (p.next - 1))), (43, I (IntKind.i64.wrap (p.next - 1))), (48, .pt 0 (bo 0) 9)] ++ b0⟩ K := by
    intro bo5_16_1
    refine RA.of2 hall hf hb (RA.stepH (L := [5, 14]) (Tell.of rfl) (by kernel_rfl) (by simp) (RA.each ?_ (RA.each ?_ (RA.each0))))
    ·skip
     refine RO.v rfl rfl (V.loadAgg rfl rfl rfl rfl rfl (Nat.le_of_ble_eq_true rfl)) rfl ?_
     exact RA.to2 hall hf hb (ro5_6 bo5_16_1) rfl rfl (by kernel_rfl)
    ·skip
     refine RO.v rfl rfl (V.loadPrim (d := I r.n.commit) rfl rfl (.inl rfl) rfl rfl rfl) rfl ?_
     exact RA.to2 hall hf hb (ro5_7 bo5_16_1) rfl rfl (by kernel_rfl)
   have ro5_2 : RA f E B all 5 (bt 18 32223) ⟨83, [(36, I p.id), (39, I (IntKind.i64.wrap (p.next - 1))), (43, I (IntKind.i64.wrap (p.next - 1))), (49, I r.n.commit)] ++ b0⟩ K := by
    refine RA.of2 hall hf hb (RA.stepH (L := [5, 16]) (Tell.of rfl) (by kernel_rfl) (by simp) (RA.each ?_ (RA.each ?_ (RA.each0))))
    ·skip
     refine RO.v rfl rfl (V.loadAgg rfl rfl rfl rfl rfl (Nat.le_of_ble_eq_true rfl)) rfl ?_
     exact RA.to2 hall hf hb ro5_5 rfl rfl (by kernel_rfl)
    ·skip
     refine RO.alloc (ds := [I 0, I 0, I 0, I 0, I 0, I 0, I 0, Bo false, .r (.v (.slice none 0 0)), .r (.v (.slice none 0 0)), S (⟨#[]⟩), Bo false]) rfl rfl rfl rfl rfl rfl fun bo5_16_1 => ?_
     exact RA.to2 hall hf hb (ro5_7 bo5_16_1) rfl rfl (by kernel_rfl)
   have ro5_1 : RA f E B all 5 (bt 18 15871) ⟨83, [(36, I p.id), (39, I (IntKind.i64.wrap (p.next - 1))), (40, .agg ((Log.c r.n.log).map .r)), (43, I (IntKind.i64.wrap (p.next - 1))), (48, .pt 0 (bo 0) 9)] ++ b0⟩ K := by
    refine RA.of2 hall hf hb (RA.stepH (L := [9, 14, 16]) (Tell.of rfl) (by kernel_rfl) (by simp) (RA.each ?_ (RA.each ?_ (RA.each ?_ (RA.each0)))))
    ·skip
     refine RO.call rfl rfl (spec_LogTerm_fn r.n.log (IntKind.i64.wrap (p.next - 1)) hl (wrap_le _)) rfl (.cons (.agg (.cons (.r .r) (.cons (.r .r) (.cons (.r .r) (.nil))))) (.cons (.one (.r .r)) (.nil))) rfl fun go5_9_1 => ?_
     exact RA.to2 hall hf hb (ro5_4 go5_9_1) rfl rfl (by kernel_rfl)
    ·skip
     refine RO.v rfl rfl (V.loadPrim (d := I r.n.commit) rfl rfl (.inl rfl) rfl rfl rfl) rfl ?_
     exact RA.to2 hall hf hb ro5_5 rfl rfl (by kernel_rfl)
    ·skip
     refine RO.alloc (ds := [I 0, I 0, I 0, I 0, I 0, I 0, I 0, Bo false, .r (.v (.slice none 0 0)), .r (.v (.slice none 0 0)), S (⟨#[]⟩), Bo false]) rfl rfl rfl rfl rfl rfl fun bo5_16_1 => ?_
     exact RA.to2 hall hf hb (ro5_6 bo5_16_1) rfl rfl (by kernel_rfl)
   have ro5_0 : RA f E B all 6 (bt 18 15839) ⟨83, [(36, I p.id), (39, I (IntKind.i64.wrap (p.next - 1))), (43, I (IntKind.i64.wrap (p.next - 1))), (48, .pt 0 (bo 0) 9)] ++ b0⟩ K := by
    refine RA.of2 hall hf hb (RA.stepH (L := [5, 14, 16]) (Tell.of rfl) (by kernel_rfl) (by simp) (RA.each ?_ (RA.each ?_ (RA.each ?_ (RA.each0)))))
    ·skip
     refine RO.v rfl rfl (V.loadAgg rfl rfl rfl rfl rfl (Nat.le_of_ble_eq_true rfl)) rfl ?_
     exact RA.to2 hall hf hb ro5_1 rfl rfl (by kernel_rfl)
    ·skip
     refine RO.v rfl rfl (V.loadPrim (d := I r.n.commit) rfl rfl (.inl rfl) rfl rfl rfl) rfl ?_
     exact RA.to2 hall hf hb ro5_2 rfl rfl (by kernel_rfl)
    ·skip
     refine RO.alloc (ds := [I 0, I 0, I 0, I 0, I 0, I 0, I 0, Bo false, .r (.v (.slice none 0 0)), .r (.v (.slice none 0 0)), S (⟨#[]⟩), Bo false]) rfl rfl rfl rfl rfl rfl fun bo5_16_1 => ?_
     exact RA.to2 hall hf hb (ro5_3 bo5_16_1) rfl rfl (by kernel_rfl)
   refine RA.start (by kernel_rfl) (by kernel_rfl) (m := 18) (ls' := (bt 18 0)) ?_
   refine RA.fs XK 83 6 [0,1,2,3,4,6,7,8,10,11,12,13] (bt 18 15839) rfl rfl (by kernel_rfl) (Tell.of rfl) ?_
   (conv=>whnf);refine ⟨rfl,?_⟩
   exact RA.to2 hall hf hb ro5_0 rfl rfl (by kernel_rfl)
  ·rintro ⟨bo5_16_1, go5_9_1⟩
   refine CW.seq ?_
   refine CW.k XK 83 1 [0,4,5,6] rfl ?_
   (conv=>whnf);refine ⟨rfl,?_⟩
   refine CW.block ?_
   refine CW.nilCell 5 8 3 Entry.c rfl rfl ?_
   refine CW.loopI 83 (fun (zz : Nat × Value) => match zz with | (k, X) => [(0, .obj (bo 0) [I r.n.id, I r.n.term_, I r.n.vote, I r.n.role, I r.n.lead, .r (sl 1 cI r.n.conf), I r.n.log.start, I r.n.log.startTerm, .r (sl 3 Entry.c r.n.log.entries), I r.n.commit, I r.n.clock, I r.n.limit, .r (sl 1 cI r.n.votes), .r (sl 4 Peer.c r.n.peers), .w (sl 12 Message.c r.told) (g 0 14)]), (4, .obj b2 ((Log.c r.n.log).map .r)), (5, .obj bo5_16_1 [I 3, I 0, I p.id, I 0, I (IntKind.i64.wrap (p.next - 1)), I (logTerm r.n.log (IntKind.i64.wrap (p.next - 1))), I r.n.commit, Bo false, .w (sl 3 Entry.c ((sendL r.n p).take (k - sendK r.n p))) X, .r (.v (.slice none 0 0)), S (⟨#[]⟩), Bo false]), (6, I (k : Int))]) (fun (zz : Nat × Value) => match zz with | (k, X) => sendK r.n p ≤ k ∧ k ≤ r.n.log.entries.length ∧ k ≤ sendK r.n p + 4) (fun (zz : Nat × Value) => match zz with | (k, X) => r.n.log.entries.length - k) (sendK r.n p, _) rfl (Le.c rfl <| Le.c rfl <| Le.c (congrArg (fun l_ => D.obj bo5_16_1 [I 3, I 0, I p.id, I 0, I (IntKind.i64.wrap (p.next - 1)), I (logTerm r.n.log (IntKind.i64.wrap (p.next - 1))), I r.n.commit, Bo false, .w (sl 3 Entry.c l_) (.slice none 0 0), .r (.v (.slice none 0 0)), S (⟨#[]⟩), Bo false]) (by rw [Nat.sub_self]; rfl)) <| Le.c (congrArg I hk0.1) <| Le.e) ⟨by omega, by omega, by omega⟩ ?_
   rintro ⟨k, X⟩ ⟨hb0, hb, hj4⟩
   refine CW.seq ?_
   refine CW.seqJ 83 (fun (v6 : Bool) => [(0, .obj (bo 0) [I r.n.id, I r.n.term_, I r.n.vote, I r.n.role, I r.n.lead, .r (sl 1 cI r.n.conf), I r.n.log.start, I r.n.log.startTerm, .r (sl 3 Entry.c r.n.log.entries), I r.n.commit, I r.n.clock, I r.n.limit, .r (sl 1 cI r.n.votes), .r (sl 4 Peer.c r.n.peers), .w (sl 12 Message.c r.told) (g 0 14)]), (4, .obj b2 ((Log.c r.n.log).map .r)), (5, .obj bo5_16_1 [I 3, I 0, I p.id, I 0, I (IntKind.i64.wrap (p.next - 1)), I (logTerm r.n.log (IntKind.i64.wrap (p.next - 1))), I r.n.commit, Bo false, .w (sl 3 Entry.c ((sendL r.n p).take (k - sendK r.n p))) X, .r (.v (.slice none 0 0)), S (⟨#[]⟩), Bo false]), (6, I (k : Int)), (67, Bo v6)]) (fun v6 => v6 = (decide ((k : Int) < (r.n.log.entries.length : Int)) && decide ((((sendL r.n p).take (k - sendK r.n p)).length : Int) < 4))) ?_ ?_
   ·refine CW.region ?_
    refine RW.k XK 83 6 rfl ?_
    (conv=>whnf);refine ⟨rfl,?_⟩
    refine RW.gv rfl rfl rfl rfl (fun h7 => V.field rfl rfl rfl rfl (by decide) rfl) (fun h7 => ?_) (fun h7 => ?_)
    ·skip
     refine RW.k XK 83 4 rfl ?_
     (conv=>whnf);refine ⟨rfl,?_⟩
     refine RW.nil ?_
     exact ⟨_, by first | rfl | (simp_all; done) | (simp_all; omega) | grind, rfl, Le.of rfl⟩
    ·skip
     refine RW.k XK 83 4 rfl ?_
     (conv=>whnf);refine ⟨rfl,?_⟩
     refine RW.nil ?_
     exact ⟨_, by first | rfl | (simp_all; done) | (simp_all; omega) | grind, rfl, Le.of rfl⟩
   ·intro v6 hv8
    refine CW.cond rfl (fun h9 => ?_) (fun h9 => ?_)
    ·skip
     have hll : ((sendL r.n p).take (k - sendK r.n p)).length = k - sendK r.n p := by rw [List.length_take]; omega
     have hjj := hv8.symm.trans h9
     rw [hll] at hjj
     obtain ⟨ek, hek⟩ : ∃ e, r.n.log.entries[k]? = some e := ⟨_, List.getElem?_eq_getElem (by simp at hjj; omega)⟩
     have hkl : k < r.n.log.entries.length ∧ k - sendK r.n p < 4 := by simp at hjj; omega
     refine CW.skip ?_
     refine CW.keep 83 [0,4,5,6] rfl ?_;(conv=>whnf);refine ⟨?_⟩
     refine CW.seq ?_
     refine CW.block ?_
     refine CW.anyR2 (fc := []) (L0 := [(0, .obj (bo 0) [I r.n.id, I r.n.term_, I r.n.vote, I r.n.role, I r.n.lead, .r (sl 1 cI r.n.conf), I r.n.log.start, I r.n.log.startTerm, .r (sl 3 Entry.c r.n.log.entries), I r.n.commit, I r.n.clock, I r.n.limit, .r (sl 1 cI r.n.votes), .r (sl 4 Peer.c r.n.peers), .w (sl 12 Message.c r.told) (g 0 14)]), (4, .obj b2 ((Log.c r.n.log).map .r)), (6, I (k : Int))]) 83 (fun (zz : Value × Value) => match zz with | (Xo10_7_1, Xo10_8_1) => [(5, .obj bo5_16_1 [I 3, I 0, I p.id, I 0, I (IntKind.i64.wrap (p.next - 1)), I (logTerm r.n.log (IntKind.i64.wrap (p.next - 1))), I r.n.commit, Bo false, .w (sl 3 Entry.c (((sendL r.n p).take (k - sendK r.n p)) ++ ([ek]))) Xo10_8_1, .r (.v (.slice none 0 0)), S (⟨#[]⟩), Bo false])]) (fun all hall f hf b0 hb K hK => ?_) ?_
     ·skip
      have ro10_9 : ∀ (Xo10_7_1 : Value), ∀ (Xo10_8_1 : Value), RA f E B all 0 (bt 11 2047) ⟨83, [(5, .obj bo5_16_1 [I 3, I 0, I p.id, I 0, I (IntKind.i64.wrap (p.next - 1)), I (logTerm r.n.log (IntKind.i64.wrap (p.next - 1))), I r.n.commit, Bo false, .w (sl 3 Entry.c (((sendL r.n p).take (k - sendK r.n p)) ++ ([ek]))) Xo10_8_1, .r (.v (.slice none 0 0)), S (⟨#[]⟩), Bo false])] ++ b0⟩ K := by
       intro Xo10_7_1 Xo10_8_1
       exact RA.of2 hall hf hb (RA.finH (Tell.of rfl) (by kernel_rfl) (hK (Xo10_7_1, Xo10_8_1) _ rfl (Le.of rfl)))
      have ro10_8 : ∀ (Xo10_7_1 : Value), ∀ (Xo10_8_1 : Value), RA f E B all 1 (bt 11 1023) ⟨83, [(5, .obj bo5_16_1 [I 3, I 0, I p.id, I 0, I (IntKind.i64.wrap (p.next - 1)), I (logTerm r.n.log (IntKind.i64.wrap (p.next - 1))), I r.n.commit, Bo false, .u, .r (.v (.slice none 0 0)), S (⟨#[]⟩), Bo false]), (78, .w (sl 3 Entry.c (((sendL r.n p).take (k - sendK r.n p)) ++ ([ek]))) Xo10_8_1), (79, .pt 5 bo5_16_1 8)] ++ b0⟩ K := by
       intro Xo10_7_1 Xo10_8_1
       refine RA.of2 hall hf hb (RA.stepH (L := [10]) (Tell.of rfl) (by kernel_rfl) (by simp) (RA.each ?_ (RA.each0)))
       ·skip
        refine RO.store (d := .al 78 none 3 ((((sendL r.n p).take (k - sendK r.n p)) ++ ([ek])).length) Xo10_8_1 0) rfl rfl rfl rfl rfl rfl rfl rfl rfl (Nat.le_of_ble_eq_true rfl) rfl rfl ?_
        refine RA.keep 83 [0,4,5,6,78] rfl ?_;(conv=>whnf);refine ⟨?_⟩
        refine RA.pullT (k := 5) (l := 78) (j := 8) 5 78 8 rfl rfl rfl (by decide) rfl rfl rfl ?_
        refine RA.keep 83 [0,4,5,6] rfl ?_;(conv=>whnf);refine ⟨?_⟩
        exact RA.to2 hall hf hb (ro10_9 Xo10_7_1 Xo10_8_1) rfl rfl (by kernel_rfl)
      have ro10_7 : ∀ (Xo10_7_1 : Value), RA f E B all 3 (bt 11 255) ⟨83, [(5, .obj bo5_16_1 [I 3, I 0, I p.id, I 0, I (IntKind.i64.wrap (p.next - 1)), I (logTerm r.n.log (IntKind.i64.wrap (p.next - 1))), I r.n.commit, Bo false, .w (sl 3 Entry.c ((sendL r.n p).take (k - sendK r.n p))) X, .r (.v (.slice none 0 0)), S (⟨#[]⟩), Bo false]), (71, .al 5 (some 8) 3 (((sendL r.n p).take (k - sendK r.n p)).length) X 0), (77, .w (sl 3 Entry.c ([ek])) Xo10_7_1)] ++ b0⟩ K := by
       intro Xo10_7_1
       refine RA.of2 hall hf hb (RA.stepH (L := [8]) (Tell.of rfl) (by kernel_rfl) (by simp) (RA.each ?_ (RA.each0)))
       ·skip
        refine RO.takeO 71 5 8 (by decide) rfl rfl rfl ?_
        refine RO.appendSR (c := Entry.c) (l1 := ((sendL r.n p).take (k - sendK r.n p))) (l2 := [ek]) rfl rfl rfl rfl rfl rfl rfl rfl rfl rfl (.al (k := none) (i := 77) (sz := 3) (V := Xo10_7_1) rfl rfl nofun) (by decide) (Nat.le_of_ble_eq_true rfl) Entry.len (fun _ => rfl) rfl (by simp only [maxLen, List.length_append, List.length_nil, List.length_take, List.length_singleton]; omega) (by simp only [maxLen, List.length_append, List.length_nil, List.length_take, List.length_singleton]; omega) fun Xo10_8_1 => ?_
        refine RA.fs XK 83 1 [9] (bt 11 1023) rfl rfl (by kernel_rfl) (Tell.of rfl) ?_
        (conv=>whnf);refine ⟨rfl,?_⟩
        exact RA.to2 hall hf hb (ro10_8 Xo10_7_1 Xo10_8_1) rfl rfl (by kernel_rfl)
      have ro10_6 : ∀ (Xo10_7_1 : Value), RA f E B all 4 (bt 11 253) ⟨83, [(5, .obj bo5_16_1 [I 3, I 0, I p.id, I 0, I (IntKind.i64.wrap (p.next - 1)), I (logTerm r.n.log (IntKind.i64.wrap (p.next - 1))), I r.n.commit, Bo false, .w (sl 3 Entry.c ((sendL r.n p).take (k - sendK r.n p))) X, .r (.v (.slice none 0 0)), S (⟨#[]⟩), Bo false]), (70, .pt 5 bo5_16_1 8), (77, .w (sl 3 Entry.c ([ek])) Xo10_7_1)] ++ b0⟩ K := by
       intro Xo10_7_1
       refine RA.of2 hall hf hb (RA.stepH (L := [1]) (Tell.of rfl) (by kernel_rfl) (by simp) (RA.each ?_ (RA.each0)))
       ·skip
        refine RO.v rfl rfl (V.loadPrim (d := .al 5 (some 8) 3 (((sendL r.n p).take (k - sendK r.n p)).length) X 0) rfl rfl (.inr ⟨_, rfl⟩) rfl rfl rfl) rfl ?_
        exact RA.to2 hall hf hb (ro10_7 Xo10_7_1) rfl rfl (by kernel_rfl)
      have ro10_5 : RA f E B all 4 (bt 11 127) ⟨83, [(5, .obj bo5_16_1 [I 3, I 0, I p.id, I 0, I (IntKind.i64.wrap (p.next - 1)), I (logTerm r.n.log (IntKind.i64.wrap (p.next - 1))), I r.n.commit, Bo false, .w (sl 3 Entry.c ((sendL r.n p).take (k - sendK r.n p))) X, .r (.v (.slice none 0 0)), S (⟨#[]⟩), Bo false]), (71, .al 5 (some 8) 3 (((sendL r.n p).take (k - sendK r.n p)).length) X 0), (76, .agg ((Entry.c ek).map .r))] ++ b0⟩ K := by
       refine RA.of2 hall hf hb (RA.stepH (L := [7]) (Tell.of rfl) (by kernel_rfl) (by simp) (RA.each ?_ (RA.each0)))
       ·skip
        refine RO.build1 (c := Entry.c) (v := ek) rfl rfl rfl rfl rfl rfl rfl rfl (DW.v (DW.v (DW.v DW.e))) Entry.len (by decide) (by decide) fun Xo10_7_1 => ?_
        exact RA.to2 hall hf hb (ro10_7 Xo10_7_1) rfl rfl (by kernel_rfl)
      have ro10_4 : RA f E B all 5 (bt 11 125) ⟨83, [(5, .obj bo5_16_1 [I 3, I 0, I p.id, I 0, I (IntKind.i64.wrap (p.next - 1)), I (logTerm r.n.log (IntKind.i64.wrap (p.next - 1))), I r.n.commit, Bo false, .w (sl 3 Entry.c ((sendL r.n p).take (k - sendK r.n p))) X, .r (.v (.slice none 0 0)), S (⟨#[]⟩), Bo false]), (70, .pt 5 bo5_16_1 8), (76, .agg ((Entry.c ek).map .r))] ++ b0⟩ K := by
       refine RA.of2 hall hf hb (RA.stepH (L := [1, 7]) (Tell.of rfl) (by kernel_rfl) (by simp) (RA.each ?_ (RA.each ?_ (RA.each0))))
       ·skip
        refine RO.v rfl rfl (V.loadPrim (d := .al 5 (some 8) 3 (((sendL r.n p).take (k - sendK r.n p)).length) X 0) rfl rfl (.inr ⟨_, rfl⟩) rfl rfl rfl) rfl ?_
        exact RA.to2 hall hf hb ro10_5 rfl rfl (by kernel_rfl)
       ·skip
        refine RO.build1 (c := Entry.c) (v := ek) rfl rfl rfl rfl rfl rfl rfl rfl (DW.v (DW.v (DW.v DW.e))) Entry.len (by decide) (by decide) fun Xo10_7_1 => ?_
        exact RA.to2 hall hf hb (ro10_6 Xo10_7_1) rfl rfl (by kernel_rfl)
      have ro10_3 : RA f E B all 5 (bt 11 63) ⟨83, [(5, .obj bo5_16_1 [I 3, I 0, I p.id, I 0, I (IntKind.i64.wrap (p.next - 1)), I (logTerm r.n.log (IntKind.i64.wrap (p.next - 1))), I r.n.commit, Bo false, .w (sl 3 Entry.c ((sendL r.n p).take (k - sendK r.n p))) X, .r (.v (.slice none 0 0)), S (⟨#[]⟩), Bo false]), (71, .al 5 (some 8) 3 (((sendL r.n p).take (k - sendK r.n p)).length) X 0), (75, .rp (Entry.c ek))] ++ b0⟩ K := by
       refine RA.of2 hall hf hb (RA.stepH (L := [6]) (Tell.of rfl) (by kernel_rfl) (by simp) (RA.each ?_ (RA.each0)))
       ·skip
        refine RO.v rfl rfl (V.loadAggR rfl rfl rfl rfl (Nat.le_of_ble_eq_true rfl)) rfl ?_
        exact RA.to2 hall hf hb ro10_5 rfl rfl (by kernel_rfl)
      have ro10_2 : RA f E B all 6 (bt 11 61) ⟨83, [(5, .obj bo5_16_1 [I 3, I 0, I p.id, I 0, I (IntKind.i64.wrap (p.next - 1)), I (logTerm r.n.log (IntKind.i64.wrap (p.next - 1))), I r.n.commit, Bo false, .w (sl 3 Entry.c ((sendL r.n p).take (k - sendK r.n p))) X, .r (.v (.slice none 0 0)), S (⟨#[]⟩), Bo false]), (70, .pt 5 bo5_16_1 8), (75, .rp (Entry.c ek))] ++ b0⟩ K := by
       refine RA.of2 hall hf hb (RA.stepH (L := [1, 6]) (Tell.of rfl) (by kernel_rfl) (by simp) (RA.each ?_ (RA.each ?_ (RA.each0))))
       ·skip
        refine RO.v rfl rfl (V.loadPrim (d := .al 5 (some 8) 3 (((sendL r.n p).take (k - sendK r.n p)).length) X 0) rfl rfl (.inr ⟨_, rfl⟩) rfl rfl rfl) rfl ?_
        exact RA.to2 hall hf hb ro10_3 rfl rfl (by kernel_rfl)
       ·skip
        refine RO.v rfl rfl (V.loadAggR rfl rfl rfl rfl (Nat.le_of_ble_eq_true rfl)) rfl ?_
        exact RA.to2 hall hf hb ro10_4 rfl rfl (by kernel_rfl)
      have ro10_1 : RA f E B all 7 (bt 11 23) ⟨83, [(5, .obj bo5_16_1 [I 3, I 0, I p.id, I 0, I (IntKind.i64.wrap (p.next - 1)), I (logTerm r.n.log (IntKind.i64.wrap (p.next - 1))), I r.n.commit, Bo false, .w (sl 3 Entry.c ((sendL r.n p).take (k - sendK r.n p))) X, .r (.v (.slice none 0 0)), S (⟨#[]⟩), Bo false]), (71, .al 5 (some 8) 3 (((sendL r.n p).take (k - sendK r.n p)).length) X 0), (72, .pt 4 b2 2), (74, I (k : Int))] ++ b0⟩ K := by
       refine RA.of2 hall hf hb (RA.stepH (L := [3]) (Tell.of rfl) (by kernel_rfl) (by simp) (RA.each ?_ (RA.each0)))
       ·skip
        refine RO.v rfl rfl (V.loadPrim (d := .r (sl 3 Entry.c r.n.log.entries)) rfl rfl (.inr ⟨_, rfl⟩) rfl rfl rfl) rfl ?_
        refine RA.first (i := 5) (ls' := (bt 11 63)) (Tell.of rfl) (by kernel_rfl) rfl rfl rfl (VF.p (V.indexS rfl rfl rfl rfl rfl rfl Entry.len hek)) ?_
        exact RA.to2 hall hf hb ro10_3 rfl rfl (by kernel_rfl)
      have ro10_0 : RA f E B all 8 (bt 11 21) ⟨83, [(5, .obj bo5_16_1 [I 3, I 0, I p.id, I 0, I (IntKind.i64.wrap (p.next - 1)), I (logTerm r.n.log (IntKind.i64.wrap (p.next - 1))), I r.n.commit, Bo false, .w (sl 3 Entry.c ((sendL r.n p).take (k - sendK r.n p))) X, .r (.v (.slice none 0 0)), S (⟨#[]⟩), Bo false]), (70, .pt 5 bo5_16_1 8), (72, .pt 4 b2 2), (74, I (k : Int))] ++ b0⟩ K := by
       refine RA.of2 hall hf hb (RA.stepH (L := [1, 3]) (Tell.of rfl) (by kernel_rfl) (by simp) (RA.each ?_ (RA.each ?_ (RA.each0))))
       ·skip
        refine RO.v rfl rfl (V.loadPrim (d := .al 5 (some 8) 3 (((sendL r.n p).take (k - sendK r.n p)).length) X 0) rfl rfl (.inr ⟨_, rfl⟩) rfl rfl rfl) rfl ?_
        exact RA.to2 hall hf hb ro10_1 rfl rfl (by kernel_rfl)
       ·skip
        refine RO.v rfl rfl (V.loadPrim (d := .r (sl 3 Entry.c r.n.log.entries)) rfl rfl (.inr ⟨_, rfl⟩) rfl rfl rfl) rfl ?_
        refine RA.first (i := 5) (ls' := (bt 11 61)) (Tell.of rfl) (by kernel_rfl) rfl rfl rfl (VF.p (V.indexS rfl rfl rfl rfl rfl rfl Entry.len hek)) ?_
        exact RA.to2 hall hf hb ro10_2 rfl rfl (by kernel_rfl)
      refine RA.start (by kernel_rfl) (by kernel_rfl) (m := 11) (ls' := (bt 11 0)) ?_
      refine RA.fs XK 83 8 [0,2,4] (bt 11 21) rfl rfl (by kernel_rfl) (Tell.of rfl) ?_
      (conv=>whnf);refine ⟨rfl,?_⟩
      exact RA.to2 hall hf hb ro10_0 rfl rfl (by kernel_rfl)
     ·rintro ⟨Xo10_7_1, Xo10_8_1⟩
      refine CW.keep 83 [0,4,5,6] rfl ?_;(conv=>whnf);refine ⟨?_⟩
      refine CW.region ?_
      refine RW.k XK 83 1 rfl ?_
      (conv=>whnf);refine ⟨rfl,?_⟩
      refine RW.v rfl (V.inc rfl rfl rfl hkl.1 hl0) ?_
      refine RW.k XK 83 1 rfl ?_
      (conv=>whnf);refine ⟨rfl,?_⟩
      refine RW.nil ?_
      exact ⟨(k + 1, _), by show r.n.log.entries.length - (k + 1) < r.n.log.entries.length - k; omega, ⟨by omega, by omega, by omega⟩, rfl, Le.c rfl <| Le.c rfl <| Le.c (congrArg (fun l_ => D.obj bo5_16_1 [I 3, I 0, I p.id, I 0, I (IntKind.i64.wrap (p.next - 1)), I (logTerm r.n.log (IntKind.i64.wrap (p.next - 1))), I r.n.commit, Bo false, .w (sl 3 Entry.c l_) Xo10_8_1, .r (.v (.slice none 0 0)), S (⟨#[]⟩), Bo false]) (by rw [show k + 1 - sendK r.n p = (k - sendK r.n p) + 1 from by omega, take_snoc (show (sendL r.n p)[k - sendK r.n p]? = some ek from by rw [List.getElem?_drop, show sendK r.n p + (k - sendK r.n p) = k from by omega]; exact hek)])) <| Le.c rfl <| Le.e⟩
    ·skip
     have hll : ((sendL r.n p).take (k - sendK r.n p)).length = k - sendK r.n p := by rw [List.length_take]; omega
     have hjj := hv8.symm.trans h9
     rw [hll] at hjj
     have hkk : k - sendK r.n p = min 4 (sendL r.n p).length := by simp at hjj; omega
     refine CW.exit ?_
     refine CW.keep 83 [0,5] rfl ?_;(conv=>whnf);refine ⟨?_⟩
     refine CW.region ?_
     refine RW.k XK 83 2 rfl ?_
     (conv=>whnf);refine ⟨rfl,?_⟩
     refine RW.callT (k := 0) (q := 5) (spec_l18Tell_fn r (⟨3, 0, p.id, 0, (IntKind.i64.wrap (p.next - 1)), (logTerm r.n.log (IntKind.i64.wrap (p.next - 1))), r.n.commit, false, ((sendL r.n p).take (k - sendK r.n p)), [], ⟨#[]⟩, false⟩ : Message) hm) rfl rfl (by decide) (by decide) rfl rfl (DT.r (DT.r (DT.r (DT.r (DT.r (DT.r (DT.r (DT.r (DT.r (DT.r (DT.r (DT.r (DT.r (DT.r (DT.w DT.e))))))))))))))) rfl (Nat.le_of_ble_eq_true rfl) (Tk.obj ⟨_, (Hand.v (Hand.v (Hand.v (Hand.v (Hand.v (Hand.v (Hand.v (Hand.v (Hand.w (Hand.n (Hand.v (Hand.v Hand.e))))))))))))⟩) fun q11 => ?_
     refine RW.nil ?_
     exact Post.tup (by decide) RVs.e (AOs.obE (f := fun e => l18Run.m e) (e' := (⟨r.n, r.told ++ [tellM r.n (⟨3, 0, p.id, 0, (IntKind.i64.wrap (p.next - 1)), (logTerm r.n.log (IntKind.i64.wrap (p.next - 1))), r.n.commit, false, ((sendL r.n p).take (k - sendK r.n p)), [], ⟨#[]⟩, false⟩ : Message)]⟩ : l18Run)) rfl (DT.r (DT.r (DT.r (DT.r (DT.r (DT.r (DT.r (DT.r (DT.r (DT.r (DT.r (DT.r (DT.r (DT.r (DT.w DT.e))))))))))))))) (by rw [send_up h3 hkk]) (AOs.a rfl AOs.e))
set_option maxHeartbeats 4000000 in
theorem spec_l18SendAll_fn (r : l18Run) (hl : logB r.n.log) (hp : ∀ p ∈ r.n.peers, peerB r.n.log p) (hc : r.n.conf.length ≤ 1048576) (hm : r.n.peers.length ≤ 1048576) (ht : r.told.length ≤ 1048576) : Eng.Fn E.P 95 [.ob (l18Run.m r)] (.tup []) [.ob (l18Run.m (⟨r.n, r.told ++ r.n.peers.map (sendN r.n)⟩ : l18Run))] := by
 refine Eng.Fn.intro (E := E) (rvs := []) Try.func95 rfl rfl rfl (by simp [outSlots, moved, rvSlot, sl]) ?_
 intro B g bo
 refine CW.keep 23 [0] rfl ?_;(conv=>whnf);refine ⟨?_⟩
 refine CW.k XK 23 1 [0,2] rfl ?_
 (conv=>whnf);refine ⟨rfl,?_⟩
 refine CW.block ?_
 refine CW.loopI 23 (fun (zz : Nat × Value) => match zz with | (i, X) => [(0, .obj (bo 0) [I r.n.id, I r.n.term_, I r.n.vote, I r.n.role, I r.n.lead, .r (sl 1 cI r.n.conf), I r.n.log.start, I r.n.log.startTerm, .r (sl 3 Entry.c r.n.log.entries), I r.n.commit, I r.n.clock, I r.n.limit, .r (sl 1 cI r.n.votes), .r (sl 4 Peer.c r.n.peers), .w (sl 12 Message.c (r.told ++ (r.n.peers.take i).map (sendN r.n))) X]), (2, I (i : Int))]) (fun (zz : Nat × Value) => match zz with | (i, X) => i ≤ r.n.peers.length) (fun (zz : Nat × Value) => match zz with | (i, X) => r.n.peers.length - i) (0, _) rfl (Le.c (congrArg (fun l_ => D.obj (bo 0) [I r.n.id, I r.n.term_, I r.n.vote, I r.n.role, I r.n.lead, .r (sl 1 cI r.n.conf), I r.n.log.start, I r.n.log.startTerm, .r (sl 3 Entry.c r.n.log.entries), I r.n.commit, I r.n.clock, I r.n.limit, .r (sl 1 cI r.n.votes), .r (sl 4 Peer.c r.n.peers), .w (sl 12 Message.c l_) (g 0 14)]) (by simp)) <| Le.c rfl <| Le.e) (by omega) ?_
 rintro ⟨i, X⟩ hb
 have hl0 : r.n.peers.length ≤ maxLen := by simp only [maxLen]; omega
 refine CW.seq ?_
 refine CW.k XK 23 1 [0,2,10] rfl ?_
 (conv=>whnf);refine ⟨rfl,?_⟩
 refine CW.cond rfl (fun h1 => ?_) (fun h1 => ?_)
 ·skip
  have hii : i < r.n.peers.length := by have := h1; simp at this; first | exact this | omega | (simp; done) | (simp; omega)
  obtain ⟨ei, hei⟩ : ∃ e, r.n.peers[i]? = some e := ⟨_, List.getElem?_eq_getElem hii⟩
  have hdi := drop_get hei
  refine CW.skip ?_
  refine CW.keep 23 [0,2] rfl ?_;(conv=>whnf);refine ⟨?_⟩
  refine CW.seq ?_
  refine CW.block ?_
  refine CW.region ?_
  refine RW.k XK 23 7 rfl ?_
  (conv=>whnf);refine ⟨rfl,?_⟩
  refine RW.v rfl (V.indexS rfl rfl rfl rfl rfl rfl Peer.len hei) ?_
  refine RW.k XK 23 1 rfl ?_
  (conv=>whnf);refine ⟨rfl,?_⟩
  refine RW.callP (k := 0) (spec_l18Send_fn (⟨r.n, (r.told ++ (r.n.peers.take i).map (sendN r.n))⟩ : l18Run) ei hl (hp ei (List.mem_of_getElem? hei)) hc (by simp only [List.length_append, List.length_map, List.length_take]; omega)) rfl rfl (Nat.le_of_ble_eq_true rfl) (by decide) rfl (DT.r (DT.r (DT.r (DT.r (DT.r (DT.r (DT.r (DT.r (DT.r (DT.r (DT.r (DT.r (DT.r (DT.r (DT.w DT.e))))))))))))))) (AsPs.here rfl (.cons (.agg (.cons (.r .r) (.cons (.r .r) (.cons (.r .r) (.cons (.r .r) (.nil)))))) (.nil))) fun g2 q3 => ?_
  refine RW.nil ?_
  refine CW.keep 23 [0,2] rfl ?_;(conv=>whnf);refine ⟨?_⟩
  refine CW.region ?_
  refine RW.k XK 23 1 rfl ?_
  (conv=>whnf);refine ⟨rfl,?_⟩
  refine RW.v rfl (V.inc rfl rfl rfl hii hl0) ?_
  refine RW.k XK 23 1 rfl ?_
  (conv=>whnf);refine ⟨rfl,?_⟩
  refine RW.nil ?_
  exact ⟨(i + 1, _), by simp only []; omega, (by omega), rfl, Le.c (congrArg (fun l_ => D.obj (bo 0) [I r.n.id, I r.n.term_, I r.n.vote, I r.n.role, I r.n.lead, .r (sl 1 cI r.n.conf), I r.n.log.start, I r.n.log.startTerm, .r (sl 3 Entry.c r.n.log.entries), I r.n.commit, I r.n.clock, I r.n.limit, .r (sl 1 cI r.n.votes), .r (sl 4 Peer.c r.n.peers), .w (sl 12 Message.c l_) (q3 14)]) (by rw [take_snoc hei, List.map_append, List.append_assoc]; rfl)) <| Le.c rfl <| Le.e⟩
 ·skip
  have hii : r.n.peers.length ≤ i := by have := h1; simp at this; first | exact this | omega | (simp; done) | (simp; omega)
  have hdi : r.n.peers.drop i = [] := List.drop_eq_nil_of_le hii
  refine CW.exit ?_
  exact Post.tup (by decide) RVs.e (AOs.obE (f := fun e => l18Run.m e) (e' := (⟨r.n, (r.told ++ (r.n.peers.take i).map (sendN r.n))⟩ : l18Run)) rfl (DT.r (DT.r (DT.r (DT.r (DT.r (DT.r (DT.r (DT.r (DT.r (DT.r (DT.r (DT.r (DT.r (DT.r (DT.w DT.e))))))))))))))) (by rw [List.take_of_length_le hii]) AOs.e)
set_option maxHeartbeats 4000000 in
theorem spec_l18Follow_fn (r : l18Run) (l : Int) : Eng.Fn E.P 125 [.ob (l18Run.m r), .one (.r (.v (.int .i64 l)))] (.tup []) [.ob (l18Run.m (⟨followN r.n l, r.told⟩ : l18Run)), .one (.r (.v (.int .i64 l)))] := by
 refine Eng.Fn.intro (E := E) (rvs := []) Try.func125 rfl rfl rfl (by simp [outSlots, moved, rvSlot, sl]) ?_
 intro B g bo
 refine CW.keep 23 [0,1] rfl ?_;(conv=>whnf);refine ⟨?_⟩
 refine CW.k XK 23 2 [0] rfl ?_
 (conv=>whnf);refine ⟨rfl,?_⟩
 refine CW.seq ?_
 refine CW.region ?_
 refine RW.k XK 23 1 rfl ?_
 (conv=>whnf);refine ⟨rfl,?_⟩
 refine RW.build0 cI rfl rfl rfl rfl rfl fun X1 => ?_
 refine RW.k XK 23 4 rfl ?_
 (conv=>whnf);refine ⟨rfl,?_⟩
 refine RW.keep 23 [0,14] rfl ?_;(conv=>whnf);refine ⟨?_⟩
 refine RW.pullT (k := 0) (l := 14) (j := 12) 0 14 12 rfl rfl rfl (by decide) rfl rfl rfl ?_
 refine RW.keep 23 [0] rfl ?_;(conv=>whnf);refine ⟨?_⟩
 refine RW.nil ?_
 refine CW.keep 23 [0] rfl ?_;(conv=>whnf);refine ⟨?_⟩
 refine CW.region ?_
 refine RW.k XK 23 1 rfl ?_
 (conv=>whnf);refine ⟨rfl,?_⟩
 refine RW.build0 Peer.c rfl rfl rfl rfl rfl fun X2 => ?_
 refine RW.k XK 23 4 rfl ?_
 (conv=>whnf);refine ⟨rfl,?_⟩
 refine RW.keep 23 [0,19] rfl ?_;(conv=>whnf);refine ⟨?_⟩
 refine RW.pullT (k := 0) (l := 19) (j := 13) 0 19 13 rfl rfl rfl (by decide) rfl rfl rfl ?_
 refine RW.keep 23 [0] rfl ?_;(conv=>whnf);refine ⟨?_⟩
 refine RW.freezeM (k := 0) [false, false, false, false, false, false, false, false, false, false, false, false, true, true, false] rfl (ds' := [I r.n.id, I r.n.term_, I r.n.vote, I 0, I l, .r (sl 1 cI r.n.conf), I r.n.log.start, I r.n.log.startTerm, .r (sl 3 Entry.c r.n.log.entries), I r.n.commit, I r.n.clock, I r.n.limit, .r (sl 1 cI ([] : List Int)), .r (sl 4 Peer.c ([] : List Peer)), .w (sl 12 Message.c r.told) (g 0 14)]) rfl ?_
 refine RW.nil ?_
 exact Post.tup (by decide) RVs.e (AOs.obE (f := fun e => l18Run.m e) (e' := (⟨(⟨r.n.id, r.n.term_, r.n.vote, 0, l, r.n.conf, r.n.log, r.n.commit, r.n.clock, r.n.limit, ([] : List Int), ([] : List Peer)⟩ : Node), r.told⟩ : l18Run)) rfl (DT.r (DT.r (DT.r (DT.r (DT.r (DT.r (DT.r (DT.r (DT.r (DT.r (DT.r (DT.r (DT.r (DT.r (DT.w DT.e))))))))))))))) (by rfl) (AOs.r AOs.e))
set_option maxHeartbeats 4000000 in
theorem spec_l18Elected_fn (r : l18Run) (hok : okToNode r.n) : Eng.Fn E.P 105 [.one (.r (.f none (l18Run.c r)))] (.one (.one (.w (.v (.bool (most (confAtS r.n 1000060) r.n.votes)))))) [.one (.r (.f none (l18Run.c r)))] := by
 refine Eng.Fn.intro (E := E) (rvs := [.tmp 2]) Try.func105 rfl rfl rfl (by simp [outSlots, moved, rvSlot, sl]) ?_
 intro B g bo
 refine CW.asRp 0 rfl ?_
 refine CW.keep 14 [0] rfl ?_;(conv=>whnf);refine ⟨?_⟩
 refine CW.k XK 14 1 [0] rfl ?_
 (conv=>whnf);refine ⟨rfl,?_⟩
 refine CW.anyJ2 (fc := []) (L0 := []) 14 (fun (zz : (Nat → Nat → Value) × (Nat → Nat → Value)) => match zz with | (go1_10_1, go1_4_1) => [(2, Bo (most (confAtS r.n 1000060) r.n.votes))]) (fun all hall f hf b0 hb K hK => ?_) ?_
 ·skip
  have ro1_6 : ∀ (go1_10_1 : Nat → Nat → Value), ∀ (go1_4_1 : Nat → Nat → Value), RA f E B all 0 (bt 12 4095) ⟨14, [(2, Bo (most (confAtS r.n 1000060) r.n.votes))] ++ b0⟩ K := by
   intro go1_10_1 go1_4_1
   exact RA.of2 hall hf hb (RA.finH (Tell.of rfl) (by kernel_rfl) (hK (go1_10_1, go1_4_1) _ rfl (Le.of rfl)))
  have ro1_5 : ∀ (go1_4_1 : Nat → Nat → Value), RA f E B all 2 (bt 12 1023) ⟨14, [(7, .w (sl 1 cI (confAtS r.n 1000060)) (go1_4_1 0 0)), (12, .r (sl 1 cI r.n.votes))] ++ b0⟩ K := by
   intro go1_4_1
   refine RA.of2 hall hf hb (RA.stepH (L := [10]) (Tell.of rfl) (by kernel_rfl) (by simp) (RA.each ?_ (RA.each0)))
   ·skip
    refine RO.callOwn rfl rfl (spec_Most_fn (confAtS r.n 1000060) r.n.votes) rfl (.cons (.one (.r (.al (k := none) (i := 7) (sz := 1) (V := (go1_4_1 0 0)) rfl rfl nofun))) (.cons (.one (.r .r)) (.nil))) rfl rfl fun go1_10_1 => ?_
    refine RA.fs XK 14 0 [11] (bt 12 4095) rfl rfl (by kernel_rfl) (Tell.of rfl) ?_
    (conv=>whnf);refine ⟨rfl,?_⟩
    exact RA.to2 hall hf hb (ro1_6 go1_10_1 go1_4_1) rfl rfl (by kernel_rfl)
  have ro1_4 : RA f E B all 3 (bt 12 1007) ⟨14, [(6, .agg ((Node.c r.n).map .r)), (12, .r (sl 1 cI r.n.votes))] ++ b0⟩ K := by
   refine RA.of2 hall hf hb (RA.stepH (L := [4]) (Tell.of rfl) (by kernel_rfl) (by simp) (RA.each ?_ (RA.each0)))
   ·skip
    refine RO.call rfl rfl (spec_ConfOf_fn r.n hok) rfl (.cons (.agg (.cons (.r .r) (.cons (.r .r) (.cons (.r .r) (.cons (.r .r) (.cons (.r .r) (.cons (.r .r) (.cons (.r .r) (.cons (.r .r) (.cons (.r .r) (.cons (.r .r) (.cons (.r .r) (.cons (.r .r) (.cons (.r .r) (.cons (.r .r) (.nil)))))))))))))))) (.nil)) rfl fun go1_4_1 => ?_
    exact RA.to2 hall hf hb (ro1_5 go1_4_1) rfl rfl (by kernel_rfl)
  have ro1_3 : ∀ (go1_4_1 : Nat → Nat → Value), RA f E B all 3 (bt 12 511) ⟨14, [(7, .w (sl 1 cI (confAtS r.n 1000060)) (go1_4_1 0 0)), (11, .rp [sl 1 cI r.n.votes, sl 4 Peer.c r.n.peers, sl 12 Message.c r.told])] ++ b0⟩ K := by
   intro go1_4_1
   refine RA.of2 hall hf hb (RA.stepH (L := [9]) (Tell.of rfl) (by kernel_rfl) (by simp) (RA.each ?_ (RA.each0)))
   ·skip
    refine RO.v rfl rfl (V.loadPrimR (t0 := sl 1 cI r.n.votes) rfl rfl (.inr ⟨_, rfl⟩) rfl rfl) rfl ?_
    exact RA.to2 hall hf hb (ro1_5 go1_4_1) rfl rfl (by kernel_rfl)
  have ro1_2 : RA f E B all 4 (bt 12 999) ⟨14, [(5, .rp (l18Run.c r)), (12, .r (sl 1 cI r.n.votes))] ++ b0⟩ K := by
   refine RA.of2 hall hf hb (RA.stepH (L := [3]) (Tell.of rfl) (by kernel_rfl) (by simp) (RA.each ?_ (RA.each0)))
   ·skip
    refine RO.v rfl rfl (V.loadAggR rfl rfl rfl rfl (Nat.le_of_ble_eq_true rfl)) rfl ?_
    exact RA.to2 hall hf hb ro1_4 rfl rfl (by kernel_rfl)
  have ro1_1 : RA f E B all 4 (bt 12 495) ⟨14, [(6, .agg ((Node.c r.n).map .r)), (11, .rp [sl 1 cI r.n.votes, sl 4 Peer.c r.n.peers, sl 12 Message.c r.told])] ++ b0⟩ K := by
   refine RA.of2 hall hf hb (RA.stepH (L := [4, 9]) (Tell.of rfl) (by kernel_rfl) (by simp) (RA.each ?_ (RA.each ?_ (RA.each0))))
   ·skip
    refine RO.call rfl rfl (spec_ConfOf_fn r.n hok) rfl (.cons (.agg (.cons (.r .r) (.cons (.r .r) (.cons (.r .r) (.cons (.r .r) (.cons (.r .r) (.cons (.r .r) (.cons (.r .r) (.cons (.r .r) (.cons (.r .r) (.cons (.r .r) (.cons (.r .r) (.cons (.r .r) (.cons (.r .r) (.cons (.r .r) (.nil)))))))))))))))) (.nil)) rfl fun go1_4_1 => ?_
    exact RA.to2 hall hf hb (ro1_3 go1_4_1) rfl rfl (by kernel_rfl)
   ·skip
    refine RO.v rfl rfl (V.loadPrimR (t0 := sl 1 cI r.n.votes) rfl rfl (.inr ⟨_, rfl⟩) rfl rfl) rfl ?_
    exact RA.to2 hall hf hb ro1_4 rfl rfl (by kernel_rfl)
  have ro1_0 : RA f E B all 5 (bt 12 487) ⟨14, [(5, .rp (l18Run.c r)), (11, .rp [sl 1 cI r.n.votes, sl 4 Peer.c r.n.peers, sl 12 Message.c r.told])] ++ b0⟩ K := by
   refine RA.of2 hall hf hb (RA.stepH (L := [3, 9]) (Tell.of rfl) (by kernel_rfl) (by simp) (RA.each ?_ (RA.each ?_ (RA.each0))))
   ·skip
    refine RO.v rfl rfl (V.loadAggR rfl rfl rfl rfl (Nat.le_of_ble_eq_true rfl)) rfl ?_
    exact RA.to2 hall hf hb ro1_1 rfl rfl (by kernel_rfl)
   ·skip
    refine RO.v rfl rfl (V.loadPrimR (t0 := sl 1 cI r.n.votes) rfl rfl (.inr ⟨_, rfl⟩) rfl rfl) rfl ?_
    exact RA.to2 hall hf hb ro1_2 rfl rfl (by kernel_rfl)
  refine RA.start (by kernel_rfl) (by kernel_rfl) (m := 12) (ls' := (bt 12 0)) ?_
  refine RA.fs XK 14 5 [0,1,2,5,6,7,8] (bt 12 487) rfl rfl (by kernel_rfl) (Tell.of rfl) ?_
  (conv=>whnf);refine ⟨rfl,?_⟩
  exact RA.to2 hall hf hb ro1_0 rfl rfl (by kernel_rfl)
 ·rintro ⟨go1_10_1, go1_4_1⟩
  refine CW.ret ?_
  exact Post.one (RV.b rfl (by rfl)) (AOs.r AOs.e)
set_option maxHeartbeats 4000000 in
theorem spec_l18Room_fn (n : Node) (hl : logB n.log) : Eng.Fn E.P 89 [.agg ((Node.c n).map .r)] (.one (.one (.w (.v (.bool (room n.log)))))) [.agg ((Node.c n).map .r)] := by
 refine Eng.Fn.intro (E := E) (rvs := [.tmp 2]) Try.func89 rfl rfl rfl (by simp [outSlots, moved, rvSlot, sl]) ?_
 intro B g bo
 refine CW.keep 14 [0] rfl ?_;(conv=>whnf);refine ⟨?_⟩
 refine CW.k XK 14 1 [1] rfl ?_
 (conv=>whnf);intro b1;(conv=>whnf);refine ⟨rfl,?_⟩
 refine CW.seqJ 14 (fun (v2 : Bool) => [(2, Bo v2)]) (fun v2 => v2 = (decide ((n.log.entries.length : Int) < 60) && decide ((IntKind.i64.wrap (n.log.start + (n.log.entries.length : Int))) < 1000000))) ?_ ?_
 ·refine CW.region ?_
  refine RW.k XK 14 6 rfl ?_
  (conv=>whnf);refine ⟨rfl,?_⟩
  refine RW.gv rfl rfl rfl rfl (fun h3 => V.field rfl rfl rfl rfl (by decide) rfl) (fun h3 => ?_) (fun h3 => ?_)
  ·skip
   refine RW.k XK 14 1 rfl ?_
   (conv=>whnf);refine ⟨rfl,?_⟩
   refine RW.gcall rfl rfl rfl rfl (spec_l06Last_fn n.log) rfl (.cons (.agg (.cons (.r .r) (.cons (.r .r) (.cons (.r .r) (.nil))))) (.nil)) fun g4 => ?_
   refine RW.k XK 14 3 rfl ?_
   (conv=>whnf);refine ⟨rfl,?_⟩
   refine RW.nil ?_
   exact ⟨_, by first | rfl | (simp_all; done) | (simp_all; omega) | grind, rfl, Le.of rfl⟩
  ·skip
   refine RW.k XK 14 5 rfl ?_
   (conv=>whnf);refine ⟨rfl,?_⟩
   refine RW.nil ?_
   exact ⟨_, by first | rfl | (simp_all; done) | (simp_all; omega) | grind, rfl, Le.of rfl⟩
 ·intro v2 hv5
  refine CW.ret ?_
  exact Post.one (RV.b rfl (by obtain ⟨l1, l2, l3⟩ := id hl; rw [hv5, room, logLast_1 hl, show IntKind.i64.wrap (n.log.start + (n.log.entries.length : Int)) = n.log.start + (n.log.entries.length : Int) from by rw [IntKind.wrap_i64]; omega])) (AOs.a rfl AOs.e)
set_option maxHeartbeats 4000000 in
theorem spec_l18ConfIndex_fn (n : Node) (hl : logB n.log) : Eng.Fn E.P 91 [.agg ((Node.c n).map .r)] (.one (.one (.w (.v (.int .i64 (confIx n.log n.log.entries.length)))))) [.agg ((Node.c n).map .r)] := by
 refine Eng.Fn.intro (E := E) (rvs := [.tmp 2]) Try.func91 rfl rfl rfl (by simp [outSlots, moved, rvSlot, sl]) ?_
 intro B g bo
 refine CW.keep 31 [0] rfl ?_;(conv=>whnf);refine ⟨?_⟩
 have hl0 : n.log.entries.length ≤ maxLen := by have := hl.2.2; simp only [maxLen]; omega
 refine CW.k XK 31 2 [1,3] rfl ?_
 (conv=>whnf);intro b1;(conv=>whnf);refine ⟨rfl,?_⟩
 refine CW.seq ?_
 refine CW.k XK 31 1 [1,3,4] rfl ?_
 (conv=>whnf);refine ⟨rfl,?_⟩
 refine CW.block ?_
 refine CW.loopI 31 (fun (i : Nat) => [(1, .obj b1 ((Node.c n).map .r)), (3, I (confIx n.log i)), (4, I (i : Int))]) (fun (i : Nat) => i ≤ n.log.entries.length) (fun (i : Nat) => n.log.entries.length - i) 0 rfl (Le.c rfl <| Le.c rfl <| Le.c rfl <| Le.e) (by omega) ?_
 rintro i hb
 refine CW.seq ?_
 refine CW.k XK 31 1 [1,3,4,13] rfl ?_
 (conv=>whnf);refine ⟨rfl,?_⟩
 refine CW.cond rfl (fun h2 => ?_) (fun h2 => ?_)
 ·skip
  have hii : i < n.log.entries.length := by have := h2; simp at this; first | exact this | omega | (simp; done) | (simp; omega)
  obtain ⟨ei, hei⟩ : ∃ e, n.log.entries[i]? = some e := ⟨_, List.getElem?_eq_getElem hii⟩
  have hdi := drop_get hei
  refine CW.skip ?_
  refine CW.keep 31 [1,3,4] rfl ?_;(conv=>whnf);refine ⟨?_⟩
  refine CW.seq ?_
  refine CW.block ?_
  refine CW.seq ?_
  refine CW.region ?_
  refine RW.k XK 31 4 rfl ?_
  (conv=>whnf);refine ⟨rfl,?_⟩
  refine RW.v rfl (V.indexS rfl rfl rfl rfl rfl rfl Entry.len hei) ?_
  refine RW.k XK 31 3 rfl ?_
  (conv=>whnf);refine ⟨rfl,?_⟩
  refine RW.nil ?_
  refine CW.keep 31 [1,3,4,23] rfl ?_;(conv=>whnf);refine ⟨?_⟩
  refine CW.cond rfl (fun h3 => ?_) (fun h3 => ?_)
  ·skip
   have hkd : (ei.kind == 2) = true := h3
   refine CW.region ?_
   refine RW.k XK 31 7 rfl ?_
   (conv=>whnf);refine ⟨rfl,?_⟩
   refine RW.nil ?_
   refine CW.keep 31 [1,3,4] rfl ?_;(conv=>whnf);refine ⟨?_⟩
   refine CW.region ?_
   refine RW.k XK 31 1 rfl ?_
   (conv=>whnf);refine ⟨rfl,?_⟩
   refine RW.v rfl (V.inc rfl rfl rfl hii hl0) ?_
   refine RW.k XK 31 1 rfl ?_
   (conv=>whnf);refine ⟨rfl,?_⟩
   refine RW.nil ?_
   exact ⟨i + 1, by omega, (by omega), rfl, Le.c rfl <| Le.c (congrArg I (by first | exact confIx_yes hei hkd | exact confIx_no hei hkd)) <| Le.c rfl <| Le.e⟩
  ·skip
   have hkd : (ei.kind == 2) = false := h3
   refine CW.skip ?_
   refine CW.keep 31 [1,3,4] rfl ?_;(conv=>whnf);refine ⟨?_⟩
   refine CW.region ?_
   refine RW.k XK 31 1 rfl ?_
   (conv=>whnf);refine ⟨rfl,?_⟩
   refine RW.v rfl (V.inc rfl rfl rfl hii hl0) ?_
   refine RW.k XK 31 1 rfl ?_
   (conv=>whnf);refine ⟨rfl,?_⟩
   refine RW.nil ?_
   exact ⟨i + 1, by omega, (by omega), rfl, Le.c rfl <| Le.c (congrArg I (by first | exact confIx_yes hei hkd | exact confIx_no hei hkd)) <| Le.c rfl <| Le.e⟩
 ·skip
  have hii : n.log.entries.length ≤ i := by have := h2; simp at this; first | exact this | omega | (simp; done) | (simp; omega)
  have hdi : n.log.entries.drop i = [] := List.drop_eq_nil_of_le hii
  refine CW.exit ?_
  refine CW.keep 31 [3] rfl ?_;(conv=>whnf);refine ⟨?_⟩
  refine CW.k XK 31 1 [2] rfl ?_
  (conv=>whnf);refine ⟨rfl,?_⟩
  refine CW.ret ?_
  exact Post.one (RV.i rfl (by rw [show i = n.log.entries.length from by omega])) (AOs.a rfl AOs.e)
set_option maxHeartbeats 4000000 in
theorem spec_l18Commit_fn (r : l18Run) (hn : ComOk r.n) (hok : okToNode r.n) : Eng.Fn E.P 94 [.ob (l18Run.m r)] (.tup []) [.ob (l18Run.m (⟨commitN r.n, r.told⟩ : l18Run))] := by
 refine Eng.Fn.intro (E := E) (rvs := []) Try.func94 rfl rfl rfl (by simp [outSlots, moved, rvSlot, sl]) ?_
 intro B g bo
 refine CW.keep 121 [0] rfl ?_;(conv=>whnf);refine ⟨?_⟩
 have hl := hn.log
 have hpm : r.n.peers.length ≤ 1048576 := hok.2.2.2.1
 refine CW.seq ?_
 refine CW.region ?_
 refine RW.k XK 121 4 rfl ?_
 (conv=>whnf);refine ⟨rfl,?_⟩
 refine RW.call rfl (spec_ConfOf_fn r.n hok) rfl (.cons (.agg (.cons (.r .r) (.cons (.r .r) (.cons (.r .r) (.cons (.r .r) (.cons (.r .r) (.cons (.r .r) (.cons (.r .r) (.cons (.r .r) (.cons (.r .r) (.cons (.r .r) (.cons (.r .r) (.cons (.r .r) (.cons (.r .r) (.cons (.r .r) (.nil)))))))))))))))) (.nil)) fun g1 => ?_
 refine RW.assignMove rfl rfl rfl (by decide) (Nat.le_of_ble_eq_true rfl) (Nat.le_of_ble_eq_true rfl) ?_
 refine RW.nil ?_
 refine CW.keep 121 [0,2] rfl ?_;(conv=>whnf);refine ⟨?_⟩
 refine CW.seq ?_
 refine CW.region ?_
 refine RW.k XK 121 5 rfl ?_
 (conv=>whnf);refine ⟨rfl,?_⟩
 refine RW.call rfl (spec_l06Last_fn r.n.log) rfl (.cons (.agg (.cons (.r .r) (.cons (.r .r) (.cons (.r .r) (.nil))))) (.nil)) fun g2 => ?_
 refine RW.k XK 121 1 rfl ?_
 (conv=>whnf);refine ⟨rfl,?_⟩
 refine RW.nil ?_
 refine CW.keep 121 [0,2,3] rfl ?_;(conv=>whnf);refine ⟨?_⟩
 refine CW.seq ?_
 refine CW.k XK 121 1 [0,2,4] rfl ?_
 (conv=>whnf);refine ⟨rfl,?_⟩
 refine CW.block ?_
 refine CW.loopI 121 (fun (zz : Nat × Int × Int) => match zz with | (f, idx, c) => [(0, .obj (bo 0) [I r.n.id, I r.n.term_, I r.n.vote, I r.n.role, I r.n.lead, .r (sl 1 cI r.n.conf), I r.n.log.start, I r.n.log.startTerm, .r (sl 3 Entry.c r.n.log.entries), I c, I r.n.clock, I r.n.limit, .r (sl 1 cI r.n.votes), .r (sl 4 Peer.c r.n.peers), .w (sl 12 Message.c r.told) (g 0 14)]), (2, .w (sl 1 cI (confAtS r.n 1000060)) (g1 0 0)), (4, I idx)]) (fun (zz : Nat × Int × Int) => match zz with | (f, idx, c) => CsP r.n f idx c) (fun (zz : Nat × Int × Int) => match zz with | (f, idx, c) => f) (70, _, _) rfl (Le.c rfl <| Le.c rfl <| Le.c (congrArg I (by rw [logLast_1 hl, IntKind.wrap_i64]; have h3 := hl.1; have h4 := hl.2.1; have h5 := hl.2.2; omega)) <| Le.e) (CsP.init hn) ?_
 rintro ⟨f, idx, c⟩ hP
 have hidx : idx ≤ 9223372036854775807 := by have h1 := hP.at_; have h2 := logLast_1 hl; have h3 := hl.2.1; have h4 := hl.2.2; have h5 := hP.f70; omega
 refine CW.seq ?_
 refine CW.k XK 121 1 [0,2,4,25] rfl ?_
 (conv=>whnf);refine ⟨rfl,?_⟩
 refine CW.cond rfl (fun h3 => ?_) (fun h3 => ?_)
 ·skip
  have hg : decide (idx > c) = true := h3
  refine CW.skip ?_
  refine CW.keep 121 [0,2,4] rfl ?_;(conv=>whnf);refine ⟨?_⟩
  refine CW.seq ?_
  refine CW.block ?_
  refine CW.seq ?_
  refine CW.region ?_
  refine RW.k XK 121 5 rfl ?_
  (conv=>whnf);refine ⟨rfl,?_⟩
  refine RW.build1c (c := cI) (v := r.n.id) (u := .v (.int .i64 r.n.id)) rfl rfl rfl rfl rfl rfl (.inl rfl) rfl rfl fun X4 => ?_
  refine RW.assignMove rfl rfl rfl (by decide) (Nat.le_of_ble_eq_true rfl) (Nat.le_of_ble_eq_true rfl) ?_
  refine RW.nil ?_
  refine CW.keep 121 [0,2,4,5] rfl ?_;(conv=>whnf);refine ⟨?_⟩
  refine CW.seq ?_
  refine CW.k XK 121 1 [0,2,4,5,6] rfl ?_
  (conv=>whnf);refine ⟨rfl,?_⟩
  refine CW.block ?_
  refine CW.loopI 121 (fun (zz : Nat × Value) => match zz with | (k, X) => [(0, .obj (bo 0) [I r.n.id, I r.n.term_, I r.n.vote, I r.n.role, I r.n.lead, .r (sl 1 cI r.n.conf), I r.n.log.start, I r.n.log.startTerm, .r (sl 3 Entry.c r.n.log.entries), I c, I r.n.clock, I r.n.limit, .r (sl 1 cI r.n.votes), .r (sl 4 Peer.c r.n.peers), .w (sl 12 Message.c r.told) (g 0 14)]), (2, .w (sl 1 cI (confAtS r.n 1000060)) (g1 0 0)), (4, I idx), (5, .w (sl 1 cI ([r.n.id] ++ ((r.n.peers.take k).filter (fun p => decide (p.match_ ≥ idx))).map (·.id))) X), (6, I (k : Int))]) (fun (zz : Nat × Value) => match zz with | (k, X) => k ≤ r.n.peers.length) (fun (zz : Nat × Value) => match zz with | (k, X) => r.n.peers.length - k) (0, _) rfl (Le.c rfl <| Le.c rfl <| Le.c rfl <| Le.c rfl <| Le.c rfl <| Le.e) (by omega) ?_
  rintro ⟨k, X⟩ hb
  have hl0 : r.n.peers.length ≤ maxLen := by simp only [maxLen]; omega
  have hvl := votes_len r.n.peers k idx
  refine CW.seq ?_
  refine CW.k XK 121 1 [0,2,4,5,6,41] rfl ?_
  (conv=>whnf);refine ⟨rfl,?_⟩
  refine CW.cond rfl (fun h5 => ?_) (fun h5 => ?_)
  ·skip
   have hik : k < r.n.peers.length := by have := h5; simp at this; first | exact this | omega | (simp; done) | (simp; omega)
   obtain ⟨ek, hek⟩ : ∃ e, r.n.peers[k]? = some e := ⟨_, List.getElem?_eq_getElem hik⟩
   have hdk := drop_get hek
   refine CW.skip ?_
   refine CW.keep 121 [0,2,4,5,6] rfl ?_;(conv=>whnf);refine ⟨?_⟩
   refine CW.seq ?_
   refine CW.block ?_
   refine CW.seq ?_
   refine CW.region ?_
   refine RW.k XK 121 6 rfl ?_
   (conv=>whnf);refine ⟨rfl,?_⟩
   refine RW.v rfl (V.indexS rfl rfl rfl rfl rfl rfl Peer.len hek) ?_
   refine RW.k XK 121 4 rfl ?_
   (conv=>whnf);refine ⟨rfl,?_⟩
   refine RW.nil ?_
   refine CW.keep 121 [0,2,4,5,6,54] rfl ?_;(conv=>whnf);refine ⟨?_⟩
   refine CW.cond rfl (fun h6 => ?_) (fun h6 => ?_)
   ·skip
    have hmt : decide (ek.match_ ≥ idx) = true := h6
    refine CW.region ?_
    refine RW.k XK 121 7 rfl ?_
    (conv=>whnf);refine ⟨rfl,?_⟩
    refine RW.v rfl (V.indexS rfl rfl rfl rfl rfl rfl Peer.len hek) ?_
    refine RW.k XK 121 2 rfl ?_
    (conv=>whnf);refine ⟨rfl,?_⟩
    refine RW.build1c (c := cI) (v := ek.id) (u := .v (.int .i64 ek.id)) rfl rfl rfl rfl rfl rfl (.inl rfl) rfl rfl fun X7 => ?_
    refine RW.appendSR (c := cI) (l1 := ([r.n.id] ++ ((r.n.peers.take k).filter (fun p => decide (p.match_ ≥ idx))).map (·.id))) (l2 := [ek.id]) rfl rfl rfl rfl rfl rfl rfl rfl (.al (k := none) (i := 65) (sz := 1) (V := X7) rfl rfl nofun) (by decide) (Nat.le_of_ble_eq_true rfl) cI.len (fun _ => rfl) rfl (by simp only [maxLen, List.length_append, List.length_singleton]; omega) (by simp only [maxLen, List.length_append, List.length_singleton]; omega) fun X8 => ?_
    refine RW.assignMove rfl rfl rfl (by decide) (Nat.le_of_ble_eq_true rfl) (Nat.le_of_ble_eq_true rfl) ?_
    refine RW.nil ?_
    refine CW.keep 121 [0,2,4,5,6] rfl ?_;(conv=>whnf);refine ⟨?_⟩
    refine CW.region ?_
    refine RW.k XK 121 1 rfl ?_
    (conv=>whnf);refine ⟨rfl,?_⟩
    refine RW.v rfl (V.inc rfl rfl rfl hik hl0) ?_
    refine RW.k XK 121 1 rfl ?_
    (conv=>whnf);refine ⟨rfl,?_⟩
    refine RW.nil ?_
    exact ⟨(k + 1, _), by simp only []; omega, (by omega), rfl, Le.c rfl <| Le.c rfl <| Le.c rfl <| Le.c (Dw_congr (by first | exact votes_yes hek hmt | exact votes_no hek hmt)) <| Le.c rfl <| Le.e⟩
   ·skip
    have hmt : decide (ek.match_ ≥ idx) = false := h6
    refine CW.skip ?_
    refine CW.keep 121 [0,2,4,5,6] rfl ?_;(conv=>whnf);refine ⟨?_⟩
    refine CW.region ?_
    refine RW.k XK 121 1 rfl ?_
    (conv=>whnf);refine ⟨rfl,?_⟩
    refine RW.v rfl (V.inc rfl rfl rfl hik hl0) ?_
    refine RW.k XK 121 1 rfl ?_
    (conv=>whnf);refine ⟨rfl,?_⟩
    refine RW.nil ?_
    exact ⟨(k + 1, _), by simp only []; omega, (by omega), rfl, Le.c rfl <| Le.c rfl <| Le.c rfl <| Le.c (Dw_congr (by first | exact votes_yes hek hmt | exact votes_no hek hmt)) <| Le.c rfl <| Le.e⟩
  ·skip
   have hik : r.n.peers.length ≤ k := by have := h5; simp at this; first | exact this | omega | (simp; done) | (simp; omega)
   have hdk : r.n.peers.drop k = [] := List.drop_eq_nil_of_le hik
   refine CW.exit ?_
   refine CW.keep 121 [0,2,4,5] rfl ?_;(conv=>whnf);refine ⟨?_⟩
   refine CW.seqJ 121 (fun (v9 : Bool) => [(0, .obj (bo 0) [I r.n.id, I r.n.term_, I r.n.vote, I r.n.role, I r.n.lead, .r (sl 1 cI r.n.conf), I r.n.log.start, I r.n.log.startTerm, .r (sl 3 Entry.c r.n.log.entries), I c, I r.n.clock, I r.n.limit, .r (sl 1 cI r.n.votes), .r (sl 4 Peer.c r.n.peers), .w (sl 12 Message.c r.told) (g 0 14)]), (2, .w (sl 1 cI (confAtS r.n 1000060)) (g1 0 0)), (4, I idx), (84, Bo v9)]) (fun v9 => v9 = (((logTerm r.n.log idx) == r.n.term_) && (most (confAtS r.n 1000060) ([r.n.id] ++ ((r.n.peers.take k).filter (fun p => decide (p.match_ ≥ idx))).map (·.id))))) ?_ ?_
   ·refine CW.drawn (by kernel_rfl) ?_
    refine RQ.k XK 121 6 rfl ?_
    (conv=>whnf);refine ⟨rfl,?_⟩
    refine RQ.cons rfl (QOK.call (spec_LogTerm_fn r.n.log idx hl hidx) rfl (.cons (.agg (.cons (.r .r) (.cons (.r .r) (.cons (.r .r) (.nil))))) (.cons (.one (.r .r)) (.nil))) ?_)
    refine RQ.k XK 121 7 rfl ?_
    (conv=>whnf);refine ⟨rfl,?_⟩
    refine RQ.gv rfl rfl rfl rfl (fun h10 => V.mv (d := .al 2 none 1 ((confAtS r.n 1000060).length) (g1 0 0) 0) rfl rfl) (fun h10 => ?_) (fun h10 => ?_)
    ·skip
     refine RQ.k XK 121 1 rfl ?_
     (conv=>whnf);refine ⟨rfl,?_⟩
     refine RQ.guardT rfl rfl rfl rfl (QOK.call (spec_Most_fn (confAtS r.n 1000060) ([r.n.id] ++ ((r.n.peers.take k).filter (fun p => decide (p.match_ ≥ idx))).map (·.id))) rfl (.cons (.one (.r (.al (k := none) (i := 2) (sz := 1) (V := (g1 0 0)) rfl rfl nofun))) (.cons (.one (.r (.al (k := none) (i := 5) (sz := 1) (V := X) rfl rfl nofun))) (.nil))) ?_)
     refine RQ.k XK 121 1 rfl ?_
     (conv=>whnf);refine ⟨rfl,?_⟩
     refine RQ.nil ?_
     exact ⟨_, by first | rfl | (simp_all; done) | (simp_all; omega) | grind, rfl, Le.of rfl⟩
    ·skip
     refine RQ.k XK 121 3 rfl ?_
     (conv=>whnf);refine ⟨rfl,?_⟩
     refine RQ.nil ?_
     exact ⟨_, by first | rfl | (simp_all; done) | (simp_all; omega) | grind, rfl, Le.of rfl⟩
   ·intro v9 hv11
    refine CW.cond rfl (fun h12 => ?_) (fun h12 => ?_)
    ·skip
     have hmy : ((logTerm r.n.log idx == r.n.term_) && most (confN r.n) (votesAt r.n idx)) = true := by have h9 := hv11.symm.trans h12; rw [conf_eqB hl, List.take_of_length_le hik] at h9; exact h9
     refine CW.region ?_
     refine RW.k XK 121 6 rfl ?_
     (conv=>whnf);refine ⟨rfl,?_⟩
     refine RW.nil ?_
     refine CW.keep 121 [0,2,4] rfl ?_;(conv=>whnf);refine ⟨?_⟩
     refine CW.region ?_
     refine RW.k XK 121 3 rfl ?_
     (conv=>whnf);refine ⟨rfl,?_⟩
     refine RW.nil ?_
     exact ⟨(f - 1, _, _), by have := (hP.lt hl hg).1; simp only []; omega, (by first | exact hP.yes hl hg hmy | exact hP.no hl hg hmn), rfl, Le.c rfl <| Le.c rfl <| Le.c rfl <| Le.e⟩
    ·skip
     have hmn : ((logTerm r.n.log idx == r.n.term_) && most (confN r.n) (votesAt r.n idx)) = false := by have h9 := hv11.symm.trans h12; rw [conf_eqB hl, List.take_of_length_le hik] at h9; exact h9
     refine CW.skip ?_
     refine CW.keep 121 [0,2,4] rfl ?_;(conv=>whnf);refine ⟨?_⟩
     refine CW.region ?_
     refine RW.k XK 121 3 rfl ?_
     (conv=>whnf);refine ⟨rfl,?_⟩
     refine RW.nil ?_
     exact ⟨(f - 1, _, _), by have := (hP.lt hl hg).1; simp only []; omega, (by first | exact hP.yes hl hg hmy | exact hP.no hl hg hmn), rfl, Le.c rfl <| Le.c rfl <| Le.c rfl <| Le.e⟩
 ·skip
  have hfin := hP.fin hn h3
  have hclow := hP.low
  refine CW.exit ?_
  refine CW.keep 121 [0,2] rfl ?_;(conv=>whnf);refine ⟨?_⟩
  refine CW.seqJ 121 (fun (v13 : Bool) => [(0, .obj (bo 0) [I r.n.id, I r.n.term_, I r.n.vote, I r.n.role, I r.n.lead, .r (sl 1 cI r.n.conf), I r.n.log.start, I r.n.log.startTerm, .r (sl 3 Entry.c r.n.log.entries), I c, I r.n.clock, I r.n.limit, .r (sl 1 cI r.n.votes), .r (sl 4 Peer.c r.n.peers), .w (sl 12 Message.c r.told) (g 0 14)]), (118, Bo v13)]) (fun v13 => v13 = (((r.n.role == 2) && (!(hasI (confAtS r.n 1000060) r.n.id))) && decide ((confIx (⟨r.n.id, r.n.term_, r.n.vote, r.n.role, r.n.lead, r.n.conf, r.n.log, c, r.n.clock, r.n.limit, r.n.votes, r.n.peers⟩ : Node).log (⟨r.n.id, r.n.term_, r.n.vote, r.n.role, r.n.lead, r.n.conf, r.n.log, c, r.n.clock, r.n.limit, r.n.votes, r.n.peers⟩ : Node).log.entries.length) ≤ c))) ?_ ?_
  ·refine CW.drawn (by kernel_rfl) ?_
   refine RQ.k XK 121 7 rfl ?_
   (conv=>whnf);refine ⟨rfl,?_⟩
   refine RQ.gv rfl rfl rfl rfl (fun h14 => V.mv (d := .al 2 none 1 ((confAtS r.n 1000060).length) (g1 0 0) 0) rfl rfl) (fun h14 => ?_) (fun h14 => ?_)
   ·skip
    refine RQ.k XK 121 5 rfl ?_
    (conv=>whnf);refine ⟨rfl,?_⟩
    refine RQ.guardT rfl rfl rfl rfl (QOK.call (spec_l05In_fn (confAtS r.n 1000060) r.n.id) rfl (.cons (.one (.r (.al (k := none) (i := 2) (sz := 1) (V := (g1 0 0)) rfl rfl nofun))) (.cons (.one (.r .r)) (.nil))) ?_)
    refine RQ.k XK 121 3 rfl ?_
    (conv=>whnf);refine ⟨rfl,?_⟩
    refine RQ.gv rfl rfl rfl rfl (fun h15 => V.mv (d := .pt 0 (bo 0) 0) rfl rfl) (fun h15 => ?_) (fun h15 => ?_)
    ·skip
     refine RQ.k XK 121 3 rfl ?_
     (conv=>whnf);refine ⟨rfl,?_⟩
     refine RQ.guardT rfl rfl rfl rfl (QOK.call (spec_l18ConfIndex_fn (⟨r.n.id, r.n.term_, r.n.vote, r.n.role, r.n.lead, r.n.conf, r.n.log, c, r.n.clock, r.n.limit, r.n.votes, r.n.peers⟩ : Node) hl) rfl (.cons (.agg (.cons (.r .r) (.cons (.r .r) (.cons (.r .r) (.cons (.r .r) (.cons (.r .r) (.cons (.r .r) (.cons (.r .r) (.cons (.r .r) (.cons (.r .r) (.cons (.r .r) (.cons (.r .r) (.cons (.r .r) (.cons (.r .r) (.cons (.r .r) (.nil)))))))))))))))) (.nil)) ?_)
     refine RQ.k XK 121 7 rfl ?_
     (conv=>whnf);refine ⟨rfl,?_⟩
     refine RQ.nil ?_
     exact ⟨_, by first | rfl | (simp_all; done) | (simp_all; omega) | grind, rfl, Le.of rfl⟩
    ·skip
     refine RQ.k XK 121 11 rfl ?_
     (conv=>whnf);refine ⟨rfl,?_⟩
     refine RQ.nil ?_
     exact ⟨_, by first | rfl | (simp_all; done) | (simp_all; omega) | grind, rfl, Le.of rfl⟩
   ·skip
    refine RQ.k XK 121 21 rfl ?_
    (conv=>whnf);refine ⟨rfl,?_⟩
    refine RQ.nil ?_
    exact ⟨_, by first | rfl | (simp_all; done) | (simp_all; omega) | grind, rfl, Le.of rfl⟩
  ·intro v13 hv16
   refine CW.cond rfl (fun h17 => ?_) (fun h17 => ?_)
   ·skip
    refine CW.region ?_
    refine RW.k XK 121 1 rfl ?_
    (conv=>whnf);refine ⟨rfl,?_⟩
    refine RW.callP (k := 0) (spec_l18Follow_fn (⟨(⟨r.n.id, r.n.term_, r.n.vote, r.n.role, r.n.lead, r.n.conf, r.n.log, c, r.n.clock, r.n.limit, r.n.votes, r.n.peers⟩ : Node), r.told⟩ : l18Run) 0) rfl rfl (Nat.le_of_ble_eq_true rfl) (by decide) rfl (DT.r (DT.r (DT.r (DT.r (DT.r (DT.r (DT.r (DT.r (DT.r (DT.r (DT.r (DT.r (DT.r (DT.r (DT.w DT.e))))))))))))))) (AsPs.here rfl (.cons (.one (.r .r)) (.nil))) fun g18 q19 => ?_
    refine RW.nil ?_
    exact Post.tup (by decide) RVs.e (AOs.obE (f := fun e => l18Run.m e) (e' := (⟨(followN (⟨r.n.id, r.n.term_, r.n.vote, r.n.role, r.n.lead, r.n.conf, r.n.log, c, r.n.clock, r.n.limit, r.n.votes, r.n.peers⟩ : Node) 0), r.told⟩ : l18Run)) rfl (DT.r (DT.r (DT.r (DT.r (DT.r (DT.r (DT.r (DT.r (DT.r (DT.r (DT.r (DT.r (DT.r (DT.r (DT.w DT.e))))))))))))))) (by rw [com_eq hn hfin hclow v13 (by rw [hv16, conf_eqB hl])]; first | (rw [if_pos h17]; done) | (rw [if_neg (by rw [h17]; simp)]; done)) AOs.e)
   ·skip
    refine CW.skip ?_
    exact Post.tup (by decide) RVs.e (AOs.obE (f := fun e => l18Run.m e) (e' := (⟨(⟨r.n.id, r.n.term_, r.n.vote, r.n.role, r.n.lead, r.n.conf, r.n.log, c, r.n.clock, r.n.limit, r.n.votes, r.n.peers⟩ : Node), r.told⟩ : l18Run)) rfl (DT.r (DT.r (DT.r (DT.r (DT.r (DT.r (DT.r (DT.r (DT.r (DT.r (DT.r (DT.r (DT.r (DT.r (DT.w DT.e))))))))))))))) (by rw [com_eq hn hfin hclow v13 (by rw [hv16, conf_eqB hl])]; first | (rw [if_pos h17]; done) | (rw [if_neg (by rw [h17]; simp)]; done)) AOs.e)
end Go.Proofs.Ytbiocicogminlaa.Y
