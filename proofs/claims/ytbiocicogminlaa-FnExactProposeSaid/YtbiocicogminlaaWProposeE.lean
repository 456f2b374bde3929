import Derived.Test.YtbiocicogminlaaWProposeD
namespace Go.Proofs.Ytbiocicogminlaa.Y
open Go Go.RowKit Go.Eng Go.Proofs
set_option maxRecDepth 10000
set_option maxHeartbeats 4000000 in
theorem spec_l18Commit_fn (r : l18Run) (hn : ComOk r.n) (hok : okToNode r.n) : Eng.Fn E.P 94 [.ob (l18Run.m r)] (.tup []) [.ob (l18Run.m (⟨commitN r.n, r.told⟩ : l18Run))] := by
 refine Eng.Fn.intro (E := E) (rvs := []) Try.func94 rfl rfl rfl (by simp [outSlots, moved, rvSlot, sl]) ?_
 intro B g bo
 refine CW.keep 121 [0] rfl ?_;(conv=>whnf);refine ⟨?_⟩
 have hl := hn.log
 have hpm : r.n.peers.length ≤ 1048576 := hok.2.2.2.1
 refine CW.seq ?_
 refine CW.region ?_
 refine RW.k XK 121 4 rfl ?_
 (conv=>whnf);refine ⟨rfl,?_⟩
 refine RW.call rfl (spec_ConfOf_fn r.n hok) rfl (.cons (.agg (.cons (.r .r) (.cons (.r .r) (.cons (.r .r) (.cons (.r .r) (.cons (.r .r) (.cons (.r .r) (.cons (.r .r) (.cons (.r .r) (.cons (.r .r) (.cons (.r .r) (.cons (.r .r) (.cons (.r .r) (.cons (.r .r) (.cons (.r .r) (.nil)))))))))))))))) (.nil)) fun g1 => ?_
 refine RW.assignMove rfl rfl rfl (by decide) (Nat.le_of_ble_eq_true rfl) (Nat.le_of_ble_eq_true rfl) ?_
 refine RW.nil ?_
 refine CW.keep 121 [0,2] rfl ?_;(conv=>whnf);refine ⟨?_⟩
 refine CW.seq ?_
 refine CW.region ?_
 refine RW.k XK 121 5 rfl ?_
 (conv=>whnf);refine ⟨rfl,?_⟩
 refine RW.call rfl (spec_l06Last_fn r.n.log) rfl (.cons (.agg (.cons (.r .r) (.cons (.r .r) (.cons (.r .r) (.nil))))) (.nil)) fun g2 => ?_
 refine RW.k XK 121 1 rfl ?_
 (conv=>whnf);refine ⟨rfl,?_⟩
 refine RW.nil ?_
 refine CW.keep 121 [0,2,3] rfl ?_;(conv=>whnf);refine ⟨?_⟩
 refine CW.seq ?_
 refine CW.k XK 121 1 [0,2,4] rfl ?_
 (conv=>whnf);refine ⟨rfl,?_⟩
 refine CW.block ?_
 refine CW.loopI 121 (fun (zz : Nat × Int × Int) => match zz with | (f, idx, c) => [(0, .obj (bo 0) [I r.n.id, I r.n.term_, I r.n.vote, I r.n.role, I r.n.lead, .r (sl 1 cI r.n.conf), I r.n.log.start, I r.n.log.startTerm, .r (sl 3 Entry.c r.n.log.entries), I c, I r.n.clock, I r.n.limit, .r (sl 1 cI r.n.votes), .r (sl 4 Peer.c r.n.peers), .w (sl 12 Message.c r.told) (g 0 14)]), (2, .w (sl 1 cI (confAtS r.n 1000060)) (g1 0 0)), (4, I idx)]) (fun (zz : Nat × Int × Int) => match zz with | (f, idx, c) => CsP r.n f idx c) (fun (zz : Nat × Int × Int) => match zz with | (f, idx, c) => f) (70, _, _) rfl (Le.c rfl <| Le.c rfl <| Le.c (congrArg I (by rw [logLast_1 hl, IntKind.wrap_i64]; have h3 := hl.1; have h4 := hl.2.1; have h5 := hl.2.2; omega)) <| Le.e) (CsP.init hn) ?_
 rintro ⟨f, idx, c⟩ hP
 have hidx : idx ≤ 9223372036854775807 := by have h1 := hP.at_; have h2 := logLast_1 hl; have h3 := hl.2.1; have h4 := hl.2.2; have h5 := hP.f70; omega
 refine CW.seq ?_
 refine CW.k XK 121 1 [0,2,4,25] rfl ?_
 (conv=>whnf);refine ⟨rfl,?_⟩
 refine CW.cond rfl (fun h3 => ?_) (fun h3 => ?_)
 ·skip
  have hg : decide (idx > c) = true := h3
  refine CW.skip ?_
  refine CW.keep 121 [0,2,4] rfl ?_;(conv=>whnf);refine ⟨?_⟩
  refine CW.seq ?_
  refine CW.block ?_
  refine CW.seq ?_
  refine CW.region ?_
  refine RW.k XK 121 5 rfl ?_
  (conv=>whnf);refine ⟨rfl,?_⟩
  refine RW.build1c (c := cI) (v := r.n.id) (u := .v (.int .i64 r.n.id)) rfl rfl rfl rfl rfl rfl (.inl rfl) rfl rfl fun X4 => ?_
  refine RW.assignMove rfl rfl rfl (by decide) (Nat.le_of_ble_eq_true rfl) (Nat.le_of_ble_eq_true rfl) ?_
  refine RW.nil ?_
  refine CW.keep 121 [0,2,4,5] rfl ?_;(conv=>whnf);refine ⟨?_⟩
  refine CW.seq ?_
  refine CW.k XK 121 1 [0,2,4,5,6] rfl ?_
  (conv=>whnf);refine ⟨rfl,?_⟩
  refine CW.block ?_
  refine CW.loopI 121 (fun (zz : Nat × Value) => match zz with | (k, X) => [(0, .obj (bo 0) [I r.n.id, I r.n.term_, I r.n.vote, I r.n.role, I r.n.lead, .r (sl 1 cI r.n.conf), I r.n.log.start, I r.n.log.startTerm, .r (sl 3 Entry.c r.n.log.entries), I c, I r.n.clock, I r.n.limit, .r (sl 1 cI r.n.votes), .r (sl 4 Peer.c r.n.peers), .w (sl 12 Message.c r.told) (g 0 14)]), (2, .w (sl 1 cI (confAtS r.n 1000060)) (g1 0 0)), (4, I idx), (5, .w (sl 1 cI ([r.n.id] ++ ((r.n.peers.take k).filter (fun p => decide (p.match_ ≥ idx))).map (·.id))) X), (6, I (k : Int))]) (fun (zz : Nat × Value) => match zz with | (k, X) => k ≤ r.n.peers.length) (fun (zz : Nat × Value) => match zz with | (k, X) => r.n.peers.length - k) (0, _) rfl (Le.c rfl <| Le.c rfl <| Le.c rfl <| Le.c rfl <| Le.c rfl <| Le.e) (by omega) ?_
  rintro ⟨k, X⟩ hb
  have hl0 : r.n.peers.length ≤ maxLen := by simp only [maxLen]; omega
  have hvl := votes_len r.n.peers k idx
  refine CW.seq ?_
  refine CW.k XK 121 1 [0,2,4,5,6,41] rfl ?_
  (conv=>whnf);refine ⟨rfl,?_⟩
  refine CW.cond rfl (fun h5 => ?_) (fun h5 => ?_)
  ·skip
   have hik : k < r.n.peers.length := by have := h5; simp at this; first | exact this | omega | (simp; done) | (simp; omega)
   obtain ⟨ek, hek⟩ : ∃ e, r.n.peers[k]? = some e := ⟨_, List.getElem?_eq_getElem hik⟩
   have hdk := drop_get hek
   refine CW.skip ?_
   refine CW.keep 121 [0,2,4,5,6] rfl ?_;(conv=>whnf);refine ⟨?_⟩
   refine CW.seq ?_
   refine CW.block ?_
   refine CW.seq ?_
   refine CW.region ?_
   refine RW.k XK 121 6 rfl ?_
   (conv=>whnf);refine ⟨rfl,?_⟩
   refine RW.v rfl (V.indexS rfl rfl rfl rfl rfl rfl Peer.len hek) ?_
   refine RW.k XK 121 4 rfl ?_
   (conv=>whnf);refine ⟨rfl,?_⟩
   refine RW.nil ?_
   refine CW.keep 121 [0,2,4,5,6,54] rfl ?_;(conv=>whnf);refine ⟨?_⟩
   refine CW.cond rfl (fun h6 => ?_) (fun h6 => ?_)
   ·skip
    have hmt : decide (ek.match_ ≥ idx) = true := h6
    refine CW.region ?_
    refine RW.k XK 121 7 rfl ?_
    (conv=>whnf);refine ⟨rfl,?_⟩
    refine RW.v rfl (V.indexS rfl rfl rfl rfl rfl rfl Peer.len hek) ?_
    refine RW.k XK 121 2 rfl ?_
    (conv=>whnf);refine ⟨rfl,?_⟩
    refine RW.build1c (c := cI) (v := ek.id) (u := .v (.int .i64 ek.id)) rfl rfl rfl rfl rfl rfl (.inl rfl) rfl rfl fun X7 => ?_
    refine RW.appendSR (c := cI) (l1 := ([r.n.id] ++ ((r.n.peers.take k).filter (fun p => decide (p.match_ ≥ idx))).map (·.id))) (l2 := [ek.id]) rfl rfl rfl rfl rfl rfl rfl rfl (.al (k := none) (i := 65) (sz := 1) (V := X7) rfl rfl nofun) (by decide) (Nat.le_of_ble_eq_true rfl) cI.len (fun _ => rfl) rfl (by simp only [maxLen, List.length_append, List.length_singleton]; omega) (by simp only [maxLen, List.length_append, List.length_singleton]; omega) fun X8 => ?_
    refine RW.assignMove rfl rfl rfl (by decide) (Nat.le_of_ble_eq_true rfl) (Nat.le_of_ble_eq_true rfl) ?_
    refine RW.nil ?_
    refine CW.keep 121 [0,2,4,5,6] rfl ?_;(conv=>whnf);refine ⟨?_⟩
    refine CW.region ?_
    refine RW.k XK 121 1 rfl ?_
    (conv=>whnf);refine ⟨rfl,?_⟩
    refine RW.v rfl (V.inc rfl rfl rfl hik hl0) ?_
    refine RW.k XK 121 1 rfl ?_
    (conv=>whnf);refine ⟨rfl,?_⟩
    refine RW.nil ?_
    exact ⟨(k + 1, _), by simp only []; omega, (by omega), rfl, Le.c rfl <| Le.c rfl <| Le.c rfl <| Le.c (Dw_congr (by first | exact votes_yes hek hmt | exact votes_no hek hmt)) <| Le.c rfl <| Le.e⟩
   ·skip
    have hmt : decide (ek.match_ ≥ idx) = false := h6
    refine CW.skip ?_
    refine CW.keep 121 [0,2,4,5,6] rfl ?_;(conv=>whnf);refine ⟨?_⟩
    refine CW.region ?_
    refine RW.k XK 121 1 rfl ?_
    (conv=>whnf);refine ⟨rfl,?_⟩
    refine RW.v rfl (V.inc rfl rfl rfl hik hl0) ?_
    refine RW.k XK 121 1 rfl ?_
    (conv=>whnf);refine ⟨rfl,?_⟩
    refine RW.nil ?_
    exact ⟨(k + 1, _), by simp only []; omega, (by omega), rfl, Le.c rfl <| Le.c rfl <| Le.c rfl <| Le.c (Dw_congr (by first | exact votes_yes hek hmt | exact votes_no hek hmt)) <| Le.c rfl <| Le.e⟩
  ·skip
   have hik : r.n.peers.length ≤ k := by have := h5; simp at this; first | exact this | omega | (simp; done) | (simp; omega)
   have hdk : r.n.peers.drop k = [] := List.drop_eq_nil_of_le hik
   refine CW.exit ?_
   refine CW.keep 121 [0,2,4,5] rfl ?_;(conv=>whnf);refine ⟨?_⟩
   refine CW.seqJ 121 (fun (v9 : Bool) => [(0, .obj (bo 0) [I r.n.id, I r.n.term_, I r.n.vote, I r.n.role, I r.n.lead, .r (sl 1 cI r.n.conf), I r.n.log.start, I r.n.log.startTerm, .r (sl 3 Entry.c r.n.log.entries), I c, I r.n.clock, I r.n.limit, .r (sl 1 cI r.n.votes), .r (sl 4 Peer.c r.n.peers), .w (sl 12 Message.c r.told) (g 0 14)]), (2, .w (sl 1 cI (confAtS r.n 1000060)) (g1 0 0)), (4, I idx), (84, Bo v9)]) (fun v9 => v9 = (((logTerm r.n.log idx) == r.n.term_) && (most (confAtS r.n 1000060) ([r.n.id] ++ ((r.n.peers.take k).filter (fun p => decide (p.match_ ≥ idx))).map (·.id))))) ?_ ?_
   ·refine CW.drawn (by kernel_rfl) ?_
    refine RQ.k XK 121 6 rfl ?_
    (conv=>whnf);refine ⟨rfl,?_⟩
    refine RQ.cons rfl (QOK.call (spec_LogTerm_fn r.n.log idx hl hidx) rfl (.cons (.agg (.cons (.r .r) (.cons (.r .r) (.cons (.r .r) (.nil))))) (.cons (.one (.r .r)) (.nil))) ?_)
    refine RQ.k XK 121 7 rfl ?_
    (conv=>whnf);refine ⟨rfl,?_⟩
    refine RQ.gv rfl rfl rfl rfl (fun h10 => V.mv (d := .al 2 none 1 ((confAtS r.n 1000060).length) (g1 0 0) 0) rfl rfl) (fun h10 => ?_) (fun h10 => ?_)
    ·skip
     refine RQ.k XK 121 1 rfl ?_
     (conv=>whnf);refine ⟨rfl,?_⟩
     refine RQ.guardT rfl rfl rfl rfl (QOK.call (spec_Most_fn (confAtS r.n 1000060) ([r.n.id] ++ ((r.n.peers.take k).filter (fun p => decide (p.match_ ≥ idx))).map (·.id))) rfl (.cons (.one (.r (.al (k := none) (i := 2) (sz := 1) (V := (g1 0 0)) rfl rfl nofun))) (.cons (.one (.r (.al (k := none) (i := 5) (sz := 1) (V := X) rfl rfl nofun))) (.nil))) ?_)
     refine RQ.k XK 121 1 rfl ?_
     (conv=>whnf);refine ⟨rfl,?_⟩
     refine RQ.nil ?_
     exact ⟨_, by first | rfl | (simp_all; done) | (simp_all; omega) | grind, rfl, Le.of rfl⟩
    ·skip
     refine RQ.k XK 121 3 rfl ?_
     (conv=>whnf);refine ⟨rfl,?_⟩
     refine RQ.nil ?_
     exact ⟨_, by first | rfl | (simp_all; done) | (simp_all; omega) | grind, rfl, Le.of rfl⟩
   ·intro v9 hv11
    refine CW.cond rfl (fun h12 => ?_) (fun h12 => ?_)
    ·skip
     have hmy : ((logTerm r.n.log idx == r.n.term_) && most (confN r.n) (votesAt r.n idx)) = true := by have h9 := hv11.symm.trans h12; rw [conf_eqB hl, List.take_of_length_le hik] at h9; exact h9
     refine CW.region ?_
     refine RW.k XK 121 6 rfl ?_
     (conv=>whnf);refine ⟨rfl,?_⟩
     refine RW.nil ?_
     refine CW.keep 121 [0,2,4] rfl ?_;(conv=>whnf);refine ⟨?_⟩
     refine CW.region ?_
     refine RW.k XK 121 3 rfl ?_
     (conv=>whnf);refine ⟨rfl,?_⟩
     refine RW.nil ?_
     exact ⟨(f - 1, _, _), by have := (hP.lt hl hg).1; simp only []; omega, (by first | exact hP.yes hl hg hmy | exact hP.no hl hg hmn), rfl, Le.c rfl <| Le.c rfl <| Le.c rfl <| Le.e⟩
    ·skip
     have hmn : ((logTerm r.n.log idx == r.n.term_) && most (confN r.n) (votesAt r.n idx)) = false := by have h9 := hv11.symm.trans h12; rw [conf_eqB hl, List.take_of_length_le hik] at h9; exact h9
     refine CW.skip ?_
     refine CW.keep 121 [0,2,4] rfl ?_;(conv=>whnf);refine ⟨?_⟩
     refine CW.region ?_
     refine RW.k XK 121 3 rfl ?_
     (conv=>whnf);refine ⟨rfl,?_⟩
     refine RW.nil ?_
     exact ⟨(f - 1, _, _), by have := (hP.lt hl hg).1; simp only []; omega, (by first | exact hP.yes hl hg hmy | exact hP.no hl hg hmn), rfl, Le.c rfl <| Le.c rfl <| Le.c rfl <| Le.e⟩
 ·skip
  have hfin := hP.fin hn h3
  have hclow := hP.low
  refine CW.exit ?_
  refine CW.keep 121 [0,2] rfl ?_;(conv=>whnf);refine ⟨?_⟩
  refine CW.seqJ 121 (fun (v13 : Bool) => [(0, .obj (bo 0) [I r.n.id, I r.n.term_, I r.n.vote, I r.n.role, I r.n.lead, .r (sl 1 cI r.n.conf), I r.n.log.start, I r.n.log.startTerm, .r (sl 3 Entry.c r.n.log.entries), I c, I r.n.clock, I r.n.limit, .r (sl 1 cI r.n.votes), .r (sl 4 Peer.c r.n.peers), .w (sl 12 Message.c r.told) (g 0 14)]), (118, Bo v13)]) (fun v13 => v13 = (((r.n.role == 2) && (!(hasI (confAtS r.n 1000060) r.n.id))) && decide ((confIx (⟨r.n.id, r.n.term_, r.n.vote, r.n.role, r.n.lead, r.n.conf, r.n.log, c, r.n.clock, r.n.limit, r.n.votes, r.n.peers⟩ : Node).log (⟨r.n.id, r.n.term_, r.n.vote, r.n.role, r.n.lead, r.n.conf, r.n.log, c, r.n.clock, r.n.limit, r.n.votes, r.n.peers⟩ : Node).log.entries.length) ≤ c))) ?_ ?_
  ·refine CW.drawn (by kernel_rfl) ?_
   refine RQ.k XK 121 7 rfl ?_
   (conv=>whnf);refine ⟨rfl,?_⟩
   refine RQ.gv rfl rfl rfl rfl (fun h14 => V.mv (d := .al 2 none 1 ((confAtS r.n 1000060).length) (g1 0 0) 0) rfl rfl) (fun h14 => ?_) (fun h14 => ?_)
   ·skip
    refine RQ.k XK 121 5 rfl ?_
    (conv=>whnf);refine ⟨rfl,?_⟩
    refine RQ.guardT rfl rfl rfl rfl (QOK.call (spec_l05In_fn (confAtS r.n 1000060) r.n.id) rfl (.cons (.one (.r (.al (k := none) (i := 2) (sz := 1) (V := (g1 0 0)) rfl rfl nofun))) (.cons (.one (.r .r)) (.nil))) ?_)
    refine RQ.k XK 121 3 rfl ?_
    (conv=>whnf);refine ⟨rfl,?_⟩
    refine RQ.gv rfl rfl rfl rfl (fun h15 => V.mv (d := .pt 0 (bo 0) 0) rfl rfl) (fun h15 => ?_) (fun h15 => ?_)
    ·skip
     refine RQ.k XK 121 3 rfl ?_
     (conv=>whnf);refine ⟨rfl,?_⟩
     refine RQ.guardT rfl rfl rfl rfl (QOK.call (spec_l18ConfIndex_fn (⟨r.n.id, r.n.term_, r.n.vote, r.n.role, r.n.lead, r.n.conf, r.n.log, c, r.n.clock, r.n.limit, r.n.votes, r.n.peers⟩ : Node) hl) rfl (.cons (.agg (.cons (.r .r) (.cons (.r .r) (.cons (.r .r) (.cons (.r .r) (.cons (.r .r) (.cons (.r .r) (.cons (.r .r) (.cons (.r .r) (.cons (.r .r) (.cons (.r .r) (.cons (.r .r) (.cons (.r .r) (.cons (.r .r) (.cons (.r .r) (.nil)))))))))))))))) (.nil)) ?_)
     refine RQ.k XK 121 7 rfl ?_
     (conv=>whnf);refine ⟨rfl,?_⟩
     refine RQ.nil ?_
     exact ⟨_, by first | rfl | (simp_all; done) | (simp_all; omega) | grind, rfl, Le.of rfl⟩
    ·skip
     refine RQ.k XK 121 11 rfl ?_
     (conv=>whnf);refine ⟨rfl,?_⟩
     refine RQ.nil ?_
     exact ⟨_, by first | rfl | (simp_all; done) | (simp_all; omega) | grind, rfl, Le.of rfl⟩
   ·skip
    refine RQ.k XK 121 21 rfl ?_
    (conv=>whnf);refine ⟨rfl,?_⟩
    refine RQ.nil ?_
    exact ⟨_, by first | rfl | (simp_all; done) | (simp_all; omega) | grind, rfl, Le.of rfl⟩
  ·intro v13 hv16
   refine CW.cond rfl (fun h17 => ?_) (fun h17 => ?_)
   ·skip
    refine CW.region ?_
    refine RW.k XK 121 1 rfl ?_
    (conv=>whnf);refine ⟨rfl,?_⟩
    refine RW.callP (k := 0) (spec_l18Follow_fn (⟨(⟨r.n.id, r.n.term_, r.n.vote, r.n.role, r.n.lead, r.n.conf, r.n.log, c, r.n.clock, r.n.limit, r.n.votes, r.n.peers⟩ : Node), r.told⟩ : l18Run) 0) rfl rfl (Nat.le_of_ble_eq_true rfl) (by decide) rfl (DT.r (DT.r (DT.r (DT.r (DT.r (DT.r (DT.r (DT.r (DT.r (DT.r (DT.r (DT.r (DT.r (DT.r (DT.w DT.e))))))))))))))) (AsPs.here rfl (.cons (.one (.r .r)) (.nil))) fun g18 q19 => ?_
    refine RW.nil ?_
    exact Post.tup (by decide) RVs.e (AOs.obE (f := fun e => l18Run.m e) (e' := (⟨(followN (⟨r.n.id, r.n.term_, r.n.vote, r.n.role, r.n.lead, r.n.conf, r.n.log, c, r.n.clock, r.n.limit, r.n.votes, r.n.peers⟩ : Node) 0), r.told⟩ : l18Run)) rfl (DT.r (DT.r (DT.r (DT.r (DT.r (DT.r (DT.r (DT.r (DT.r (DT.r (DT.r (DT.r (DT.r (DT.r (DT.w DT.e))))))))))))))) (by rw [com_eq hn hfin hclow v13 (by rw [hv16, conf_eqB hl])]; first | (rw [if_pos h17]; done) | (rw [if_neg (by rw [h17]; simp)]; done)) AOs.e)
   ·skip
    refine CW.skip ?_
    exact Post.tup (by decide) RVs.e (AOs.obE (f := fun e => l18Run.m e) (e' := (⟨(⟨r.n.id, r.n.term_, r.n.vote, r.n.role, r.n.lead, r.n.conf, r.n.log, c, r.n.clock, r.n.limit, r.n.votes, r.n.peers⟩ : Node), r.told⟩ : l18Run)) rfl (DT.r (DT.r (DT.r (DT.r (DT.r (DT.r (DT.r (DT.r (DT.r (DT.r (DT.r (DT.r (DT.r (DT.r (DT.w DT.e))))))))))))))) (by rw [com_eq hn hfin hclow v13 (by rw [hv16, conf_eqB hl])]; first | (rw [if_pos h17]; done) | (rw [if_neg (by rw [h17]; simp)]; done)) AOs.e)
set_option maxHeartbeats 4000000 in
theorem spec_l18Near_fn (a : List Int) (b : List Int) : Eng.Fn E.P 92 [.one (.r (sl 1 cI a)), .one (.r (sl 1 cI b))] (.one (.one (.w (.v (.bool (near a b)))))) [.one (.r (sl 1 cI a)), .one (.r (sl 1 cI b))] := by
 refine Eng.Fn.intro (E := E) (rvs := [.tmp 4]) Try.func92 rfl rfl rfl (by simp [outSlots, moved, rvSlot, sl]) ?_
 intro B g bo
 refine CW.bound (x := .tmp 0) (n := a.length) (AsT.r) (fun hl0 => ?_)
 refine CW.bound (x := .tmp 1) (n := b.length) (AsT.r) (fun hl1 => ?_)
 refine CW.keep 22 [0,1] rfl ?_;(conv=>whnf);refine ⟨?_⟩
 refine CW.k XK 22 2 [0,1,5] rfl ?_
 (conv=>whnf);refine ⟨rfl,?_⟩
 refine CW.seq ?_
 refine CW.k XK 22 1 [0,1,5,6] rfl ?_
 (conv=>whnf);refine ⟨rfl,?_⟩
 refine CW.block ?_
 refine CW.loopI 22 (fun (i : Nat) => [(0, .r (sl 1 cI a)), (1, .r (sl 1 cI b)), (5, I (nearD a b i)), (6, I (i : Int))]) (fun (i : Nat) => 1 ≤ i ∧ i ≤ 5) (fun (i : Nat) => 5 - i) 1 rfl (Le.c rfl <| Le.c rfl <| Le.c rfl <| Le.c rfl <| Le.e) ⟨by omega, by omega⟩ ?_
 rintro i ⟨hb1, hb5⟩
 refine CW.seq ?_
 refine CW.k XK 22 1 [0,1,5,6,8] rfl ?_
 (conv=>whnf);refine ⟨rfl,?_⟩
 refine CW.cond rfl (fun h1 => ?_) (fun h1 => ?_)
 ·skip
  refine CW.skip ?_
  refine CW.keep 22 [0,1,5,6] rfl ?_;(conv=>whnf);refine ⟨?_⟩
  refine CW.seq ?_
  refine CW.block ?_
  refine CW.seq ?_
  refine CW.region ?_
  refine RW.k XK 22 2 rfl ?_
  (conv=>whnf);refine ⟨rfl,?_⟩
  refine RW.call rfl (spec_l05In_fn a (i : Int)) rfl (.cons (.one (.r .r)) (.cons (.one (.r .r)) (.nil))) fun g2 => ?_
  refine RW.k XK 22 2 rfl ?_
  (conv=>whnf);refine ⟨rfl,?_⟩
  refine RW.call rfl (spec_l05In_fn b (i : Int)) rfl (.cons (.one (.r .r)) (.cons (.one (.r .r)) (.nil))) fun g3 => ?_
  refine RW.v rfl (V.eqBool rfl rfl rfl (by kernel_rfl) (.inr ⟨rfl, rfl⟩)) ?_
  refine RW.nil ?_
  refine CW.keep 22 [0,1,5,6,17] rfl ?_;(conv=>whnf);refine ⟨?_⟩
  refine CW.cond rfl (fun h4 => ?_) (fun h4 => ?_)
  ·skip
   have hnr : (hasI a (i : Int) != hasI b (i : Int)) = true := h4
   refine CW.region ?_
   refine RW.k XK 22 3 rfl ?_
   (conv=>whnf);refine ⟨rfl,?_⟩
   refine RW.nil ?_
   refine CW.keep 22 [0,1,5,6] rfl ?_;(conv=>whnf);refine ⟨?_⟩
   refine CW.region ?_
   refine RW.k XK 22 1 rfl ?_
   (conv=>whnf);refine ⟨rfl,?_⟩
   refine RW.v rfl (V.inc rfl rfl rfl (show i < 6 by omega) (by decide)) ?_
   refine RW.k XK 22 1 rfl ?_
   (conv=>whnf);refine ⟨rfl,?_⟩
   refine RW.nil ?_
   exact ⟨i + 1, by simp at h1; omega, ⟨by omega, by simp at h1; omega⟩, rfl, Le.c rfl <| Le.c rfl <| Le.c (congrArg I (by first | exact nearD_yes hb1 hnr | exact nearD_no hb1 hnr)) <| Le.c rfl <| Le.e⟩
  ·skip
   have hnr : (hasI a (i : Int) != hasI b (i : Int)) = false := h4
   refine CW.skip ?_
   refine CW.keep 22 [0,1,5,6] rfl ?_;(conv=>whnf);refine ⟨?_⟩
   refine CW.region ?_
   refine RW.k XK 22 1 rfl ?_
   (conv=>whnf);refine ⟨rfl,?_⟩
   refine RW.v rfl (V.inc rfl rfl rfl (show i < 6 by omega) (by decide)) ?_
   refine RW.k XK 22 1 rfl ?_
   (conv=>whnf);refine ⟨rfl,?_⟩
   refine RW.nil ?_
   exact ⟨i + 1, by simp at h1; omega, ⟨by omega, by simp at h1; omega⟩, rfl, Le.c rfl <| Le.c rfl <| Le.c (congrArg I (by first | exact nearD_yes hb1 hnr | exact nearD_no hb1 hnr)) <| Le.c rfl <| Le.e⟩
 ·skip
  refine CW.exit ?_
  refine CW.keep 22 [5] rfl ?_;(conv=>whnf);refine ⟨?_⟩
  refine CW.k XK 22 1 [4] rfl ?_
  (conv=>whnf);refine ⟨rfl,?_⟩
  refine CW.ret ?_
  exact Post.one (RV.b rfl (by rw [near, show (5 : Nat) = i from by simp at h1; omega])) (AOs.r (AOs.r AOs.e))
set_option maxHeartbeats 4000000 in
theorem spec_Propose_fn (n : Node) (kind : Int) (data : ByteArray) (hok : okToNode n) (hd : data.size ≤ 1048576) : Eng.Fn E.P 33 [.agg ((Node.c n).map .r), .one (.r (.v (.int .i64 kind))), .one (.r (.v (.string data)))] (.tup [.agg ((Node.c ((proposeN n kind data).1)).map .r), .one (.w (sl 12 Message.c ((proposeN n kind data).2.1))), .one (.w (.v (.int .i64 ((proposeN n kind data).2.2.1)))), .one (.w (.v (.bool ((proposeN n kind data).2.2.2))))]) [.agg ((Node.c n).map .r), .one (.r (.v (.int .i64 kind))), .one (.r (.v (.string data)))] := by
 refine Eng.Fn.intro (E := E) (rvs := [.cell 6 47, .tmp 7, .tmp 8, .tmp 9]) Try.func33 rfl rfl rfl (by simp [outSlots, moved, rvSlot, sl]) ?_
 intro B g bo
 refine CW.keep 164 [0,1,2] rfl ?_;(conv=>whnf);refine ⟨?_⟩
 refine CW.seq ?_
 refine CW.region ?_
 refine RW.k XK 164 1 rfl ?_
 (conv=>whnf);intro b1;(conv=>whnf);refine ⟨rfl,?_⟩
 refine RW.freezeB (ts := (Node.c n)) 3 rfl (DRd.r (DRd.r (DRd.r (DRd.r (DRd.r (DRd.r (DRd.r (DRd.r (DRd.r (DRd.r (DRd.r (DRd.r (DRd.r (DRd.r DRd.e)))))))))))))) ?_
 refine RW.k XK 164 4 rfl ?_
 (conv=>whnf);intro b2;(conv=>whnf);refine ⟨rfl,?_⟩
 refine RW.nil ?_
 refine CW.keep 164 [1,2,3,6] rfl ?_;(conv=>whnf);refine ⟨?_⟩
 refine CW.seq ?_
 refine CW.region ?_
 refine RW.k XK 164 7 rfl ?_
 (conv=>whnf);intro b3;(conv=>whnf);refine ⟨rfl,?_⟩
 refine RW.freezeB (ts := [.v (.int .i64 n.term_), .v (.int .i64 kind), .v (.string data)]) 10 rfl (DRd.r (DRd.r (DRd.r DRd.e))) ?_
 refine RW.nil ?_
 refine CW.keep 164 [1,2,3,6,10] rfl ?_;(conv=>whnf);refine ⟨?_⟩
 refine CW.seq ?_
 refine CW.seqJ 164 (fun (v4 : Bool) => [(1, I kind), (2, S data), (3, .rp (Node.c n)), (6, .obj b2 [I 0, I 0, I 0, I 0, I 0, .r (.v (.slice none 0 0)), I 0, I 0, .r (.v (.slice none 0 0)), I 0, I 0, I 0, .r (.v (.slice none 0 0)), .r (.v (.slice none 0 0))]), (10, .rp [.v (.int .i64 n.term_), .v (.int .i64 kind), .v (.string data)]), (42, Bo v4)]) (fun v4 => v4 = ((((!(nodeOk n)) || (n.role != 2)) || (!(entOk (⟨n.term_, kind, data⟩ : Entry)))) || (!(room n.log)))) ?_ ?_
 ·refine CW.region ?_
  refine RW.k XK 164 1 rfl ?_
  (conv=>whnf);refine ⟨rfl,?_⟩
  refine RW.call rfl (spec_NodeOk_fn n hok) rfl (.cons (.agg (.cons (.r .r) (.cons (.r .r) (.cons (.r .r) (.cons (.r .r) (.cons (.r .r) (.cons (.r .r) (.cons (.r .r) (.cons (.r .r) (.cons (.r .r) (.cons (.r .r) (.cons (.r .r) (.cons (.r .r) (.cons (.r .r) (.cons (.r .r) (.nil)))))))))))))))) (.nil)) fun g5 => ?_
  refine RW.k XK 164 2 rfl ?_
  (conv=>whnf);refine ⟨rfl,?_⟩
  refine RW.gv rfl rfl rfl rfl (fun h6 => V.fieldR rfl rfl rfl rfl (by decide) rfl (Nat.le_of_ble_eq_true rfl)) (fun h6 => ?_) (fun h6 => ?_)
  ·skip
   refine RW.k XK 164 4 rfl ?_
   (conv=>whnf);refine ⟨rfl,?_⟩
   refine RW.gv rfl rfl rfl rfl (fun h7 => V.loadAggR rfl rfl rfl rfl (Nat.le_of_ble_eq_true rfl)) (fun h7 => ?_) (fun h7 => ?_)
   ·skip
    refine RW.gcall rfl rfl rfl rfl (spec_EntryOk_fn (⟨n.term_, kind, data⟩ : Entry) hd) rfl (.cons (.agg (.cons (.r .r) (.cons (.r .r) (.cons (.r .r) (.nil))))) (.nil)) fun g8 => ?_
    refine RW.k XK 164 3 rfl ?_
    (conv=>whnf);refine ⟨rfl,?_⟩
    refine RW.gv rfl rfl rfl rfl (fun h9 => V.loadAggR rfl rfl rfl rfl (Nat.le_of_ble_eq_true rfl)) (fun h9 => ?_) (fun h9 => ?_)
    ·skip
     refine RW.gcall rfl rfl rfl rfl (spec_l18Room_fn n (logOk_hs (nodeOk_in (by simp_all)).1)) rfl (.cons (.agg (.cons (.r .r) (.cons (.r .r) (.cons (.r .r) (.cons (.r .r) (.cons (.r .r) (.cons (.r .r) (.cons (.r .r) (.cons (.r .r) (.cons (.r .r) (.cons (.r .r) (.cons (.r .r) (.cons (.r .r) (.cons (.r .r) (.cons (.r .r) (.nil)))))))))))))))) (.nil)) fun g10 => ?_
     refine RW.k XK 164 2 rfl ?_
     (conv=>whnf);refine ⟨rfl,?_⟩
     refine RW.nil ?_
     exact ⟨_, by first | rfl | (simp_all; done) | (simp_all; omega) | grind, rfl, Le.of rfl⟩
    ·skip
     refine RW.k XK 164 3 rfl ?_
     (conv=>whnf);refine ⟨rfl,?_⟩
     refine RW.nil ?_
     exact ⟨_, by first | rfl | (simp_all; done) | (simp_all; omega) | grind, rfl, Le.of rfl⟩
   ·skip
    refine RW.k XK 164 8 rfl ?_
    (conv=>whnf);refine ⟨rfl,?_⟩
    refine RW.nil ?_
    exact ⟨_, by first | rfl | (simp_all; done) | (simp_all; omega) | grind, rfl, Le.of rfl⟩
  ·skip
   refine RW.k XK 164 13 rfl ?_
   (conv=>whnf);refine ⟨rfl,?_⟩
   refine RW.nil ?_
   exact ⟨_, by first | rfl | (simp_all; done) | (simp_all; omega) | grind, rfl, Le.of rfl⟩
 ·intro v4 hv11
  refine CW.cond rfl (fun h12 => ?_) (fun h12 => ?_)
  ·skip
   have hbad : (nodeOk n && n.role == 2 && entOk ⟨n.term_, kind, data⟩ && room n.log) = false := by have h9 := (prop_v2 n kind data).symm.trans (hv11.symm.trans h12); rwa [Bool.not_eq_true'] at h9
   refine CW.seq ?_
   refine CW.region ?_
   refine RW.k XK 164 1 rfl ?_
   (conv=>whnf);refine ⟨rfl,?_⟩
   refine RW.build0 Message.c rfl rfl rfl rfl rfl fun X13 => ?_
   refine RW.k XK 164 1 rfl ?_
   (conv=>whnf);refine ⟨rfl,?_⟩
   refine RW.assignMove rfl rfl rfl (by decide) (Nat.le_of_ble_eq_true rfl) (Nat.le_of_ble_eq_true rfl) ?_
   refine RW.k XK 164 2 rfl ?_
   (conv=>whnf);refine ⟨rfl,?_⟩
   refine RW.nil ?_
   refine CW.keep 164 [6,7,8,9] rfl ?_;(conv=>whnf);refine ⟨?_⟩
   refine CW.ret ?_
   exact Post.tup (by decide) (RVs.c (RV.c (f := fun e => (Node.c e).map .r) (e' := (⟨0, 0, 0, 0, 0, [], (⟨0, 0, []⟩ : Log), 0, 0, 0, [], []⟩ : Node)) rfl rfl rfl rfl (DT.r (DT.r (DT.r (DT.r (DT.r (DT.nr (DT.r (DT.r (DT.nr (DT.r (DT.r (DT.r (DT.nr (DT.nr DT.e)))))))))))))) (by first | (rw [prop_bad hbad]; done) | (rw [prop_bad hbad]; rfl))) (RVs.c (RV.w rfl (by first | (rw [prop_bad hbad]; done) | (rw [prop_bad hbad]; rfl))) (RVs.c (RV.i rfl (by first | (rw [prop_bad hbad]; done) | (rw [prop_bad hbad]; rfl))) (RVs.c (RV.b rfl (by first | (rw [prop_bad hbad]; done) | (rw [prop_bad hbad]; rfl))) RVs.e)))) (AOs.a rfl (AOs.r (AOs.r AOs.e)))
  ·skip
   have hgd : (nodeOk n && n.role == 2 && entOk ⟨n.term_, kind, data⟩ && room n.log) = true := by have h9 := (prop_v2 n kind data).symm.trans (hv11.symm.trans h12); simpa using h9
   have hgd2 := hgd
   simp only [Bool.and_eq_true] at hgd2
   have hn := hgd2.1.1.1
   have hr2 : n.role = 2 := by simpa using hgd2.1.1.2
   have hent := hgd2.1.2
   have hl : logB n.log := logOk_hs (nodeOk_in hn).1
   have hr60 : n.log.entries.length < 60 := by have h9 := hgd2.2; unfold room at h9; simp at h9; omega
   have hcm : n.commit ≤ 9223372036854775807 := by have h9 := (nodeOk_facts hn).2.2.1; rw [logLast_1 hl] at h9; unfold inR at h9; simp at h9; have h8 := hl.2.1; omega
   have hps := nodeOk_peers hn hl hr2
   have hnd := (peers_ids hn hr2).2
   have hOut : okToNode (outP n kind data) := outP_ok hok hr60 hd
   refine CW.skip ?_
   refine CW.keep 164 [1,2,3,6,10] rfl ?_;(conv=>whnf);refine ⟨?_⟩
   refine CW.seq ?_
   refine CW.k XK 164 1 [2,3,6,10,46] rfl ?_
   (conv=>whnf);refine ⟨rfl,?_⟩
   refine CW.joinS 164 (fun (u : Unit) => [(3, .rp (Node.c n)), (6, .obj b2 [I 0, I 0, I 0, I 0, I 0, .r (.v (.slice none 0 0)), I 0, I 0, .r (.v (.slice none 0 0)), I 0, I 0, I 0, .r (.v (.slice none 0 0)), .r (.v (.slice none 0 0))]), (10, .rp [.v (.int .i64 n.term_), .v (.int .i64 kind), .v (.string data)])]) (fun (u : Unit) => (kind == 2 && !mayTurn n data) = false) ?_ ?_
   ·skip
    refine CW.cond rfl (fun h14 => ?_) (fun h14 => ?_)
    ·skip
     have hrc : (readConf data).2 = true := ent_conf hent (by simpa using h14)
     refine CW.seq ?_
     refine CW.region ?_
     refine RW.k XK 164 1 rfl ?_
     (conv=>whnf);refine ⟨rfl,?_⟩
     refine RW.call rfl (spec_ReadConf_fn data hd) rfl (.cons (.one (.r .r)) (.nil)) fun g15 => ?_
     refine RW.k XK 164 3 rfl ?_
     (conv=>whnf);refine ⟨rfl,?_⟩
     refine RW.assignMove rfl rfl rfl (by decide) (Nat.le_of_ble_eq_true rfl) (Nat.le_of_ble_eq_true rfl) ?_
     refine RW.k XK 164 1 rfl ?_
     (conv=>whnf);refine ⟨rfl,?_⟩
     refine RW.nil ?_
     refine CW.keep 164 [3,6,10,11] rfl ?_;(conv=>whnf);refine ⟨?_⟩
     refine CW.anyP (fc := [(6, b2, [.int .i64 0, .int .i64 0, .int .i64 0, .int .i64 0, .int .i64 0, .slice none 0 0, .int .i64 0, .int .i64 0, .slice none 0 0, .int .i64 0, .int .i64 0, .int .i64 0, .slice none 0 0, .slice none 0 0])]) 164 (fun (v16 : Bool) => [(3, .rp (Node.c n)), (6, .obj b2 [I 0, I 0, I 0, I 0, I 0, .r (.v (.slice none 0 0)), I 0, I 0, .r (.v (.slice none 0 0)), I 0, I 0, I 0, .r (.v (.slice none 0 0)), .r (.v (.slice none 0 0))]), (10, .rp [.v (.int .i64 n.term_), .v (.int .i64 kind), .v (.string data)]), (73, Bo v16)]) (fun (v16 : Bool) => v16 = ((((logTerm n.log n.commit) != n.term_) || decide ((confIx n.log n.log.entries.length) > n.commit)) || (!(near (confAtS n 1000060) ((readConf data).1))))) (fun K hK => ?_) ?_
     ·refine RA.start (m := 22) (ls' := (bt 22 0)) (by kernel_rfl) (by kernel_rfl) ?_
      refine RA.keep 164 [3,6,10,11] rfl ?_;(conv=>whnf);refine ⟨?_⟩
      refine RA.fr XK 164 16 [0,1,2,3,5,6] (bt 22 111) rfl rfl (by kernel_rfl) (Tell.of rfl) ?_
      (conv=>whnf);refine ⟨rfl,fun B=>?_⟩
      refine RA.keep 164 [3,6,10,11,53,55,58] rfl ?_;(conv=>whnf);refine ⟨?_⟩
      refine RA.stepH (L := [4]) (Tell.of rfl) (by kernel_rfl) (by simp) (RA.each ?_ RA.each0)
      refine RO.call rfl rfl (spec_LogTerm_fn n.log n.commit hl hcm) rfl (.cons (.agg (.cons (.r .r) (.cons (.r .r) (.cons (.r .r) (.nil))))) (.cons (.one (.r .r)) (.nil))) rfl fun g17 => ?_
      refine RA.fr XK 164 13 [7,8] (bt 22 511) rfl rfl (by kernel_rfl) (Tell.of rfl) ?_
      (conv=>whnf);refine ⟨rfl,fun B=>?_⟩
      refine RA.keep 164 [3,6,10,11,60] rfl ?_;(conv=>whnf);refine ⟨?_⟩
      refine RA.bool 60 rfl (fun h18 => ?_) (fun h18 => ?_)
      ·skip
       refine RA.firstF (i := 9) (ls' := (bt 22 1023)) (Tell.of rfl) (by kernel_rfl) rfl rfl rfl rfl rfl (.inl rfl) ?_
       refine RA.firstF (i := 10) (ls' := (bt 22 2047)) (Tell.of rfl) (by kernel_rfl) rfl rfl rfl rfl rfl (.inl rfl) ?_
       refine RA.firstF (i := 11) (ls' := (bt 22 4095)) (Tell.of rfl) (by kernel_rfl) rfl rfl rfl rfl rfl (.inl rfl) ?_
       refine RA.firstF (i := 12) (ls' := (bt 22 8191)) (Tell.of rfl) (by kernel_rfl) rfl rfl rfl rfl rfl (.inl rfl) ?_
       refine RA.firstF (i := 13) (ls' := (bt 22 16383)) (Tell.of rfl) (by kernel_rfl) rfl rfl rfl rfl rfl (.inl rfl) ?_
       refine RA.fr XK 164 6 [14,15] (bt 22 65535) rfl rfl (by kernel_rfl) (Tell.of rfl) ?_
       (conv=>whnf);refine ⟨rfl,fun B=>?_⟩
       refine RA.firstF (i := 16) (ls' := (bt 22 131071)) (Tell.of rfl) (by kernel_rfl) rfl rfl rfl rfl rfl (.inl rfl) ?_
       refine RA.keep 164 [3,6,10,11,67,68] rfl ?_;(conv=>whnf);refine ⟨?_⟩
       refine RA.firstF (i := 17) (ls' := (bt 22 262143)) (Tell.of rfl) (by kernel_rfl) rfl rfl rfl rfl rfl (.inl rfl) ?_
       refine RA.firstF (i := 18) (ls' := (bt 22 524287)) (Tell.of rfl) (by kernel_rfl) rfl rfl rfl rfl rfl (.inl rfl) ?_
       refine RA.firstF (i := 19) (ls' := (bt 22 1048575)) (Tell.of rfl) (by kernel_rfl) rfl rfl rfl rfl rfl (.inl rfl) ?_
       refine RA.firstF (i := 20) (ls' := (bt 22 2097151)) (Tell.of rfl) (by kernel_rfl) rfl rfl rfl rfl rfl (.inl rfl) ?_
       refine RA.fr XK 164 0 [21] (bt 22 4194303) rfl rfl (by kernel_rfl) (Tell.of rfl) ?_
       (conv=>whnf);refine ⟨rfl,fun B=>?_⟩
       exact RA.finH (Tell.of rfl) (by kernel_rfl) (hK _ _ (by first | rfl | (simp_all; done) | grind) rfl (Le.of rfl))
      ·skip
       refine RA.firstT (i := 11) (ls' := (bt 22 2559)) (Tell.of rfl) (by kernel_rfl) rfl rfl rfl rfl rfl rfl (VF.p (V.fieldR rfl rfl rfl rfl (by decide) rfl (Nat.le_of_ble_eq_true rfl))) ?_
       refine RA.keep 164 [3,6,10,11,60,63] rfl ?_;(conv=>whnf);refine ⟨?_⟩
       refine RA.stepG (L := [9, 12]) (Tell.of rfl) (by kernel_rfl) (by simp) (RA.eachG ?_ (RA.eachG ?_ (RA.eachG0)))
       ·skip
        refine RG.v rfl (.inr ⟨_, _, _, _, rfl, rfl, rfl, rfl⟩) (V.loadAggR rfl rfl rfl rfl (Nat.le_of_ble_eq_true rfl)) rfl ?_
        refine RA.keep 164 [3,6,10,11,60,61,63] rfl ?_;(conv=>whnf);refine ⟨?_⟩
        refine RA.stepG (L := [10, 12]) (Tell.of rfl) (by kernel_rfl) (by simp) (RA.eachG ?_ (RA.eachG ?_ (RA.eachG0)))
        ·skip
         refine RG.call rfl (.inr ⟨_, _, _, _, rfl, rfl, rfl, rfl⟩) (spec_l18ConfIndex_fn n hl) rfl (.cons (.agg (.cons (.r .r) (.cons (.r .r) (.cons (.r .r) (.cons (.r .r) (.cons (.r .r) (.cons (.r .r) (.cons (.r .r) (.cons (.r .r) (.cons (.r .r) (.cons (.r .r) (.cons (.r .r) (.cons (.r .r) (.cons (.r .r) (.cons (.r .r) (.nil)))))))))))))))) (.nil)) rfl fun g19 => ?_
         refine RA.keep 164 [3,6,10,11,60,62,63] rfl ?_;(conv=>whnf);refine ⟨?_⟩
         refine RA.oneV (i := 12) (ls' := (bt 22 8191)) (Tell.of rfl) (by kernel_rfl) rfl rfl rfl rfl rfl rfl (V.loadPrimR (t0 := .v (.int .i64 n.commit)) rfl rfl (.inl rfl) rfl rfl) ?_
         refine RA.firstT (i := 13) (ls' := (bt 22 16383)) (Tell.of rfl) (by kernel_rfl) rfl rfl rfl rfl rfl rfl (VF.p (V.cmpInt rfl rfl rfl rfl)) ?_
         refine RA.fr XK 164 6 [14,15] (bt 22 65535) rfl rfl (by kernel_rfl) (Tell.of rfl) ?_
         (conv=>whnf);refine ⟨rfl,fun B=>?_⟩
         refine RA.keep 164 [3,6,10,11,67] rfl ?_;(conv=>whnf);refine ⟨?_⟩
         refine RA.bool 67 rfl (fun h20 => ?_) (fun h20 => ?_)
         ·skip
          refine RA.firstF (i := 16) (ls' := (bt 22 131071)) (Tell.of rfl) (by kernel_rfl) rfl rfl rfl rfl rfl (.inl rfl) ?_
          refine RA.firstF (i := 17) (ls' := (bt 22 262143)) (Tell.of rfl) (by kernel_rfl) rfl rfl rfl rfl rfl (.inl rfl) ?_
          refine RA.firstF (i := 18) (ls' := (bt 22 524287)) (Tell.of rfl) (by kernel_rfl) rfl rfl rfl rfl rfl (.inl rfl) ?_
          refine RA.firstF (i := 19) (ls' := (bt 22 1048575)) (Tell.of rfl) (by kernel_rfl) rfl rfl rfl rfl rfl (.inl rfl) ?_
          refine RA.firstF (i := 20) (ls' := (bt 22 2097151)) (Tell.of rfl) (by kernel_rfl) rfl rfl rfl rfl rfl (.inl rfl) ?_
          refine RA.fr XK 164 0 [21] (bt 22 4194303) rfl rfl (by kernel_rfl) (Tell.of rfl) ?_
          (conv=>whnf);refine ⟨rfl,fun B=>?_⟩
          exact RA.finH (Tell.of rfl) (by kernel_rfl) (hK _ _ (by first | rfl | (simp_all; done) | grind) rfl (Le.of rfl))
         ·skip
          refine RA.firstT (i := 18) (ls' := (bt 22 327679)) (Tell.of rfl) (by kernel_rfl) rfl rfl rfl rfl rfl rfl (VF.p (V.mv (d := .al 11 none 1 (((readConf data).1).length) (g15 0 0) 0) rfl rfl)) ?_
          refine RA.keep 164 [3,6,10,11,67,70] rfl ?_;(conv=>whnf);refine ⟨?_⟩
          refine RA.oneV (i := 16) (ls' := (bt 22 393215)) (Tell.of rfl) (by kernel_rfl) rfl rfl rfl rfl rfl rfl (V.loadAggR rfl rfl rfl rfl (Nat.le_of_ble_eq_true rfl)) ?_
          refine RA.keep 164 [3,6,10,11,67,68,70] rfl ?_;(conv=>whnf);refine ⟨?_⟩
          refine RA.oneCall (i := 17) (ls' := (bt 22 524287)) (Tell.of rfl) (by kernel_rfl) rfl rfl rfl rfl rfl rfl (spec_ConfOf_fn n (by first | exact hok | exact hOut)) rfl (.cons (.agg (.cons (.r .r) (.cons (.r .r) (.cons (.r .r) (.cons (.r .r) (.cons (.r .r) (.cons (.r .r) (.cons (.r .r) (.cons (.r .r) (.cons (.r .r) (.cons (.r .r) (.cons (.r .r) (.cons (.r .r) (.cons (.r .r) (.cons (.r .r) (.nil)))))))))))))))) (.nil)) fun g21 => ?_
          refine RA.keep 164 [3,6,10,11,67,69,70] rfl ?_;(conv=>whnf);refine ⟨?_⟩
          refine RA.oneCallOwn (i := 19) (ls' := (bt 22 1048575)) (Tell.of rfl) (by kernel_rfl) rfl rfl rfl rfl rfl rfl (spec_l18Near_fn (confAtS n 1000060) ((readConf data).1)) rfl (.cons (.one (.r (.al (k := none) (i := 69) (sz := 1) (V := (g21 0 0)) rfl rfl nofun))) (.cons (.one (.r (.al (k := none) (i := 11) (sz := 1) (V := (g15 0 0)) rfl rfl nofun))) (.nil))) rfl fun g22 => ?_
          refine RA.firstT (i := 20) (ls' := (bt 22 2097151)) (Tell.of rfl) (by kernel_rfl) rfl rfl rfl rfl rfl rfl (VF.p (V.not rfl rfl)) ?_
          refine RA.fr XK 164 0 [21] (bt 22 4194303) rfl rfl (by kernel_rfl) (Tell.of rfl) ?_
          (conv=>whnf);refine ⟨rfl,fun B=>?_⟩
          exact RA.finH (Tell.of rfl) (by kernel_rfl) (hK _ _ (by first | rfl | (simp_all; done) | grind) rfl (Le.of rfl))
        ·skip
         refine RG.v rfl (.inr ⟨_, _, _, _, rfl, rfl, rfl, rfl⟩) (V.loadPrimR (t0 := .v (.int .i64 n.commit)) rfl rfl (.inl rfl) rfl rfl) rfl ?_
         refine RA.keep 164 [3,6,10,11,60,61,64] rfl ?_;(conv=>whnf);refine ⟨?_⟩
         refine RA.oneCall (i := 10) (ls' := (bt 22 8191)) (Tell.of rfl) (by kernel_rfl) rfl rfl rfl rfl rfl rfl (spec_l18ConfIndex_fn n hl) rfl (.cons (.agg (.cons (.r .r) (.cons (.r .r) (.cons (.r .r) (.cons (.r .r) (.cons (.r .r) (.cons (.r .r) (.cons (.r .r) (.cons (.r .r) (.cons (.r .r) (.cons (.r .r) (.cons (.r .r) (.cons (.r .r) (.cons (.r .r) (.cons (.r .r) (.nil)))))))))))))))) (.nil)) fun g23 => ?_
         refine RA.firstT (i := 13) (ls' := (bt 22 16383)) (Tell.of rfl) (by kernel_rfl) rfl rfl rfl rfl rfl rfl (VF.p (V.cmpInt rfl rfl rfl rfl)) ?_
         refine RA.fr XK 164 6 [14,15] (bt 22 65535) rfl rfl (by kernel_rfl) (Tell.of rfl) ?_
         (conv=>whnf);refine ⟨rfl,fun B=>?_⟩
         refine RA.keep 164 [3,6,10,11,67] rfl ?_;(conv=>whnf);refine ⟨?_⟩
         refine RA.bool 67 rfl (fun h24 => ?_) (fun h24 => ?_)
         ·skip
          refine RA.firstF (i := 16) (ls' := (bt 22 131071)) (Tell.of rfl) (by kernel_rfl) rfl rfl rfl rfl rfl (.inl rfl) ?_
          refine RA.firstF (i := 17) (ls' := (bt 22 262143)) (Tell.of rfl) (by kernel_rfl) rfl rfl rfl rfl rfl (.inl rfl) ?_
          refine RA.firstF (i := 18) (ls' := (bt 22 524287)) (Tell.of rfl) (by kernel_rfl) rfl rfl rfl rfl rfl (.inl rfl) ?_
          refine RA.firstF (i := 19) (ls' := (bt 22 1048575)) (Tell.of rfl) (by kernel_rfl) rfl rfl rfl rfl rfl (.inl rfl) ?_
          refine RA.firstF (i := 20) (ls' := (bt 22 2097151)) (Tell.of rfl) (by kernel_rfl) rfl rfl rfl rfl rfl (.inl rfl) ?_
          refine RA.fr XK 164 0 [21] (bt 22 4194303) rfl rfl (by kernel_rfl) (Tell.of rfl) ?_
          (conv=>whnf);refine ⟨rfl,fun B=>?_⟩
          exact RA.finH (Tell.of rfl) (by kernel_rfl) (hK _ _ (by first | rfl | (simp_all; done) | grind) rfl (Le.of rfl))
         ·skip
          refine RA.firstT (i := 18) (ls' := (bt 22 327679)) (Tell.of rfl) (by kernel_rfl) rfl rfl rfl rfl rfl rfl (VF.p (V.mv (d := .al 11 none 1 (((readConf data).1).length) (g15 0 0) 0) rfl rfl)) ?_
          refine RA.keep 164 [3,6,10,11,67,70] rfl ?_;(conv=>whnf);refine ⟨?_⟩
          refine RA.oneV (i := 16) (ls' := (bt 22 393215)) (Tell.of rfl) (by kernel_rfl) rfl rfl rfl rfl rfl rfl (V.loadAggR rfl rfl rfl rfl (Nat.le_of_ble_eq_true rfl)) ?_
          refine RA.keep 164 [3,6,10,11,67,68,70] rfl ?_;(conv=>whnf);refine ⟨?_⟩
          refine RA.oneCall (i := 17) (ls' := (bt 22 524287)) (Tell.of rfl) (by kernel_rfl) rfl rfl rfl rfl rfl rfl (spec_ConfOf_fn n (by first | exact hok | exact hOut)) rfl (.cons (.agg (.cons (.r .r) (.cons (.r .r) (.cons (.r .r) (.cons (.r .r) (.cons (.r .r) (.cons (.r .r) (.cons (.r .r) (.cons (.r .r) (.cons (.r .r) (.cons (.r .r) (.cons (.r .r) (.cons (.r .r) (.cons (.r .r) (.cons (.r .r) (.nil)))))))))))))))) (.nil)) fun g25 => ?_
          refine RA.keep 164 [3,6,10,11,67,69,70] rfl ?_;(conv=>whnf);refine ⟨?_⟩
          refine RA.oneCallOwn (i := 19) (ls' := (bt 22 1048575)) (Tell.of rfl) (by kernel_rfl) rfl rfl rfl rfl rfl rfl (spec_l18Near_fn (confAtS n 1000060) ((readConf data).1)) rfl (.cons (.one (.r (.al (k := none) (i := 69) (sz := 1) (V := (g25 0 0)) rfl rfl nofun))) (.cons (.one (.r (.al (k := none) (i := 11) (sz := 1) (V := (g15 0 0)) rfl rfl nofun))) (.nil))) rfl fun g26 => ?_
          refine RA.firstT (i := 20) (ls' := (bt 22 2097151)) (Tell.of rfl) (by kernel_rfl) rfl rfl rfl rfl rfl rfl (VF.p (V.not rfl rfl)) ?_
          refine RA.fr XK 164 0 [21] (bt 22 4194303) rfl rfl (by kernel_rfl) (Tell.of rfl) ?_
          (conv=>whnf);refine ⟨rfl,fun B=>?_⟩
          exact RA.finH (Tell.of rfl) (by kernel_rfl) (hK _ _ (by first | rfl | (simp_all; done) | grind) rfl (Le.of rfl))
       ·skip
        refine RG.v rfl (.inr ⟨_, _, _, _, rfl, rfl, rfl, rfl⟩) (V.loadPrimR (t0 := .v (.int .i64 n.commit)) rfl rfl (.inl rfl) rfl rfl) rfl ?_
        refine RA.keep 164 [3,6,10,11,60,64] rfl ?_;(conv=>whnf);refine ⟨?_⟩
        refine RA.oneV (i := 9) (ls' := (bt 22 7167)) (Tell.of rfl) (by kernel_rfl) rfl rfl rfl rfl rfl rfl (V.loadAggR rfl rfl rfl rfl (Nat.le_of_ble_eq_true rfl)) ?_
        refine RA.keep 164 [3,6,10,11,60,61,64] rfl ?_;(conv=>whnf);refine ⟨?_⟩
        refine RA.oneCall (i := 10) (ls' := (bt 22 8191)) (Tell.of rfl) (by kernel_rfl) rfl rfl rfl rfl rfl rfl (spec_l18ConfIndex_fn n hl) rfl (.cons (.agg (.cons (.r .r) (.cons (.r .r) (.cons (.r .r) (.cons (.r .r) (.cons (.r .r) (.cons (.r .r) (.cons (.r .r) (.cons (.r .r) (.cons (.r .r) (.cons (.r .r) (.cons (.r .r) (.cons (.r .r) (.cons (.r .r) (.cons (.r .r) (.nil)))))))))))))))) (.nil)) fun g27 => ?_
        refine RA.firstT (i := 13) (ls' := (bt 22 16383)) (Tell.of rfl) (by kernel_rfl) rfl rfl rfl rfl rfl rfl (VF.p (V.cmpInt rfl rfl rfl rfl)) ?_
        refine RA.fr XK 164 6 [14,15] (bt 22 65535) rfl rfl (by kernel_rfl) (Tell.of rfl) ?_
        (conv=>whnf);refine ⟨rfl,fun B=>?_⟩
        refine RA.keep 164 [3,6,10,11,67] rfl ?_;(conv=>whnf);refine ⟨?_⟩
        refine RA.bool 67 rfl (fun h28 => ?_) (fun h28 => ?_)
        ·skip
         refine RA.firstF (i := 16) (ls' := (bt 22 131071)) (Tell.of rfl) (by kernel_rfl) rfl rfl rfl rfl rfl (.inl rfl) ?_
         refine RA.firstF (i := 17) (ls' := (bt 22 262143)) (Tell.of rfl) (by kernel_rfl) rfl rfl rfl rfl rfl (.inl rfl) ?_
         refine RA.firstF (i := 18) (ls' := (bt 22 524287)) (Tell.of rfl) (by kernel_rfl) rfl rfl rfl rfl rfl (.inl rfl) ?_
         refine RA.firstF (i := 19) (ls' := (bt 22 1048575)) (Tell.of rfl) (by kernel_rfl) rfl rfl rfl rfl rfl (.inl rfl) ?_
         refine RA.firstF (i := 20) (ls' := (bt 22 2097151)) (Tell.of rfl) (by kernel_rfl) rfl rfl rfl rfl rfl (.inl rfl) ?_
         refine RA.fr XK 164 0 [21] (bt 22 4194303) rfl rfl (by kernel_rfl) (Tell.of rfl) ?_
         (conv=>whnf);refine ⟨rfl,fun B=>?_⟩
         exact RA.finH (Tell.of rfl) (by kernel_rfl) (hK _ _ (by first | rfl | (simp_all; done) | grind) rfl (Le.of rfl))
        ·skip
         refine RA.firstT (i := 18) (ls' := (bt 22 327679)) (Tell.of rfl) (by kernel_rfl) rfl rfl rfl rfl rfl rfl (VF.p (V.mv (d := .al 11 none 1 (((readConf data).1).length) (g15 0 0) 0) rfl rfl)) ?_
         refine RA.keep 164 [3,6,10,11,67,70] rfl ?_;(conv=>whnf);refine ⟨?_⟩
         refine RA.oneV (i := 16) (ls' := (bt 22 393215)) (Tell.of rfl) (by kernel_rfl) rfl rfl rfl rfl rfl rfl (V.loadAggR rfl rfl rfl rfl (Nat.le_of_ble_eq_true rfl)) ?_
         refine RA.keep 164 [3,6,10,11,67,68,70] rfl ?_;(conv=>whnf);refine ⟨?_⟩
         refine RA.oneCall (i := 17) (ls' := (bt 22 524287)) (Tell.of rfl) (by kernel_rfl) rfl rfl rfl rfl rfl rfl (spec_ConfOf_fn n (by first | exact hok | exact hOut)) rfl (.cons (.agg (.cons (.r .r) (.cons (.r .r) (.cons (.r .r) (.cons (.r .r) (.cons (.r .r) (.cons (.r .r) (.cons (.r .r) (.cons (.r .r) (.cons (.r .r) (.cons (.r .r) (.cons (.r .r) (.cons (.r .r) (.cons (.r .r) (.cons (.r .r) (.nil)))))))))))))))) (.nil)) fun g29 => ?_
         refine RA.keep 164 [3,6,10,11,67,69,70] rfl ?_;(conv=>whnf);refine ⟨?_⟩
         refine RA.oneCallOwn (i := 19) (ls' := (bt 22 1048575)) (Tell.of rfl) (by kernel_rfl) rfl rfl rfl rfl rfl rfl (spec_l18Near_fn (confAtS n 1000060) ((readConf data).1)) rfl (.cons (.one (.r (.al (k := none) (i := 69) (sz := 1) (V := (g29 0 0)) rfl rfl nofun))) (.cons (.one (.r (.al (k := none) (i := 11) (sz := 1) (V := (g15 0 0)) rfl rfl nofun))) (.nil))) rfl fun g30 => ?_
         refine RA.firstT (i := 20) (ls' := (bt 22 2097151)) (Tell.of rfl) (by kernel_rfl) rfl rfl rfl rfl rfl rfl (VF.p (V.not rfl rfl)) ?_
         refine RA.fr XK 164 0 [21] (bt 22 4194303) rfl rfl (by kernel_rfl) (Tell.of rfl) ?_
         (conv=>whnf);refine ⟨rfl,fun B=>?_⟩
         exact RA.finH (Tell.of rfl) (by kernel_rfl) (hK _ _ (by first | rfl | (simp_all; done) | grind) rfl (Le.of rfl))
     ·rintro v16 hv31
      refine CW.cond rfl (fun h32 => ?_) (fun h32 => ?_)
      ·skip
       have hno : (kind == 2 && !mayTurn n data) = true := by rw [h14, may_eq hn hrc, ← hv31, h32]; rfl
       refine CW.seq ?_
       refine CW.region ?_
       refine RW.k XK 164 1 rfl ?_
       (conv=>whnf);refine ⟨rfl,?_⟩
       refine RW.build0 Message.c rfl rfl rfl rfl rfl fun X33 => ?_
       refine RW.k XK 164 1 rfl ?_
       (conv=>whnf);refine ⟨rfl,?_⟩
       refine RW.assignMove rfl rfl rfl (by decide) (Nat.le_of_ble_eq_true rfl) (Nat.le_of_ble_eq_true rfl) ?_
       refine RW.k XK 164 2 rfl ?_
       (conv=>whnf);refine ⟨rfl,?_⟩
       refine RW.nil ?_
       refine CW.keep 164 [6,7,8,9] rfl ?_;(conv=>whnf);refine ⟨?_⟩
       refine CW.ret ?_
       exact Post.tup (by decide) (RVs.c (RV.c (f := fun e => (Node.c e).map .r) (e' := (⟨0, 0, 0, 0, 0, [], (⟨0, 0, []⟩ : Log), 0, 0, 0, [], []⟩ : Node)) rfl rfl rfl rfl (DT.r (DT.r (DT.r (DT.r (DT.r (DT.nr (DT.r (DT.r (DT.nr (DT.r (DT.r (DT.r (DT.nr (DT.nr DT.e)))))))))))))) (by first | (rw [prop_no hgd hno]; done) | (rw [prop_no hgd hno]; rfl))) (RVs.c (RV.w rfl (by first | (rw [prop_no hgd hno]; done) | (rw [prop_no hgd hno]; rfl))) (RVs.c (RV.i rfl (by first | (rw [prop_no hgd hno]; done) | (rw [prop_no hgd hno]; rfl))) (RVs.c (RV.b rfl (by first | (rw [prop_no hgd hno]; done) | (rw [prop_no hgd hno]; rfl))) RVs.e)))) (AOs.a rfl (AOs.r (AOs.r AOs.e)))
      ·skip
       have hyesJ : (kind == 2 && !mayTurn n data) = false := by rw [h14, may_eq hn hrc, ← hv31, h32]; rfl
       refine CW.skip ?_
       exact ⟨(), hyesJ, rfl, Le.c rfl <| Le.c rfl <| Le.c rfl <| Le.e⟩
    ·skip
     have hyesJ : (kind == 2 && !mayTurn n data) = false := by rw [h14]; rfl
     refine CW.skip ?_
     exact ⟨(), hyesJ, rfl, Le.c rfl <| Le.c rfl <| Le.c rfl <| Le.e⟩
   ·rintro u hyes
    refine CW.keep 164 [3,6,10] rfl ?_;(conv=>whnf);refine ⟨?_⟩
    refine CW.seq ?_
    refine CW.region ?_
    refine RW.k XK 164 1 rfl ?_
    (conv=>whnf);refine ⟨rfl,?_⟩
    refine RW.call rfl (spec_l18Copy_fn n hok) rfl (.cons (.agg (.cons (.r .r) (.cons (.r .r) (.cons (.r .r) (.cons (.r .r) (.cons (.r .r) (.cons (.r .r) (.cons (.r .r) (.cons (.r .r) (.cons (.r .r) (.cons (.r .r) (.cons (.r .r) (.cons (.r .r) (.cons (.r .r) (.cons (.r .r) (.nil)))))))))))))))) (.nil)) fun g34 => ?_
    refine RW.k XK 164 2 rfl ?_
    (conv=>whnf);intro b35;(conv=>whnf);refine ⟨rfl,?_⟩
    refine RW.keep 164 [3,6,10,77,79] rfl ?_;(conv=>whnf);refine ⟨?_⟩
    refine RW.pullA (k := 79) (l := 77) (j := 5) 79 77 5 rfl rfl rfl (by decide) rfl rfl rfl rfl ?_
    refine RW.keep 164 [3,6,10,77,79] rfl ?_;(conv=>whnf);refine ⟨?_⟩
    refine RW.pullA (k := 79) (l := 77) (j := 8) 79 77 8 rfl rfl rfl (by decide) rfl rfl rfl rfl ?_
    refine RW.keep 164 [3,6,10,77,79] rfl ?_;(conv=>whnf);refine ⟨?_⟩
    refine RW.pullA (k := 79) (l := 77) (j := 12) 79 77 12 rfl rfl rfl (by decide) rfl rfl rfl rfl ?_
    refine RW.keep 164 [3,6,10,77,79] rfl ?_;(conv=>whnf);refine ⟨?_⟩
    refine RW.pullA (k := 79) (l := 77) (j := 13) 79 77 13 rfl rfl rfl (by decide) rfl rfl rfl rfl ?_
    refine RW.keep 164 [3,6,10,79] rfl ?_;(conv=>whnf);refine ⟨?_⟩
    refine RW.k XK 164 1 rfl ?_
    (conv=>whnf);refine ⟨rfl,?_⟩
    refine RW.nil ?_
    refine CW.keep 164 [3,6,10,13,79] rfl ?_;(conv=>whnf);refine ⟨?_⟩
    refine CW.seq ?_
    refine CW.region ?_
    refine RW.k XK 164 2 rfl ?_
    (conv=>whnf);refine ⟨rfl,?_⟩
    refine RW.call rfl (spec_l06Last_fn n.log) rfl (.cons (.agg (.cons (.r .r) (.cons (.r .r) (.cons (.r .r) (.nil))))) (.nil)) fun g36 => ?_
    refine RW.k XK 164 2 rfl ?_
    (conv=>whnf);refine ⟨rfl,?_⟩
    refine RW.nil ?_
    refine CW.keep 164 [3,6,10,13,14,79] rfl ?_;(conv=>whnf);refine ⟨?_⟩
    refine CW.anyJ2 (fc := [(6, b2, [.int .i64 0, .int .i64 0, .int .i64 0, .int .i64 0, .int .i64 0, .slice none 0 0, .int .i64 0, .int .i64 0, .slice none 0 0, .int .i64 0, .int .i64 0, .int .i64 0, .slice none 0 0, .slice none 0 0])]) (L0 := [(3, .rp (Node.c n)), (6, .obj b2 [I 0, I 0, I 0, I 0, I 0, .r (.v (.slice none 0 0)), I 0, I 0, .r (.v (.slice none 0 0)), I 0, I 0, I 0, .r (.v (.slice none 0 0)), .r (.v (.slice none 0 0))]), (13, .pt 79 b35 0), (14, I (IntKind.i64.wrap ((IntKind.i64.wrap (n.log.start + (n.log.entries.length : Int))) + 1)))]) 164 (fun (zz : Value × Value) => match zz with | (Xo37_8_1, Xo37_9_1) => [(79, .obj b35 [I n.id, I n.term_, I n.vote, I n.role, I n.lead, .w (sl 1 cI n.conf) (g34 0 5), I n.log.start, I n.log.startTerm, .w (sl 3 Entry.c (n.log.entries ++ ([(⟨n.term_, kind, data⟩ : Entry)]))) Xo37_9_1, I n.commit, I n.clock, I n.limit, .w (sl 1 cI n.votes) (g34 0 12), .w (sl 4 Peer.c n.peers) (g34 0 13), .r (.v (.slice none 0 0))])]) (fun all hall f hf b0 hb K hK => ?_) ?_
    ·skip
     have ro37_5 : ∀ B, ∀ (Xo37_8_1 : Value), ∀ (Xo37_9_1 : Value), RA f E B all 0 (bt 15 32767) ⟨164, [(79, .obj b35 [I n.id, I n.term_, I n.vote, I n.role, I n.lead, .w (sl 1 cI n.conf) (g34 0 5), I n.log.start, I n.log.startTerm, .w (sl 3 Entry.c (n.log.entries ++ ([(⟨n.term_, kind, data⟩ : Entry)]))) Xo37_9_1, I n.commit, I n.clock, I n.limit, .w (sl 1 cI n.votes) (g34 0 12), .w (sl 4 Peer.c n.peers) (g34 0 13), .r (.v (.slice none 0 0))])] ++ b0⟩ K := by
      intro B Xo37_8_1 Xo37_9_1
      exact RA.of2 hall hf hb (RA.finH (Tell.of rfl) (by kernel_rfl) (hK (Xo37_8_1, Xo37_9_1) _ rfl (Le.of rfl)))
     have ro37_4 : ∀ B, ∀ (Xo37_8_1 : Value), ∀ (Xo37_9_1 : Value), RA f E B all 1 (bt 15 16383) ⟨164, [(79, .obj b35 [I n.id, I n.term_, I n.vote, I n.role, I n.lead, .w (sl 1 cI n.conf) (g34 0 5), I n.log.start, I n.log.startTerm, .u, I n.commit, I n.clock, I n.limit, .w (sl 1 cI n.votes) (g34 0 12), .w (sl 4 Peer.c n.peers) (g34 0 13), .r (.v (.slice none 0 0))]), (93, .w (sl 3 Entry.c (n.log.entries ++ ([(⟨n.term_, kind, data⟩ : Entry)]))) Xo37_9_1), (97, .pt 79 b35 8)] ++ b0⟩ K := by
      intro B Xo37_8_1 Xo37_9_1
      refine RA.of2 hall hf hb (RA.stepH (L := [14]) (Tell.of rfl) (by kernel_rfl) (by simp) (RA.each ?_ (RA.each0)))
      ·skip
       refine RO.store (d := .al 93 none 3 ((n.log.entries ++ ([(⟨n.term_, kind, data⟩ : Entry)])).length) Xo37_9_1 0) rfl rfl rfl rfl rfl rfl rfl rfl rfl (Nat.le_of_ble_eq_true rfl) rfl rfl ?_
       refine RA.keep 164 [3,6,13,14,79,93] rfl ?_;(conv=>whnf);refine ⟨?_⟩
       refine RA.pullT (k := 79) (l := 93) (j := 8) 79 93 8 rfl rfl rfl (by decide) rfl rfl rfl ?_
       refine RA.keep 164 [3,6,13,14,79] rfl ?_;(conv=>whnf);refine ⟨?_⟩
       exact RA.to2 hall hf hb (ro37_5 B Xo37_8_1 Xo37_9_1) rfl rfl (by kernel_rfl)
     have ro37_3 : ∀ B, ∀ (Xo37_8_1 : Value), RA f E B all 6 (bt 15 511) ⟨164, [(79, .obj b35 [I n.id, I n.term_, I n.vote, I n.role, I n.lead, .w (sl 1 cI n.conf) (g34 0 5), I n.log.start, I n.log.startTerm, .w (sl 3 Entry.c n.log.entries) (g34 0 8), I n.commit, I n.clock, I n.limit, .w (sl 1 cI n.votes) (g34 0 12), .w (sl 4 Peer.c n.peers) (g34 0 13), .r (.v (.slice none 0 0))]), (84, .pt 79 b35 0), (90, .al 79 (some 8) 3 n.log.entries.length (g34 0 8) 0), (92, .w (sl 3 Entry.c ([(⟨n.term_, kind, data⟩ : Entry)])) Xo37_8_1)] ++ b0⟩ K := by
      intro B Xo37_8_1
      refine RA.of2 hall hf hb (RA.stepH (L := [9]) (Tell.of rfl) (by kernel_rfl) (by simp) (RA.each ?_ (RA.each0)))
      ·skip
       refine RO.takeO 90 79 8 (by decide) rfl rfl rfl ?_
       refine RO.appendSR (c := Entry.c) (l1 := n.log.entries) (l2 := [(⟨n.term_, kind, data⟩ : Entry)]) rfl rfl rfl rfl rfl rfl rfl rfl rfl rfl (.al (k := none) (i := 92) (sz := 3) (V := Xo37_8_1) rfl rfl nofun) (by decide) (Nat.le_of_ble_eq_true rfl) Entry.len (fun _ => rfl) rfl (by first | (simp only [maxLen, List.length_singleton]; omega) | (simp only [maxLen, List.length_append, List.length_map, List.length_take, List.length_singleton]; omega)) (by first | (simp only [maxLen, List.length_singleton]; omega) | (simp only [maxLen, List.length_append, List.length_map, List.length_take, List.length_singleton]; omega)) fun Xo37_9_1 => ?_
       refine RA.fr XK 164 1 [10,11,12,13] (bt 15 16383) rfl rfl (by kernel_rfl) (Tell.of rfl) ?_
       (conv=>whnf);refine ⟨rfl,fun B=>?_⟩
       exact RA.to2 hall hf hb (ro37_4 B Xo37_8_1 Xo37_9_1) rfl rfl (by kernel_rfl)
     have ro37_2 : ∀ B, ∀ (Xo37_8_1 : Value), RA f E B all 7 (bt 15 447) ⟨164, [(79, .obj b35 [I n.id, I n.term_, I n.vote, I n.role, I n.lead, .w (sl 1 cI n.conf) (g34 0 5), I n.log.start, I n.log.startTerm, .w (sl 3 Entry.c n.log.entries) (g34 0 8), I n.commit, I n.clock, I n.limit, .w (sl 1 cI n.votes) (g34 0 12), .w (sl 4 Peer.c n.peers) (g34 0 13), .r (.v (.slice none 0 0))]), (84, .pt 79 b35 0), (89, .pt 79 b35 8), (92, .w (sl 3 Entry.c ([(⟨n.term_, kind, data⟩ : Entry)])) Xo37_8_1)] ++ b0⟩ K := by
      intro B Xo37_8_1
      refine RA.of2 hall hf hb (RA.stepH (L := [6]) (Tell.of rfl) (by kernel_rfl) (by simp) (RA.each ?_ (RA.each0)))
      ·skip
       refine RO.v rfl rfl (V.loadPrim (d := .al 79 (some 8) 3 n.log.entries.length (g34 0 8) 0) rfl rfl (.inr ⟨_, rfl⟩) rfl rfl rfl) rfl ?_
       exact RA.to2 hall hf hb (ro37_3 B Xo37_8_1) rfl rfl (by kernel_rfl)
     have ro37_1 : ∀ B, RA f E B all 7 (bt 15 255) ⟨164, [(79, .obj b35 [I n.id, I n.term_, I n.vote, I n.role, I n.lead, .w (sl 1 cI n.conf) (g34 0 5), I n.log.start, I n.log.startTerm, .w (sl 3 Entry.c n.log.entries) (g34 0 8), I n.commit, I n.clock, I n.limit, .w (sl 1 cI n.votes) (g34 0 12), .w (sl 4 Peer.c n.peers) (g34 0 13), .r (.v (.slice none 0 0))]), (84, .pt 79 b35 0), (90, .al 79 (some 8) 3 n.log.entries.length (g34 0 8) 0), (91, .agg [I n.term_, I kind, S data])] ++ b0⟩ K := by
      intro B
      refine RA.of2 hall hf hb (RA.stepH (L := [8]) (Tell.of rfl) (by kernel_rfl) (by simp) (RA.each ?_ (RA.each0)))
      ·skip
       refine RO.build1 (c := Entry.c) (v := (⟨n.term_, kind, data⟩ : Entry)) rfl rfl rfl rfl rfl rfl rfl rfl (DW.v (DW.v (DW.v DW.e))) Entry.len (by decide) (by decide) fun Xo37_8_1 => ?_
       exact RA.to2 hall hf hb (ro37_3 B Xo37_8_1) rfl rfl (by kernel_rfl)
     have ro37_0 : ∀ B, RA f E B all 8 (bt 15 191) ⟨164, [(79, .obj b35 [I n.id, I n.term_, I n.vote, I n.role, I n.lead, .w (sl 1 cI n.conf) (g34 0 5), I n.log.start, I n.log.startTerm, .w (sl 3 Entry.c n.log.entries) (g34 0 8), I n.commit, I n.clock, I n.limit, .w (sl 1 cI n.votes) (g34 0 12), .w (sl 4 Peer.c n.peers) (g34 0 13), .r (.v (.slice none 0 0))]), (84, .pt 79 b35 0), (89, .pt 79 b35 8), (91, .agg [I n.term_, I kind, S data])] ++ b0⟩ K := by
      intro B
      refine RA.of2 hall hf hb (RA.stepH (L := [6, 8]) (Tell.of rfl) (by kernel_rfl) (by simp) (RA.each ?_ (RA.each ?_ (RA.each0))))
      ·skip
       refine RO.v rfl rfl (V.loadPrim (d := .al 79 (some 8) 3 n.log.entries.length (g34 0 8) 0) rfl rfl (.inr ⟨_, rfl⟩) rfl rfl rfl) rfl ?_
       exact RA.to2 hall hf hb (ro37_1 B) rfl rfl (by kernel_rfl)
      ·skip
       refine RO.build1 (c := Entry.c) (v := (⟨n.term_, kind, data⟩ : Entry)) rfl rfl rfl rfl rfl rfl rfl rfl (DW.v (DW.v (DW.v DW.e))) Entry.len (by decide) (by decide) fun Xo37_8_1 => ?_
       exact RA.to2 hall hf hb (ro37_2 B Xo37_8_1) rfl rfl (by kernel_rfl)
     refine RA.start (by kernel_rfl) (by kernel_rfl) (m := 15) (ls' := (bt 15 0)) ?_
     refine RA.fr XK 164 8 [0,1,2,3,4,5,7] (bt 15 191) rfl rfl (by kernel_rfl) (Tell.of rfl) ?_
     (conv=>whnf);refine ⟨rfl,fun B=>?_⟩
     exact RA.to2 hall hf hb (ro37_0 B) rfl rfl (by kernel_rfl)
    ·rintro ⟨Xo37_8_1, Xo37_9_1⟩
     refine CW.anyJ2 (fc := [(6, b2, [.int .i64 0, .int .i64 0, .int .i64 0, .int .i64 0, .int .i64 0, .slice none 0 0, .int .i64 0, .int .i64 0, .slice none 0 0, .int .i64 0, .int .i64 0, .int .i64 0, .slice none 0 0, .slice none 0 0]), (79, b35, [.int .i64 n.id, .int .i64 n.term_, .int .i64 n.vote, .int .i64 n.role, .int .i64 n.lead, (g34 0 5), .int .i64 n.log.start, .int .i64 n.log.startTerm, Xo37_9_1, .int .i64 n.commit, .int .i64 n.clock, .int .i64 n.limit, (g34 0 12), (g34 0 13), .slice none 0 0])]) (L0 := [(3, .rp (Node.c n)), (6, .obj b2 [I 0, I 0, I 0, I 0, I 0, .r (.v (.slice none 0 0)), I 0, I 0, .r (.v (.slice none 0 0)), I 0, I 0, I 0, .r (.v (.slice none 0 0)), .r (.v (.slice none 0 0))]), (13, .pt 79 b35 0), (14, I (IntKind.i64.wrap ((IntKind.i64.wrap (n.log.start + (n.log.entries.length : Int))) + 1))), (79, .obj b35 [I n.id, I n.term_, I n.vote, I n.role, I n.lead, .w (sl 1 cI n.conf) (g34 0 5), I n.log.start, I n.log.startTerm, .w (sl 3 Entry.c (n.log.entries ++ ([(⟨n.term_, kind, data⟩ : Entry)]))) Xo37_9_1, I n.commit, I n.clock, I n.limit, .w (sl 1 cI n.votes) (g34 0 12), .w (sl 4 Peer.c n.peers) (g34 0 13), .r (.v (.slice none 0 0))])]) 164 (fun (zz : (Nat → Nat → Value) × (Nat → Nat → Value)) => match zz with | (go38_4_1, go38_7_1) => [(15, .w (sl 1 cI (others (confAtS (⟨n.id, n.term_, n.vote, n.role, n.lead, n.conf, (⟨n.log.start, n.log.startTerm, (n.log.entries ++ ([(⟨n.term_, kind, data⟩ : Entry)]))⟩ : Log), n.commit, n.clock, n.limit, n.votes, n.peers⟩ : Node) 1000060) n.id)) (go38_7_1 0 0))]) (fun all hall f hf b0 hb K hK => ?_) ?_
     ·skip
      have ro38_3 : ∀ B, ∀ (go38_4_1 : Nat → Nat → Value), ∀ (go38_7_1 : Nat → Nat → Value), RA f E B all 0 (bt 9 511) ⟨164, [(15, .w (sl 1 cI (others (confAtS (⟨n.id, n.term_, n.vote, n.role, n.lead, n.conf, (⟨n.log.start, n.log.startTerm, (n.log.entries ++ ([(⟨n.term_, kind, data⟩ : Entry)]))⟩ : Log), n.commit, n.clock, n.limit, n.votes, n.peers⟩ : Node) 1000060) n.id)) (go38_7_1 0 0))] ++ b0⟩ K := by
       intro B go38_4_1 go38_7_1
       exact RA.of2 hall hf hb (RA.finH (Tell.of rfl) (by kernel_rfl) (hK (go38_4_1, go38_7_1) _ rfl (Le.of rfl)))
      have ro38_2 : ∀ B, ∀ (go38_4_1 : Nat → Nat → Value), ∀ (go38_7_1 : Nat → Nat → Value), RA f E B all 1 (bt 9 255) ⟨164, [(105, .w (sl 1 cI (others (confAtS (⟨n.id, n.term_, n.vote, n.role, n.lead, n.conf, (⟨n.log.start, n.log.startTerm, (n.log.entries ++ ([(⟨n.term_, kind, data⟩ : Entry)]))⟩ : Log), n.commit, n.clock, n.limit, n.votes, n.peers⟩ : Node) 1000060) n.id)) (go38_7_1 0 0))] ++ b0⟩ K := by
       intro B go38_4_1 go38_7_1
       refine RA.of2 hall hf hb (RA.stepH (L := [8]) (Tell.of rfl) (by kernel_rfl) (by simp) (RA.each ?_ (RA.each0)))
       ·skip
        refine RO.assignMove rfl rfl rfl rfl rfl (by decide) (Nat.le_of_ble_eq_true rfl) (Nat.le_of_ble_eq_true rfl) ?_
        exact RA.to2 hall hf hb (ro38_3 B go38_4_1 go38_7_1) rfl rfl (by kernel_rfl)
      have ro38_1 : ∀ B, ∀ (go38_4_1 : Nat → Nat → Value), RA f E B all 2 (bt 9 127) ⟨164, [(102, .w (sl 1 cI (confAtS (⟨n.id, n.term_, n.vote, n.role, n.lead, n.conf, (⟨n.log.start, n.log.startTerm, (n.log.entries ++ ([(⟨n.term_, kind, data⟩ : Entry)]))⟩ : Log), n.commit, n.clock, n.limit, n.votes, n.peers⟩ : Node) 1000060)) (go38_4_1 0 0)), (104, I n.id)] ++ b0⟩ K := by
       intro B go38_4_1
       refine RA.of2 hall hf hb (RA.stepH (L := [7]) (Tell.of rfl) (by kernel_rfl) (by simp) (RA.each ?_ (RA.each0)))
       ·skip
        refine RO.callOwn rfl rfl (spec_l18Others_fn (confAtS (⟨n.id, n.term_, n.vote, n.role, n.lead, n.conf, (⟨n.log.start, n.log.startTerm, (n.log.entries ++ ([(⟨n.term_, kind, data⟩ : Entry)]))⟩ : Log), n.commit, n.clock, n.limit, n.votes, n.peers⟩ : Node) 1000060) n.id (confAtS_len (show okToNode _ from hOut) _)) rfl (.cons (.one (.r (.al (k := none) (i := 102) (sz := 1) (V := (go38_4_1 0 0)) rfl rfl nofun))) (.cons (.one (.r .r)) (.nil))) rfl rfl fun go38_7_1 => ?_
        exact RA.to2 hall hf hb (ro38_2 B go38_4_1 go38_7_1) rfl rfl (by kernel_rfl)
      have ro38_0 : ∀ B, RA f E B all 3 (bt 9 111) ⟨164, [(101, .agg [I n.id, I n.term_, I n.vote, I n.role, I n.lead, .al 79 (some 5) 1 n.conf.length (g34 0 5) 0, I n.log.start, I n.log.startTerm, .al 79 (some 8) 3 ((n.log.entries ++ ([(⟨n.term_, kind, data⟩ : Entry)])).length) Xo37_9_1 0, I n.commit, I n.clock, I n.limit, .al 79 (some 12) 1 n.votes.length (g34 0 12) 0, .al 79 (some 13) 4 n.peers.length (g34 0 13) 0]), (104, I n.id)] ++ b0⟩ K := by
       intro B
       refine RA.of2 hall hf hb (RA.stepH (L := [4]) (Tell.of rfl) (by kernel_rfl) (by simp) (RA.each ?_ (RA.each0)))
       ·skip
        refine RO.callOwn rfl rfl (spec_ConfOf_fn (⟨n.id, n.term_, n.vote, n.role, n.lead, n.conf, (⟨n.log.start, n.log.startTerm, (n.log.entries ++ ([(⟨n.term_, kind, data⟩ : Entry)]))⟩ : Log), n.commit, n.clock, n.limit, n.votes, n.peers⟩ : Node) (by first | exact hok | exact hOut)) rfl (.cons (.agg (.cons (.r .r) (.cons (.r .r) (.cons (.r .r) (.cons (.r .r) (.cons (.r .r) (.cons (.r (.alo (k := none) (i := 79) (j := 5) (sz := 1) (V := (g34 0 5)) rfl rfl rfl nofun)) (.cons (.r .r) (.cons (.r .r) (.cons (.r (.alo (k := none) (i := 79) (j := 8) (sz := 3) (V := Xo37_9_1) rfl rfl rfl nofun)) (.cons (.r .r) (.cons (.r .r) (.cons (.r .r) (.cons (.r (.alo (k := none) (i := 79) (j := 12) (sz := 1) (V := (g34 0 12)) rfl rfl rfl nofun)) (.cons (.r (.alo (k := none) (i := 79) (j := 13) (sz := 4) (V := (g34 0 13)) rfl rfl rfl nofun)) (.nil)))))))))))))))) (.nil)) rfl rfl fun go38_4_1 => ?_
        exact RA.to2 hall hf hb (ro38_1 B go38_4_1) rfl rfl (by kernel_rfl)
      refine RA.start (by kernel_rfl) (by kernel_rfl) (m := 9) (ls' := (bt 9 0)) ?_
      refine RA.fr XK 164 3 [0,1,2,3,5,6] (bt 9 111) rfl rfl (by kernel_rfl) (Tell.of rfl) ?_
      (conv=>whnf);refine ⟨rfl,fun B=>?_⟩
      exact RA.to2 hall hf hb (ro38_0 B) rfl rfl (by kernel_rfl)
     ·rintro ⟨go38_4_1, go38_7_1⟩
      obtain ⟨L39, hn40⟩ : ∃ z : List Int, z = others (confAtS (⟨n.id, n.term_, n.vote, n.role, n.lead, n.conf, (⟨n.log.start, n.log.startTerm, (n.log.entries ++ ([(⟨n.term_, kind, data⟩ : Entry)]))⟩ : Log), n.commit, n.clock, n.limit, n.votes, n.peers⟩ : Node) 1000060) n.id := ⟨_, rfl⟩
      refine CW.le [(3, .rp (Node.c n)), (6, .obj b2 [I 0, I 0, I 0, I 0, I 0, .r (.v (.slice none 0 0)), I 0, I 0, .r (.v (.slice none 0 0)), I 0, I 0, I 0, .r (.v (.slice none 0 0)), .r (.v (.slice none 0 0))]), (13, .pt 79 b35 0), (14, I (IntKind.i64.wrap ((IntKind.i64.wrap (n.log.start + (n.log.entries.length : Int))) + 1))), (15, .w (sl 1 cI L39) (go38_7_1 0 0)), (79, .obj b35 [I n.id, I n.term_, I n.vote, I n.role, I n.lead, .w (sl 1 cI n.conf) (g34 0 5), I n.log.start, I n.log.startTerm, .w (sl 3 Entry.c (n.log.entries ++ ([(⟨n.term_, kind, data⟩ : Entry)]))) Xo37_9_1, I n.commit, I n.clock, I n.limit, .w (sl 1 cI n.votes) (g34 0 12), .w (sl 4 Peer.c n.peers) (g34 0 13), .r (.v (.slice none 0 0))])] rfl (Le.c rfl <| Le.c rfl <| Le.c rfl <| Le.c rfl <| Le.c (by subst hn40; rfl) <| Le.c rfl <| Le.e) ?_
      refine CW.seq ?_
      refine CW.region ?_
      refine RW.build0 Peer.c rfl rfl rfl rfl rfl fun X41 => ?_
      refine RW.assignMove rfl rfl rfl (by decide) (Nat.le_of_ble_eq_true rfl) (Nat.le_of_ble_eq_true rfl) ?_
      refine RW.nil ?_
      refine CW.keep 164 [3,6,13,14,15,16,79] rfl ?_;(conv=>whnf);refine ⟨?_⟩
      refine CW.seq ?_
      refine CW.k XK 164 1 [3,6,13,14,15,16,17,79] rfl ?_
      (conv=>whnf);refine ⟨rfl,?_⟩
      refine CW.block ?_
      refine CW.loopI 164 (fun (zz : Nat × Value) => match zz with | (i, X) => [(3, .rp (Node.c n)), (6, .obj b2 [I 0, I 0, I 0, I 0, I 0, .r (.v (.slice none 0 0)), I 0, I 0, .r (.v (.slice none 0 0)), I 0, I 0, I 0, .r (.v (.slice none 0 0)), .r (.v (.slice none 0 0))]), (13, .pt 79 b35 0), (14, I (IntKind.i64.wrap ((IntKind.i64.wrap (n.log.start + (n.log.entries.length : Int))) + 1))), (15, .w (sl 1 cI L39) (go38_7_1 0 0)), (16, .w (sl 4 Peer.c ((L39.take i).map (pickP n))) X), (17, I (i : Int)), (79, .obj b35 [I n.id, I n.term_, I n.vote, I n.role, I n.lead, .w (sl 1 cI n.conf) (g34 0 5), I n.log.start, I n.log.startTerm, .w (sl 3 Entry.c (n.log.entries ++ ([(⟨n.term_, kind, data⟩ : Entry)]))) Xo37_9_1, I n.commit, I n.clock, I n.limit, .w (sl 1 cI n.votes) (g34 0 12), .w (sl 4 Peer.c n.peers) (g34 0 13), .r (.v (.slice none 0 0))])]) (fun (zz : Nat × Value) => match zz with | (i, X) => i ≤ L39.length) (fun (zz : Nat × Value) => match zz with | (i, X) => L39.length - i) (0, _) rfl (Le.c rfl <| Le.c rfl <| Le.c rfl <| Le.c rfl <| Le.c rfl <| Le.c rfl <| Le.c rfl <| Le.c rfl <| Le.e) (by omega) ?_
      rintro ⟨i, X⟩ hb
      have hlL : L39.length ≤ 1048576 := by rw [hn40]; exact Nat.le_trans (others_len _ _) (confAtS_len hOut _)
      have hl0 : L39.length ≤ maxLen := Nat.le_trans hlL (by decide)
      refine CW.seq ?_
      refine CW.k XK 164 1 [3,6,13,14,15,16,17,79,110] rfl ?_
      (conv=>whnf);refine ⟨rfl,?_⟩
      refine CW.cond rfl (fun h42 => ?_) (fun h42 => ?_)
      ·skip
       have hii : i < L39.length := by have := h42; simp at this; first | exact this | omega | (simp; done) | (simp; omega)
       obtain ⟨ei, hei⟩ : ∃ e, L39[i]? = some e := ⟨_, List.getElem?_eq_getElem hii⟩
       have hdi := drop_get hei
       refine CW.skip ?_
       refine CW.keep 164 [3,6,13,14,15,16,17,79] rfl ?_;(conv=>whnf);refine ⟨?_⟩
       refine CW.seq ?_
       refine CW.block ?_
       refine CW.seq ?_
       refine CW.region ?_
       refine RW.k XK 164 2 rfl ?_
       (conv=>whnf);refine ⟨rfl,?_⟩
       refine RW.v rfl (V.indexW rfl rfl rfl rfl rfl rfl rfl hii) ?_
       refine RW.v rfl (V.loadF (m := i) (off := 0) rfl rfl (.inl rfl) rfl rfl cI.len hei (by decide) rfl) ?_
       refine RW.k XK 164 4 rfl ?_
       (conv=>whnf);intro b43;(conv=>whnf);refine ⟨rfl,?_⟩
       refine RW.nil ?_
       refine CW.keep 164 [3,6,13,14,15,16,17,18,79] rfl ?_;(conv=>whnf);refine ⟨?_⟩
       refine CW.seq ?_
       refine CW.k XK 164 1 [3,6,13,14,15,16,17,18,19,79] rfl ?_
       (conv=>whnf);refine ⟨rfl,?_⟩
       refine CW.block ?_
       refine CW.loopI 164 (fun (k : Nat) => [(3, .rp (Node.c n)), (6, .obj b2 [I 0, I 0, I 0, I 0, I 0, .r (.v (.slice none 0 0)), I 0, I 0, .r (.v (.slice none 0 0)), I 0, I 0, I 0, .r (.v (.slice none 0 0)), .r (.v (.slice none 0 0))]), (13, .pt 79 b35 0), (14, I (IntKind.i64.wrap ((IntKind.i64.wrap (n.log.start + (n.log.entries.length : Int))) + 1))), (15, .w (sl 1 cI L39) (go38_7_1 0 0)), (16, .w (sl 4 Peer.c ((L39.take i).map (pickP n))) X), (17, I (i : Int)), (18, .obj b43 ((Peer.c (pickF n.peers ei (IntKind.i64.wrap ((IntKind.i64.wrap (n.log.start + (n.log.entries.length : Int))) + 1)) k)).map .r)), (19, I (k : Int)), (79, .obj b35 [I n.id, I n.term_, I n.vote, I n.role, I n.lead, .w (sl 1 cI n.conf) (g34 0 5), I n.log.start, I n.log.startTerm, .w (sl 3 Entry.c (n.log.entries ++ ([(⟨n.term_, kind, data⟩ : Entry)]))) Xo37_9_1, I n.commit, I n.clock, I n.limit, .w (sl 1 cI n.votes) (g34 0 12), .w (sl 4 Peer.c n.peers) (g34 0 13), .r (.v (.slice none 0 0))])]) (fun (k : Nat) => k ≤ n.peers.length) (fun (k : Nat) => n.peers.length - k) 0 rfl (Le.c rfl <| Le.c rfl <| Le.c rfl <| Le.c rfl <| Le.c rfl <| Le.c rfl <| Le.c rfl <| Le.c rfl <| Le.c rfl <| Le.c rfl <| Le.e) (by omega) ?_
       rintro k hb2
       have hl1 : n.peers.length ≤ maxLen := Nat.le_trans hok.2.2.2.1 (by decide)
       refine CW.seq ?_
       refine CW.k XK 164 1 [3,6,13,14,15,16,17,18,19,79,123] rfl ?_
       (conv=>whnf);refine ⟨rfl,?_⟩
       refine CW.cond rfl (fun h44 => ?_) (fun h44 => ?_)
       ·skip
        have hik : k < n.peers.length := by have := h44; simp at this; first | exact this | omega | (simp; done) | (simp; omega)
        obtain ⟨ek, hek⟩ : ∃ e, n.peers[k]? = some e := ⟨_, List.getElem?_eq_getElem hik⟩
        have hdk := drop_get hek
        refine CW.skip ?_
        refine CW.keep 164 [3,6,13,14,15,16,17,18,19,79] rfl ?_;(conv=>whnf);refine ⟨?_⟩
        refine CW.seq ?_
        refine CW.block ?_
        refine CW.seq ?_
        refine CW.drawn (by kernel_rfl) ?_
        refine RQ.k XK 164 3 rfl ?_
        (conv=>whnf);refine ⟨rfl,?_⟩
        refine RQ.v rfl (V.indexS rfl rfl rfl rfl rfl rfl Peer.len hek) ?_
        refine RQ.k XK 164 4 rfl ?_
        (conv=>whnf);refine ⟨rfl,?_⟩
        refine RQ.v rfl (V.indexW rfl rfl rfl rfl rfl rfl rfl hii) ?_
        refine RQ.v rfl (V.loadF (m := i) (off := 0) rfl rfl (.inl rfl) rfl rfl cI.len hei (by decide) rfl) ?_
        refine RQ.k XK 164 1 rfl ?_
        (conv=>whnf);refine ⟨rfl,?_⟩
        refine RQ.nil ?_
        refine CW.keep 164 [3,6,13,14,15,16,17,18,19,79,136] rfl ?_;(conv=>whnf);refine ⟨?_⟩
        refine CW.cond rfl (fun h45 => ?_) (fun h45 => ?_)
        ·skip
         have hpk : (ek.id == ei) = true := h45
         refine CW.region ?_
         refine RW.k XK 164 3 rfl ?_
         (conv=>whnf);refine ⟨rfl,?_⟩
         refine RW.v rfl (V.indexS rfl rfl rfl rfl rfl rfl Peer.len hek) ?_
         refine RW.k XK 164 2 rfl ?_
         (conv=>whnf);refine ⟨rfl,?_⟩
         refine RW.nil ?_
         refine CW.keep 164 [3,6,13,14,15,16,17,18,19,79] rfl ?_;(conv=>whnf);refine ⟨?_⟩
         refine CW.region ?_
         refine RW.k XK 164 1 rfl ?_
         (conv=>whnf);refine ⟨rfl,?_⟩
         refine RW.v rfl (V.inc rfl rfl rfl hik hl1) ?_
         refine RW.k XK 164 1 rfl ?_
         (conv=>whnf);refine ⟨rfl,?_⟩
         refine RW.nil ?_
         exact ⟨k + 1, by omega, (by omega), rfl, Le.c rfl <| Le.c rfl <| Le.c rfl <| Le.c rfl <| Le.c rfl <| Le.c rfl <| Le.c rfl <| Le.c (congrArg (fun e => D.obj b43 ((Peer.c e).map .r)) (by first | exact (pickF_yes hek hpk).symm | exact (pickF_no hek hpk).symm)) <| Le.c rfl <| Le.c rfl <| Le.e⟩
        ·skip
         have hpk : (ek.id == ei) = false := h45
         refine CW.skip ?_
         refine CW.keep 164 [3,6,13,14,15,16,17,18,19,79] rfl ?_;(conv=>whnf);refine ⟨?_⟩
         refine CW.region ?_
         refine RW.k XK 164 1 rfl ?_
         (conv=>whnf);refine ⟨rfl,?_⟩
         refine RW.v rfl (V.inc rfl rfl rfl hik hl1) ?_
         refine RW.k XK 164 1 rfl ?_
         (conv=>whnf);refine ⟨rfl,?_⟩
         refine RW.nil ?_
         exact ⟨k + 1, by omega, (by omega), rfl, Le.c rfl <| Le.c rfl <| Le.c rfl <| Le.c rfl <| Le.c rfl <| Le.c rfl <| Le.c rfl <| Le.c (congrArg (fun e => D.obj b43 ((Peer.c e).map .r)) (by first | exact (pickF_yes hek hpk).symm | exact (pickF_no hek hpk).symm)) <| Le.c rfl <| Le.c rfl <| Le.e⟩
       ·skip
        have hik : n.peers.length ≤ k := by have := h44; simp at this; first | exact this | omega | (simp; done) | (simp; omega)
        have hdk : n.peers.drop k = [] := List.drop_eq_nil_of_le hik
        refine CW.exit ?_
        refine CW.keep 164 [3,6,13,14,15,16,17,18,79] rfl ?_;(conv=>whnf);refine ⟨?_⟩
        refine CW.region ?_
        refine RW.k XK 164 2 rfl ?_
        (conv=>whnf);refine ⟨rfl,?_⟩
        refine RW.build1 (c := Peer.c) (v := (pickF n.peers ei (IntKind.i64.wrap ((IntKind.i64.wrap (n.log.start + (n.log.entries.length : Int))) + 1)) k)) rfl rfl rfl rfl rfl rfl (DW.v (DW.v (DW.v (DW.v DW.e)))) Peer.len (by decide) (by decide) fun X46 => ?_
        refine RW.appendSR (c := Peer.c) (l1 := ((L39.take i).map (pickP n))) (l2 := [(pickF n.peers ei (IntKind.i64.wrap ((IntKind.i64.wrap (n.log.start + (n.log.entries.length : Int))) + 1)) k)]) rfl rfl rfl rfl rfl rfl rfl rfl (.al (k := none) (i := 144) (sz := 4) (V := X46) rfl rfl nofun) (by decide) (Nat.le_of_ble_eq_true rfl) Peer.len (fun _ => rfl) rfl (by first | (simp only [maxLen, List.length_singleton]; omega) | (simp only [maxLen, List.length_append, List.length_map, List.length_take, List.length_singleton]; omega)) (by first | (simp only [maxLen, List.length_singleton]; omega) | (simp only [maxLen, List.length_append, List.length_map, List.length_take, List.length_singleton]; omega)) fun X47 => ?_
        refine RW.assignMove rfl rfl rfl (by decide) (Nat.le_of_ble_eq_true rfl) (Nat.le_of_ble_eq_true rfl) ?_
        refine RW.nil ?_
        refine CW.keep 164 [3,6,13,14,15,16,17,79] rfl ?_;(conv=>whnf);refine ⟨?_⟩
        refine CW.region ?_
        refine RW.k XK 164 1 rfl ?_
        (conv=>whnf);refine ⟨rfl,?_⟩
        refine RW.v rfl (V.inc rfl rfl rfl hii hl0) ?_
        refine RW.k XK 164 1 rfl ?_
        (conv=>whnf);refine ⟨rfl,?_⟩
        refine RW.nil ?_
        exact ⟨(i + 1, _), by show L39.length - (i + 1) < L39.length - i; omega, (by omega), rfl, Le.c rfl <| Le.c rfl <| Le.c rfl <| Le.c rfl <| Le.c rfl <| Le.c (Dw_congr (by rw [take_snoc hei, List.map_append, pickF_all hik hnd (prop_ix hl)]; rfl)) <| Le.c rfl <| Le.c rfl <| Le.e⟩
      ·skip
       have hii : L39.length ≤ i := by have := h42; simp at this; first | exact this | omega | (simp; done) | (simp; omega)
       have hdi : L39.drop i = [] := List.drop_eq_nil_of_le hii
       have hLe : ((L39.take i).map (pickP n)) = newPeers n (confN (outP n kind data)) := by rw [List.take_of_length_le hii, hn40]; exact congrArg (fun c => (others c n.id).map (pickP n)) (conf_eqB (n := outP n kind data) (outP_log hl hr60))
       have hLO := prop_ok2 (k := kind) (d := data) hl hok hr60 hd hps
       rw [← hLe] at hLO
       refine CW.exit ?_
       refine CW.keep 164 [6,13,14,16,79] rfl ?_;(conv=>whnf);refine ⟨?_⟩
       refine CW.seq ?_
       refine CW.region ?_
       refine RW.k XK 164 6 rfl ?_
       (conv=>whnf);refine ⟨rfl,?_⟩
       refine RW.keep 164 [6,13,14,16,79] rfl ?_;(conv=>whnf);refine ⟨?_⟩
       refine RW.pullT (k := 79) (l := 16) (j := 13) 79 16 13 rfl rfl rfl (by decide) rfl rfl rfl ?_
       refine RW.keep 164 [6,13,14,79] rfl ?_;(conv=>whnf);refine ⟨?_⟩
       refine RW.nil ?_
       refine CW.keep 164 [6,13,14,79] rfl ?_;(conv=>whnf);refine ⟨?_⟩
       refine CW.seq ?_
       refine CW.region ?_
       refine RW.k XK 164 1 rfl ?_
       (conv=>whnf);refine ⟨rfl,?_⟩
       refine RW.freezeM (k := 79) [false, false, false, false, false, true, false, false, true, false, false, false, true, true, false] rfl (ds' := [I n.id, I n.term_, I n.vote, I n.role, I n.lead, .r (sl 1 cI n.conf), I n.log.start, I n.log.startTerm, .r (sl 3 Entry.c (n.log.entries ++ ([(⟨n.term_, kind, data⟩ : Entry)]))), I n.commit, I n.clock, I n.limit, .r (sl 1 cI n.votes), .r (sl 4 Peer.c ((L39.take i).map (pickP n))), .r (.v (.slice none 0 0))]) rfl ?_
       refine RW.callP (k := 79) (spec_l18Commit_fn (⟨(⟨n.id, n.term_, n.vote, n.role, n.lead, n.conf, (⟨n.log.start, n.log.startTerm, (n.log.entries ++ ([(⟨n.term_, kind, data⟩ : Entry)]))⟩ : Log), n.commit, n.clock, n.limit, n.votes, ((L39.take i).map (pickP n))⟩ : Node), []⟩ : l18Run) (com_prop hn hr60 hent _) hLO.ok) rfl rfl (Nat.le_of_ble_eq_true rfl) (by decide) rfl (DT.r (DT.r (DT.r (DT.r (DT.r (DT.r (DT.r (DT.r (DT.r (DT.r (DT.r (DT.r (DT.r (DT.r (DT.n DT.e))))))))))))))) (AsPs.here rfl (.nil)) fun g48 q49 => ?_
       refine RW.nil ?_
       obtain ⟨m50, hn51⟩ : ∃ z : Node, z = commitN (⟨n.id, n.term_, n.vote, n.role, n.lead, n.conf, (⟨n.log.start, n.log.startTerm, (n.log.entries ++ ([(⟨n.term_, kind, data⟩ : Entry)]))⟩ : Log), n.commit, n.clock, n.limit, n.votes, ((L39.take i).map (pickP n))⟩ : Node) := ⟨_, rfl⟩
       have hSn : logB m50.log ∧ (∀ p ∈ m50.peers, peerB m50.log p) ∧ m50.conf.length ≤ 1048576 ∧ m50.peers.length ≤ 1048576 := by subst hn51; exact hLO.send
       refine CW.le [(6, .obj b2 [I 0, I 0, I 0, I 0, I 0, .r (.v (.slice none 0 0)), I 0, I 0, .r (.v (.slice none 0 0)), I 0, I 0, I 0, .r (.v (.slice none 0 0)), .r (.v (.slice none 0 0))]), (13, .pt 79 b35 0), (14, I (IntKind.i64.wrap ((IntKind.i64.wrap (n.log.start + (n.log.entries.length : Int))) + 1))), (79, .obj b35 [I m50.id, I m50.term_, I m50.vote, I m50.role, I m50.lead, .r (sl 1 cI m50.conf), I ((m50.log).start), I ((m50.log).startTerm), .r (sl 3 Entry.c ((m50.log).entries)), I m50.commit, I m50.clock, I m50.limit, .r (sl 1 cI m50.votes), .r (sl 4 Peer.c m50.peers), .w (sl 12 Message.c ([])) (q49 14)])] rfl (Le.c rfl <| Le.c rfl <| Le.c rfl <| Le.c (by subst hn51; rfl) <| Le.e) ?_
       refine CW.keep 164 [6,13,14,79] rfl ?_;(conv=>whnf);refine ⟨?_⟩
       refine CW.seq ?_
       refine CW.region ?_
       refine RW.k XK 164 1 rfl ?_
       (conv=>whnf);refine ⟨rfl,?_⟩
       refine RW.callP (k := 79) (spec_l18SendAll_fn (⟨(⟨m50.id, m50.term_, m50.vote, m50.role, m50.lead, m50.conf, (m50.log), m50.commit, m50.clock, m50.limit, m50.votes, m50.peers⟩ : Node), ([])⟩ : l18Run) hSn.1 hSn.2.1 hSn.2.2.1 hSn.2.2.2 (Nat.zero_le _)) rfl rfl (Nat.le_of_ble_eq_true rfl) (by decide) rfl (DT.r (DT.r (DT.r (DT.r (DT.r (DT.r (DT.r (DT.r (DT.r (DT.r (DT.r (DT.r (DT.r (DT.r (DT.w DT.e))))))))))))))) (AsPs.here rfl (.nil)) fun g52 q53 => ?_
       refine RW.nil ?_
       refine CW.keep 164 [6,13,14,79] rfl ?_;(conv=>whnf);refine ⟨?_⟩
       refine CW.anyJ2 (fc := []) (L0 := [(79, .obj b35 [I ((⟨m50.id, m50.term_, m50.vote, m50.role, m50.lead, m50.conf, (m50.log), m50.commit, m50.clock, m50.limit, m50.votes, m50.peers⟩ : Node).id), I ((⟨m50.id, m50.term_, m50.vote, m50.role, m50.lead, m50.conf, (m50.log), m50.commit, m50.clock, m50.limit, m50.votes, m50.peers⟩ : Node).term_), I ((⟨m50.id, m50.term_, m50.vote, m50.role, m50.lead, m50.conf, (m50.log), m50.commit, m50.clock, m50.limit, m50.votes, m50.peers⟩ : Node).vote), I ((⟨m50.id, m50.term_, m50.vote, m50.role, m50.lead, m50.conf, (m50.log), m50.commit, m50.clock, m50.limit, m50.votes, m50.peers⟩ : Node).role), I ((⟨m50.id, m50.term_, m50.vote, m50.role, m50.lead, m50.conf, (m50.log), m50.commit, m50.clock, m50.limit, m50.votes, m50.peers⟩ : Node).lead), .r (sl 1 cI ((⟨m50.id, m50.term_, m50.vote, m50.role, m50.lead, m50.conf, (m50.log), m50.commit, m50.clock, m50.limit, m50.votes, m50.peers⟩ : Node).conf)), I (((⟨m50.id, m50.term_, m50.vote, m50.role, m50.lead, m50.conf, (m50.log), m50.commit, m50.clock, m50.limit, m50.votes, m50.peers⟩ : Node).log).start), I (((⟨m50.id, m50.term_, m50.vote, m50.role, m50.lead, m50.conf, (m50.log), m50.commit, m50.clock, m50.limit, m50.votes, m50.peers⟩ : Node).log).startTerm), .r (sl 3 Entry.c (((⟨m50.id, m50.term_, m50.vote, m50.role, m50.lead, m50.conf, (m50.log), m50.commit, m50.clock, m50.limit, m50.votes, m50.peers⟩ : Node).log).entries)), I ((⟨m50.id, m50.term_, m50.vote, m50.role, m50.lead, m50.conf, (m50.log), m50.commit, m50.clock, m50.limit, m50.votes, m50.peers⟩ : Node).commit), I ((⟨m50.id, m50.term_, m50.vote, m50.role, m50.lead, m50.conf, (m50.log), m50.commit, m50.clock, m50.limit, m50.votes, m50.peers⟩ : Node).clock), I ((⟨m50.id, m50.term_, m50.vote, m50.role, m50.lead, m50.conf, (m50.log), m50.commit, m50.clock, m50.limit, m50.votes, m50.peers⟩ : Node).limit), .r (sl 1 cI ((⟨m50.id, m50.term_, m50.vote, m50.role, m50.lead, m50.conf, (m50.log), m50.commit, m50.clock, m50.limit, m50.votes, m50.peers⟩ : Node).votes)), .r (sl 4 Peer.c ((⟨m50.id, m50.term_, m50.vote, m50.role, m50.lead, m50.conf, (m50.log), m50.commit, m50.clock, m50.limit, m50.votes, m50.peers⟩ : Node).peers)), .w (sl 12 Message.c (([]) ++ (⟨m50.id, m50.term_, m50.vote, m50.role, m50.lead, m50.conf, (m50.log), m50.commit, m50.clock, m50.limit, m50.votes, m50.peers⟩ : Node).peers.map (sendN (⟨m50.id, m50.term_, m50.vote, m50.role, m50.lead, m50.conf, (m50.log), m50.commit, m50.clock, m50.limit, m50.votes, m50.peers⟩ : Node)))) (q53 14)])]) 164 (fun (_ : Unit) => [(6, .obj b2 ((Node.c (⟨m50.id, m50.term_, m50.vote, m50.role, m50.lead, m50.conf, (m50.log), m50.commit, m50.clock, m50.limit, m50.votes, m50.peers⟩ : Node)).map .r)), (7, .al 79 (some 14) 12 ((([]) ++ (⟨m50.id, m50.term_, m50.vote, m50.role, m50.lead, m50.conf, (m50.log), m50.commit, m50.clock, m50.limit, m50.votes, m50.peers⟩ : Node).peers.map (sendN (⟨m50.id, m50.term_, m50.vote, m50.role, m50.lead, m50.conf, (m50.log), m50.commit, m50.clock, m50.limit, m50.votes, m50.peers⟩ : Node))).length) (q53 14) 0), (8, I (IntKind.i64.wrap ((IntKind.i64.wrap (n.log.start + (n.log.entries.length : Int))) + 1))), (9, Bo true)]) (fun all hall f hf b0 hb K hK => ?_) ?_
       ·skip
        have ro54_5 : ∀ B, RA f E B all 0 (bt 13 8191) ⟨164, [(6, .obj b2 ((Node.c (⟨m50.id, m50.term_, m50.vote, m50.role, m50.lead, m50.conf, (m50.log), m50.commit, m50.clock, m50.limit, m50.votes, m50.peers⟩ : Node)).map .r)), (7, .al 79 (some 14) 12 ((([]) ++ (⟨m50.id, m50.term_, m50.vote, m50.role, m50.lead, m50.conf, (m50.log), m50.commit, m50.clock, m50.limit, m50.votes, m50.peers⟩ : Node).peers.map (sendN (⟨m50.id, m50.term_, m50.vote, m50.role, m50.lead, m50.conf, (m50.log), m50.commit, m50.clock, m50.limit, m50.votes, m50.peers⟩ : Node))).length) (q53 14) 0), (8, I (IntKind.i64.wrap ((IntKind.i64.wrap (n.log.start + (n.log.entries.length : Int))) + 1))), (9, Bo true)] ++ b0⟩ K := by
         intro B
         exact RA.of2 hall hf hb (RA.finH (Tell.of rfl) (by kernel_rfl) (hK () _ rfl (Le.of rfl)))
        have ro54_4 : ∀ B, RA f E B all 4 (bt 13 895) ⟨164, [(6, .obj b2 ((Node.c (⟨m50.id, m50.term_, m50.vote, m50.role, m50.lead, m50.conf, (m50.log), m50.commit, m50.clock, m50.limit, m50.votes, m50.peers⟩ : Node)).map .r)), (161, .pt 79 b35 14), (163, I (IntKind.i64.wrap ((IntKind.i64.wrap (n.log.start + (n.log.entries.length : Int))) + 1)))] ++ b0⟩ K := by
         intro B
         refine RA.of2 hall hf hb (RA.stepH (L := [7]) (Tell.of rfl) (by kernel_rfl) (by simp) (RA.each ?_ (RA.each0)))
         ·skip
          refine RO.v rfl rfl (V.loadPrim (d := .al 79 (some 14) 12 ((([]) ++ (⟨m50.id, m50.term_, m50.vote, m50.role, m50.lead, m50.conf, (m50.log), m50.commit, m50.clock, m50.limit, m50.votes, m50.peers⟩ : Node).peers.map (sendN (⟨m50.id, m50.term_, m50.vote, m50.role, m50.lead, m50.conf, (m50.log), m50.commit, m50.clock, m50.limit, m50.votes, m50.peers⟩ : Node))).length) (q53 14) 0) rfl rfl (.inr ⟨_, rfl⟩) rfl rfl rfl) rfl ?_
          refine RA.fr XK 164 0 [10,11,12] (bt 13 8191) rfl rfl (by kernel_rfl) (Tell.of rfl) ?_
          (conv=>whnf);refine ⟨rfl,fun B=>?_⟩
          exact RA.to2 hall hf hb (ro54_5 B) rfl rfl (by kernel_rfl)
        have ro54_3 : ∀ B, RA f E B all 4 (bt 13 511) ⟨164, [(6, .obj b2 [I 0, I 0, I 0, I 0, I 0, .r (.v (.slice none 0 0)), I 0, I 0, .r (.v (.slice none 0 0)), I 0, I 0, I 0, .r (.v (.slice none 0 0)), .r (.v (.slice none 0 0))]), (158, .agg ((Node.c (⟨m50.id, m50.term_, m50.vote, m50.role, m50.lead, m50.conf, (m50.log), m50.commit, m50.clock, m50.limit, m50.votes, m50.peers⟩ : Node)).map .r)), (162, .al 79 (some 14) 12 ((([]) ++ (⟨m50.id, m50.term_, m50.vote, m50.role, m50.lead, m50.conf, (m50.log), m50.commit, m50.clock, m50.limit, m50.votes, m50.peers⟩ : Node).peers.map (sendN (⟨m50.id, m50.term_, m50.vote, m50.role, m50.lead, m50.conf, (m50.log), m50.commit, m50.clock, m50.limit, m50.votes, m50.peers⟩ : Node))).length) (q53 14) 0), (163, I (IntKind.i64.wrap ((IntKind.i64.wrap (n.log.start + (n.log.entries.length : Int))) + 1)))] ++ b0⟩ K := by
         intro B
         refine RA.of2 hall hf hb (RA.stepH (L := [9]) (Tell.of rfl) (by kernel_rfl) (by simp) (RA.each ?_ (RA.each0)))
         ·skip
          refine RO.storeAgg (es := ((Node.c (⟨m50.id, m50.term_, m50.vote, m50.role, m50.lead, m50.conf, (m50.log), m50.commit, m50.clock, m50.limit, m50.votes, m50.peers⟩ : Node)).map .r)) rfl rfl rfl rfl rfl rfl rfl rfl rfl rfl (Nat.le_of_ble_eq_true rfl) rfl ?_
          refine RA.fr XK 164 0 [10,11,12] (bt 13 8191) rfl rfl (by kernel_rfl) (Tell.of rfl) ?_
          (conv=>whnf);refine ⟨rfl,fun B=>?_⟩
          exact RA.to2 hall hf hb (ro54_5 B) rfl rfl (by kernel_rfl)
        have ro54_2 : ∀ B, RA f E B all 5 (bt 13 503) ⟨164, [(6, .obj b2 [I 0, I 0, I 0, I 0, I 0, .r (.v (.slice none 0 0)), I 0, I 0, .r (.v (.slice none 0 0)), I 0, I 0, I 0, .r (.v (.slice none 0 0)), .r (.v (.slice none 0 0))]), (157, .pt 79 b35 0), (162, .al 79 (some 14) 12 ((([]) ++ (⟨m50.id, m50.term_, m50.vote, m50.role, m50.lead, m50.conf, (m50.log), m50.commit, m50.clock, m50.limit, m50.votes, m50.peers⟩ : Node).peers.map (sendN (⟨m50.id, m50.term_, m50.vote, m50.role, m50.lead, m50.conf, (m50.log), m50.commit, m50.clock, m50.limit, m50.votes, m50.peers⟩ : Node))).length) (q53 14) 0), (163, I (IntKind.i64.wrap ((IntKind.i64.wrap (n.log.start + (n.log.entries.length : Int))) + 1)))] ++ b0⟩ K := by
         intro B
         refine RA.of2 hall hf hb (RA.stepH (L := [3]) (Tell.of rfl) (by kernel_rfl) (by simp) (RA.each ?_ (RA.each0)))
         ·skip
          refine RO.v rfl rfl (V.loadAgg rfl rfl rfl rfl rfl (Nat.le_of_ble_eq_true rfl)) rfl ?_
          exact RA.to2 hall hf hb (ro54_3 B) rfl rfl (by kernel_rfl)
        have ro54_1 : ∀ B, RA f E B all 5 (bt 13 383) ⟨164, [(6, .obj b2 [I 0, I 0, I 0, I 0, I 0, .r (.v (.slice none 0 0)), I 0, I 0, .r (.v (.slice none 0 0)), I 0, I 0, I 0, .r (.v (.slice none 0 0)), .r (.v (.slice none 0 0))]), (158, .agg ((Node.c (⟨m50.id, m50.term_, m50.vote, m50.role, m50.lead, m50.conf, (m50.log), m50.commit, m50.clock, m50.limit, m50.votes, m50.peers⟩ : Node)).map .r)), (161, .pt 79 b35 14), (163, I (IntKind.i64.wrap ((IntKind.i64.wrap (n.log.start + (n.log.entries.length : Int))) + 1)))] ++ b0⟩ K := by
         intro B
         refine RA.of2 hall hf hb (RA.stepH (L := [7, 9]) (Tell.of rfl) (by kernel_rfl) (by simp) (RA.each ?_ (RA.each ?_ (RA.each0))))
         ·skip
          refine RO.v rfl rfl (V.loadPrim (d := .al 79 (some 14) 12 ((([]) ++ (⟨m50.id, m50.term_, m50.vote, m50.role, m50.lead, m50.conf, (m50.log), m50.commit, m50.clock, m50.limit, m50.votes, m50.peers⟩ : Node).peers.map (sendN (⟨m50.id, m50.term_, m50.vote, m50.role, m50.lead, m50.conf, (m50.log), m50.commit, m50.clock, m50.limit, m50.votes, m50.peers⟩ : Node))).length) (q53 14) 0) rfl rfl (.inr ⟨_, rfl⟩) rfl rfl rfl) rfl ?_
          exact RA.to2 hall hf hb (ro54_3 B) rfl rfl (by kernel_rfl)
         ·skip
          refine RO.storeAgg (es := ((Node.c (⟨m50.id, m50.term_, m50.vote, m50.role, m50.lead, m50.conf, (m50.log), m50.commit, m50.clock, m50.limit, m50.votes, m50.peers⟩ : Node)).map .r)) rfl rfl rfl rfl rfl rfl rfl rfl rfl rfl (Nat.le_of_ble_eq_true rfl) rfl ?_
          exact RA.to2 hall hf hb (ro54_4 B) rfl rfl (by kernel_rfl)
        have ro54_0 : ∀ B, RA f E B all 6 (bt 13 375) ⟨164, [(6, .obj b2 [I 0, I 0, I 0, I 0, I 0, .r (.v (.slice none 0 0)), I 0, I 0, .r (.v (.slice none 0 0)), I 0, I 0, I 0, .r (.v (.slice none 0 0)), .r (.v (.slice none 0 0))]), (157, .pt 79 b35 0), (161, .pt 79 b35 14), (163, I (IntKind.i64.wrap ((IntKind.i64.wrap (n.log.start + (n.log.entries.length : Int))) + 1)))] ++ b0⟩ K := by
         intro B
         refine RA.of2 hall hf hb (RA.stepH (L := [3, 7]) (Tell.of rfl) (by kernel_rfl) (by simp) (RA.each ?_ (RA.each ?_ (RA.each0))))
         ·skip
          refine RO.v rfl rfl (V.loadAgg rfl rfl rfl rfl rfl (Nat.le_of_ble_eq_true rfl)) rfl ?_
          exact RA.to2 hall hf hb (ro54_1 B) rfl rfl (by kernel_rfl)
         ·skip
          refine RO.v rfl rfl (V.loadPrim (d := .al 79 (some 14) 12 ((([]) ++ (⟨m50.id, m50.term_, m50.vote, m50.role, m50.lead, m50.conf, (m50.log), m50.commit, m50.clock, m50.limit, m50.votes, m50.peers⟩ : Node).peers.map (sendN (⟨m50.id, m50.term_, m50.vote, m50.role, m50.lead, m50.conf, (m50.log), m50.commit, m50.clock, m50.limit, m50.votes, m50.peers⟩ : Node))).length) (q53 14) 0) rfl rfl (.inr ⟨_, rfl⟩) rfl rfl rfl) rfl ?_
          exact RA.to2 hall hf hb (ro54_2 B) rfl rfl (by kernel_rfl)
        refine RA.start (by kernel_rfl) (by kernel_rfl) (m := 13) (ls' := (bt 13 0)) ?_
        refine RA.fr XK 164 6 [0,1,2,4,5,6,8] (bt 13 375) rfl rfl (by kernel_rfl) (Tell.of rfl) ?_
        (conv=>whnf);refine ⟨rfl,fun B=>?_⟩
        exact RA.to2 hall hf hb (ro54_0 B) rfl rfl (by kernel_rfl)
       ·rintro _
        refine CW.takeO 7 79 14 (by decide) rfl rfl rfl ?_
        refine CW.ret ?_
        exact Post.tup (by decide) (RVs.c (RV.c (f := fun e => (Node.c e).map .r) (e' := (⟨m50.id, m50.term_, m50.vote, m50.role, m50.lead, m50.conf, (m50.log), m50.commit, m50.clock, m50.limit, m50.votes, m50.peers⟩ : Node)) rfl rfl rfl rfl (DT.r (DT.r (DT.r (DT.r (DT.r (DT.r (DT.r (DT.r (DT.r (DT.r (DT.r (DT.r (DT.r (DT.r DT.e)))))))))))))) (by subst hn51; first | (rw [prop_yes hgd hyes, propS_all hn hl hr2 hr60, ← hLe]; done) | (rw [prop_yes hgd hyes, propS_all hn hl hr2 hr60, ← hLe]; rfl))) (RVs.c (RV.w rfl (by subst hn51; first | (rw [prop_yes hgd hyes, propS_all hn hl hr2 hr60, ← hLe]; done) | (rw [prop_yes hgd hyes, propS_all hn hl hr2 hr60, ← hLe]; rfl))) (RVs.c (RV.i rfl (by rw [prop_yes hgd hyes]; exact prop_ix hl)) (RVs.c (RV.b rfl (by rw [prop_yes hgd hyes])) RVs.e)))) (AOs.a rfl (AOs.r (AOs.r AOs.e)))
set_option maxHeartbeats 4000000 in
theorem laws_szEntry_fn (a : Entry) (left : Int) : Eng.Fn E.P 114 [.agg ((Entry.c a).map .r), .one (.r (.v (.int .i64 left)))] (.one (.one (.w (.v (.int .i64 (szEntry a left)))))) [.agg ((Entry.c a).map .r), .one (.r (.v (.int .i64 left)))] := by
 refine Eng.Fn.intro (E := E) (rvs := [.tmp 4]) Try.func114 rfl rfl rfl (by simp [outSlots, moved, rvSlot, sl]) ?_
 intro B g bo
 refine CW.keep 13 [0,1] rfl ?_;(conv=>whnf);refine ⟨?_⟩
 refine CW.seq ?_
 refine CW.region ?_
 refine RW.k XK 13 1 rfl ?_
 (conv=>whnf);intro b1;(conv=>whnf);refine ⟨rfl,?_⟩
 refine RW.freezeB (ts := (Entry.c a)) 2 rfl (DRd.r (DRd.r (DRd.r DRd.e))) ?_
 refine RW.k XK 13 1 rfl ?_
 (conv=>whnf);refine ⟨rfl,?_⟩
 refine RW.nil ?_
 refine CW.keep 13 [1,2] rfl ?_;(conv=>whnf);refine ⟨?_⟩
 refine CW.k XK 13 1 [1] rfl ?_
 (conv=>whnf);refine ⟨rfl,?_⟩
 refine CW.seq ?_
 refine CW.k XK 13 1 [1,11] rfl ?_
 (conv=>whnf);refine ⟨rfl,?_⟩
 refine CW.cond rfl (fun h2 => ?_) (fun h2 => ?_)
 ·skip
  refine CW.k XK 13 1 [4] rfl ?_
  (conv=>whnf);refine ⟨rfl,?_⟩
  refine CW.ret ?_
  exact Post.one (RV.i rfl (by first | (simp_all [szEntry]; done) | (simp_all [szEntry]; omega) | grind [szEntry])) (AOs.a rfl (AOs.r AOs.e))
 ·skip
  refine CW.skip ?_
  refine CW.keep 13 [1] rfl ?_;(conv=>whnf);refine ⟨?_⟩
  refine CW.k XK 13 1 [4] rfl ?_
  (conv=>whnf);refine ⟨rfl,?_⟩
  refine CW.ret ?_
  exact Post.one (RV.i rfl (by first | (simp_all [szEntry]; done) | (simp_all [szEntry]; omega) | grind [szEntry])) (AOs.a rfl (AOs.r AOs.e))
set_option maxHeartbeats 4000000 in
theorem laws_szIntS_fn (a : List Int) (left : Int) : Eng.Fn E.P 53 [.one (.r (sl 1 cI a)), .one (.r (.v (.int .i64 left)))] (.one (.one (.w (.v (.int .i64 (szI a left)))))) [.one (.r (sl 1 cI a)), .one (.r (.v (.int .i64 left)))] := by
 refine Eng.Fn.intro (E := E) (rvs := [.tmp 4]) Try.func53 rfl rfl rfl (by simp [outSlots, moved, rvSlot, sl]) ?_
 intro B g bo
 refine CW.bound (x := .tmp 0) (n := a.length) (AsT.r) (fun hl0 => ?_)
 refine CW.keep 12 [0,1] rfl ?_;(conv=>whnf);refine ⟨?_⟩
 refine CW.k XK 12 2 [1] rfl ?_
 (conv=>whnf);refine ⟨rfl,?_⟩
 refine CW.seq ?_
 refine CW.k XK 12 1 [1,10] rfl ?_
 (conv=>whnf);refine ⟨rfl,?_⟩
 refine CW.cond rfl (fun h1 => ?_) (fun h1 => ?_)
 ·skip
  refine CW.k XK 12 1 [4] rfl ?_
  (conv=>whnf);refine ⟨rfl,?_⟩
  refine CW.ret ?_
  exact Post.one (RV.i rfl (by first | (simp_all [szI]; done) | (simp_all [szI]; omega))) (AOs.r (AOs.r AOs.e))
 ·skip
  refine CW.skip ?_
  refine CW.keep 12 [1] rfl ?_;(conv=>whnf);refine ⟨?_⟩
  refine CW.k XK 12 1 [4] rfl ?_
  (conv=>whnf);refine ⟨rfl,?_⟩
  refine CW.ret ?_
  exact Post.one (RV.i rfl (by first | (simp_all [szI]; done) | (simp_all [szI]; omega))) (AOs.r (AOs.r AOs.e))
set_option maxHeartbeats 4000000 in
theorem laws_szEntryS_fn (a : List Entry) (left : Int) : Eng.Fn E.P 116 [.one (.r (sl 3 Entry.c a)), .one (.r (.v (.int .i64 left)))] (.one (.one (.w (.v (.int .i64 (szS szEntry a left)))))) [.one (.r (sl 3 Entry.c a)), .one (.r (.v (.int .i64 left)))] := by
 refine Eng.Fn.intro (E := E) (rvs := [.tmp 4]) Try.func116 rfl rfl rfl (by simp [outSlots, moved, rvSlot, sl]) ?_
 intro B g bo
 refine CW.bound (x := .tmp 0) (n := a.length) (AsT.r) (fun hl0 => ?_)
 refine CW.keep 27 [0,1] rfl ?_;(conv=>whnf);refine ⟨?_⟩
 refine CW.k XK 27 2 [0,1] rfl ?_
 (conv=>whnf);refine ⟨rfl,?_⟩
 refine CW.seq ?_
 refine CW.k XK 27 1 [0,1,11] rfl ?_
 (conv=>whnf);refine ⟨rfl,?_⟩
 refine CW.cond rfl (fun h1 => ?_) (fun h1 => ?_)
 ·skip
  refine CW.k XK 27 1 [4] rfl ?_
  (conv=>whnf);refine ⟨rfl,?_⟩
  refine CW.ret ?_
  exact Post.one (RV.i rfl (by first | (simp_all [szS, szL, szStr, szI]; done) | grind [szS, szL, szStr, szI])) (AOs.r (AOs.r AOs.e))
 ·skip
  refine CW.skip ?_
  refine CW.keep 27 [0,1] rfl ?_;(conv=>whnf);refine ⟨?_⟩
  refine CW.seq ?_
  refine CW.k XK 27 1 [0,1,5] rfl ?_
  (conv=>whnf);refine ⟨rfl,?_⟩
  refine CW.block ?_
  refine CW.loopI 27 (fun (zz : Nat × Int) => match zz with | (i, l) => [(0, .r (sl 3 Entry.c a)), (1, I l), (5, I (i : Int))]) (fun (zz : Nat × Int) => match zz with | (i, l) => i ≤ a.length ∧ szL szEntry (a.drop i) l = szS szEntry a left) (fun (zz : Nat × Int) => match zz with | (i, l) => a.length - i) (0, _) rfl (Le.c rfl <| Le.c rfl <| Le.c rfl <| Le.e) ⟨by omega, by first | (simp_all [szS]; done) | grind [szS]⟩ ?_
  rintro ⟨i, l⟩ ⟨hb, hr⟩
  refine CW.seq ?_
  refine CW.k XK 27 1 [0,1,5,15] rfl ?_
  (conv=>whnf);refine ⟨rfl,?_⟩
  refine CW.cond rfl (fun h2 => ?_) (fun h2 => ?_)
  ·skip
   have hii : i < a.length := by have := h2; simp at this; first | exact this | omega | (simp; done) | (simp; omega)
   obtain ⟨ei, hei⟩ : ∃ e, a[i]? = some e := ⟨_, List.getElem?_eq_getElem hii⟩
   have hdi := drop_get hei
   refine CW.skip ?_
   refine CW.keep 27 [0,1,5] rfl ?_;(conv=>whnf);refine ⟨?_⟩
   refine CW.seq ?_
   refine CW.block ?_
   refine CW.seq ?_
   refine CW.region ?_
   refine RW.k XK 27 2 rfl ?_
   (conv=>whnf);refine ⟨rfl,?_⟩
   refine RW.v rfl (V.indexS rfl rfl rfl rfl rfl rfl Entry.len hei) ?_
   refine RW.k XK 27 2 rfl ?_
   (conv=>whnf);refine ⟨rfl,?_⟩
   refine RW.call rfl (laws_szEntry_fn ei l) rfl (.cons (.agg (.cons (.r .r) (.cons (.r .r) (.cons (.r .r) (.nil))))) (.cons (.one (.r .r)) (.nil))) fun g3 => ?_
   refine RW.k XK 27 1 rfl ?_
   (conv=>whnf);refine ⟨rfl,?_⟩
   refine RW.nil ?_
   refine CW.keep 27 [0,1,5] rfl ?_;(conv=>whnf);refine ⟨?_⟩
   refine CW.k XK 27 1 [0,1,5,25] rfl ?_
   (conv=>whnf);refine ⟨rfl,?_⟩
   refine CW.cond rfl (fun h4 => ?_) (fun h4 => ?_)
   ·skip
    refine CW.k XK 27 1 [4] rfl ?_
    (conv=>whnf);refine ⟨rfl,?_⟩
    refine CW.ret ?_
    exact Post.one (RV.i rfl (by first | (simp_all [szS, szL, szStr, szI]; done) | grind [szS, szL, szStr, szI])) (AOs.r (AOs.r AOs.e))
   ·skip
    refine CW.skip ?_
    refine CW.keep 27 [0,1,5] rfl ?_;(conv=>whnf);refine ⟨?_⟩
    refine CW.region ?_
    refine RW.k XK 27 1 rfl ?_
    (conv=>whnf);refine ⟨rfl,?_⟩
    refine RW.v rfl (V.inc rfl rfl rfl hii hl0) ?_
    refine RW.k XK 27 1 rfl ?_
    (conv=>whnf);refine ⟨rfl,?_⟩
    refine RW.nil ?_
    exact ⟨(i + 1, _), by simp only []; omega, ⟨by omega, by first | (simp_all [szL, szStr, szI]; done) | grind [szL, szStr, szI]⟩, rfl, Le.c rfl <| Le.c rfl <| Le.c rfl <| Le.e⟩
  ·skip
   have hii : a.length ≤ i := by have := h2; simp at this; first | exact this | omega | (simp; done) | (simp; omega)
   have hdi : a.drop i = [] := List.drop_eq_nil_of_le hii
   refine CW.exit ?_
   refine CW.keep 27 [1] rfl ?_;(conv=>whnf);refine ⟨?_⟩
   refine CW.k XK 27 1 [4] rfl ?_
   (conv=>whnf);refine ⟨rfl,?_⟩
   refine CW.ret ?_
   exact Post.one (RV.i rfl (by first | (simp_all [szS, szL, szStr, szI]; done) | grind [szS, szL, szStr, szI])) (AOs.r (AOs.r AOs.e))
set_option maxHeartbeats 4000000 in
theorem laws_szLog_fn (a : Log) (left : Int) : Eng.Fn E.P 54 [.agg ((Log.c a).map .r), .one (.r (.v (.int .i64 left)))] (.one (.one (.w (.v (.int .i64 (szLog a left)))))) [.agg ((Log.c a).map .r), .one (.r (.v (.int .i64 left)))] := by
 refine Eng.Fn.intro (E := E) (rvs := [.tmp 4]) Try.func54 rfl rfl rfl (by simp [outSlots, moved, rvSlot, sl]) ?_
 intro B g bo
 refine CW.keep 12 [0,1] rfl ?_;(conv=>whnf);refine ⟨?_⟩
 refine CW.seq ?_
 refine CW.region ?_
 refine RW.k XK 12 1 rfl ?_
 (conv=>whnf);intro b1;(conv=>whnf);refine ⟨rfl,?_⟩
 refine RW.freezeB (ts := (Log.c a)) 2 rfl (DRd.r (DRd.r (DRd.r DRd.e))) ?_
 refine RW.k XK 12 1 rfl ?_
 (conv=>whnf);refine ⟨rfl,?_⟩
 refine RW.nil ?_
 refine CW.keep 12 [1,2] rfl ?_;(conv=>whnf);refine ⟨?_⟩
 refine CW.seq ?_
 refine CW.region ?_
 refine RW.k XK 12 3 rfl ?_
 (conv=>whnf);refine ⟨rfl,?_⟩
 refine RW.call rfl (laws_szEntryS_fn a.entries left) rfl (.cons (.one (.r .r)) (.cons (.one (.r .r)) (.nil))) fun g2 => ?_
 refine RW.k XK 12 1 rfl ?_
 (conv=>whnf);refine ⟨rfl,?_⟩
 refine RW.nil ?_
 refine CW.keep 12 [1] rfl ?_;(conv=>whnf);refine ⟨?_⟩
 refine CW.seq ?_
 refine CW.k XK 12 1 [1,10] rfl ?_
 (conv=>whnf);refine ⟨rfl,?_⟩
 refine CW.cond rfl (fun h3 => ?_) (fun h3 => ?_)
 ·skip
  refine CW.k XK 12 1 [4] rfl ?_
  (conv=>whnf);refine ⟨rfl,?_⟩
  refine CW.ret ?_
  exact Post.one (RV.i rfl (by first | (simp_all [szLog]; done) | (simp_all [szLog]; omega) | grind [szLog])) (AOs.a rfl (AOs.r AOs.e))
 ·skip
  refine CW.skip ?_
  refine CW.keep 12 [1] rfl ?_;(conv=>whnf);refine ⟨?_⟩
  refine CW.k XK 12 1 [4] rfl ?_
  (conv=>whnf);refine ⟨rfl,?_⟩
  refine CW.ret ?_
  exact Post.one (RV.i rfl (by first | (simp_all [szLog]; done) | (simp_all [szLog]; omega) | grind [szLog])) (AOs.a rfl (AOs.r AOs.e))
set_option maxHeartbeats 4000000 in
theorem laws_szPeerS_fn (a : List Peer) (left : Int) : Eng.Fn E.P 55 [.one (.r (sl 4 Peer.c a)), .one (.r (.v (.int .i64 left)))] (.one (.one (.w (.v (.int .i64 (szI a left)))))) [.one (.r (sl 4 Peer.c a)), .one (.r (.v (.int .i64 left)))] := by
 refine Eng.Fn.intro (E := E) (rvs := [.tmp 4]) Try.func55 rfl rfl rfl (by simp [outSlots, moved, rvSlot, sl]) ?_
 intro B g bo
 refine CW.bound (x := .tmp 0) (n := a.length) (AsT.r) (fun hl0 => ?_)
 refine CW.keep 12 [0,1] rfl ?_;(conv=>whnf);refine ⟨?_⟩
 refine CW.k XK 12 2 [1] rfl ?_
 (conv=>whnf);refine ⟨rfl,?_⟩
 refine CW.seq ?_
 refine CW.k XK 12 1 [1,10] rfl ?_
 (conv=>whnf);refine ⟨rfl,?_⟩
 refine CW.cond rfl (fun h1 => ?_) (fun h1 => ?_)
 ·skip
  refine CW.k XK 12 1 [4] rfl ?_
  (conv=>whnf);refine ⟨rfl,?_⟩
  refine CW.ret ?_
  exact Post.one (RV.i rfl (by first | (simp_all [szI]; done) | (simp_all [szI]; omega))) (AOs.r (AOs.r AOs.e))
 ·skip
  refine CW.skip ?_
  refine CW.keep 12 [1] rfl ?_;(conv=>whnf);refine ⟨?_⟩
  refine CW.k XK 12 1 [4] rfl ?_
  (conv=>whnf);refine ⟨rfl,?_⟩
  refine CW.ret ?_
  exact Post.one (RV.i rfl (by first | (simp_all [szI]; done) | (simp_all [szI]; omega))) (AOs.r (AOs.r AOs.e))
set_option maxHeartbeats 4000000 in
theorem laws_szNode_fn (a : Node) (left : Int) : Eng.Fn E.P 19 [.agg ((Node.c a).map .r), .one (.r (.v (.int .i64 left)))] (.one (.one (.w (.v (.int .i64 (szNode a left)))))) [.agg ((Node.c a).map .r), .one (.r (.v (.int .i64 left)))] := by
 refine Eng.Fn.intro (E := E) (rvs := [.tmp 4]) Try.func19 rfl rfl rfl (by simp [outSlots, moved, rvSlot, sl]) ?_
 intro B g bo
 refine CW.keep 30 [0,1] rfl ?_;(conv=>whnf);refine ⟨?_⟩
 refine CW.seq ?_
 refine CW.region ?_
 refine RW.k XK 30 1 rfl ?_
 (conv=>whnf);intro b1;(conv=>whnf);refine ⟨rfl,?_⟩
 refine RW.freezeB (ts := (Node.c a)) 2 rfl (DRd.r (DRd.r (DRd.r (DRd.r (DRd.r (DRd.r (DRd.r (DRd.r (DRd.r (DRd.r (DRd.r (DRd.r (DRd.r (DRd.r DRd.e)))))))))))))) ?_
 refine RW.k XK 30 1 rfl ?_
 (conv=>whnf);refine ⟨rfl,?_⟩
 refine RW.nil ?_
 refine CW.keep 30 [1,2] rfl ?_;(conv=>whnf);refine ⟨?_⟩
 refine CW.seq ?_
 refine CW.region ?_
 refine RW.k XK 30 3 rfl ?_
 (conv=>whnf);refine ⟨rfl,?_⟩
 refine RW.call rfl (laws_szIntS_fn a.conf left) rfl (.cons (.one (.r .r)) (.cons (.one (.r .r)) (.nil))) fun g2 => ?_
 refine RW.k XK 30 1 rfl ?_
 (conv=>whnf);refine ⟨rfl,?_⟩
 refine RW.nil ?_
 refine CW.keep 30 [1,2] rfl ?_;(conv=>whnf);refine ⟨?_⟩
 refine CW.seq ?_
 refine CW.k XK 30 1 [1,2,10] rfl ?_
 (conv=>whnf);refine ⟨rfl,?_⟩
 refine CW.cond rfl (fun h3 => ?_) (fun h3 => ?_)
 ·skip
  refine CW.k XK 30 1 [4] rfl ?_
  (conv=>whnf);refine ⟨rfl,?_⟩
  refine CW.ret ?_
  exact Post.one (RV.i rfl (by first | (simp_all [szNode]; done) | (simp_all [szNode]; omega) | grind [szNode])) (AOs.a rfl (AOs.r AOs.e))
 ·skip
  refine CW.skip ?_
  refine CW.keep 30 [1,2] rfl ?_;(conv=>whnf);refine ⟨?_⟩
  refine CW.seq ?_
  refine CW.region ?_
  refine RW.k XK 30 3 rfl ?_
  (conv=>whnf);refine ⟨rfl,?_⟩
  refine RW.call rfl (laws_szLog_fn a.log (szI a.conf left)) rfl (.cons (.agg (.cons (.r .r) (.cons (.r .r) (.cons (.r .r) (.nil))))) (.cons (.one (.r .r)) (.nil))) fun g4 => ?_
  refine RW.k XK 30 1 rfl ?_
  (conv=>whnf);refine ⟨rfl,?_⟩
  refine RW.nil ?_
  refine CW.keep 30 [1,2] rfl ?_;(conv=>whnf);refine ⟨?_⟩
  refine CW.seq ?_
  refine CW.k XK 30 1 [1,2,16] rfl ?_
  (conv=>whnf);refine ⟨rfl,?_⟩
  refine CW.cond rfl (fun h5 => ?_) (fun h5 => ?_)
  ·skip
   refine CW.k XK 30 1 [4] rfl ?_
   (conv=>whnf);refine ⟨rfl,?_⟩
   refine CW.ret ?_
   exact Post.one (RV.i rfl (by first | (simp_all [szNode]; done) | (simp_all [szNode]; omega) | grind [szNode])) (AOs.a rfl (AOs.r AOs.e))
  ·skip
   refine CW.skip ?_
   refine CW.keep 30 [1,2] rfl ?_;(conv=>whnf);refine ⟨?_⟩
   refine CW.seq ?_
   refine CW.region ?_
   refine RW.k XK 30 3 rfl ?_
   (conv=>whnf);refine ⟨rfl,?_⟩
   refine RW.call rfl (laws_szIntS_fn a.votes (szLog a.log (szI a.conf left))) rfl (.cons (.one (.r .r)) (.cons (.one (.r .r)) (.nil))) fun g6 => ?_
   refine RW.k XK 30 1 rfl ?_
   (conv=>whnf);refine ⟨rfl,?_⟩
   refine RW.nil ?_
   refine CW.keep 30 [1,2] rfl ?_;(conv=>whnf);refine ⟨?_⟩
   refine CW.seq ?_
   refine CW.k XK 30 1 [1,2,22] rfl ?_
   (conv=>whnf);refine ⟨rfl,?_⟩
   refine CW.cond rfl (fun h7 => ?_) (fun h7 => ?_)
   ·skip
    refine CW.k XK 30 1 [4] rfl ?_
    (conv=>whnf);refine ⟨rfl,?_⟩
    refine CW.ret ?_
    exact Post.one (RV.i rfl (by first | (simp_all [szNode]; done) | (simp_all [szNode]; omega) | grind [szNode])) (AOs.a rfl (AOs.r AOs.e))
   ·skip
    refine CW.skip ?_
    refine CW.keep 30 [1,2] rfl ?_;(conv=>whnf);refine ⟨?_⟩
    refine CW.seq ?_
    refine CW.region ?_
    refine RW.k XK 30 3 rfl ?_
    (conv=>whnf);refine ⟨rfl,?_⟩
    refine RW.call rfl (laws_szPeerS_fn a.peers (szI a.votes (szLog a.log (szI a.conf left)))) rfl (.cons (.one (.r .r)) (.cons (.one (.r .r)) (.nil))) fun g8 => ?_
    refine RW.k XK 30 1 rfl ?_
    (conv=>whnf);refine ⟨rfl,?_⟩
    refine RW.nil ?_
    refine CW.keep 30 [1] rfl ?_;(conv=>whnf);refine ⟨?_⟩
    refine CW.seq ?_
    refine CW.k XK 30 1 [1,28] rfl ?_
    (conv=>whnf);refine ⟨rfl,?_⟩
    refine CW.cond rfl (fun h9 => ?_) (fun h9 => ?_)
    ·skip
     refine CW.k XK 30 1 [4] rfl ?_
     (conv=>whnf);refine ⟨rfl,?_⟩
     refine CW.ret ?_
     exact Post.one (RV.i rfl (by first | (simp_all [szNode]; done) | (simp_all [szNode]; omega) | grind [szNode])) (AOs.a rfl (AOs.r AOs.e))
    ·skip
     refine CW.skip ?_
     refine CW.keep 30 [1] rfl ?_;(conv=>whnf);refine ⟨?_⟩
     refine CW.k XK 30 1 [4] rfl ?_
     (conv=>whnf);refine ⟨rfl,?_⟩
     refine CW.ret ?_
     exact Post.one (RV.i rfl (by first | (simp_all [szNode]; done) | (simp_all [szNode]; omega) | grind [szNode])) (AOs.a rfl (AOs.r AOs.e))
set_option maxHeartbeats 4000000 in
theorem laws_toIntS_fn (a : List Int) (hm : a.length ≤ 1048576) : Eng.Fn E.P 25 [.one (.r (sl 1 cI a))] (.one (.one (.w (sl 1 cI a)))) [.one (.r (sl 1 cI a))] := by
 refine Eng.Fn.intro (E := E) (rvs := [.tmp 2]) Try.func25 rfl rfl rfl (by simp [outSlots, moved, rvSlot, sl]) ?_
 intro B g bo
 refine CW.bound (x := .tmp 0) (n := a.length) (AsT.r) (fun hl0 => ?_)
 refine CW.keep 22 [0] rfl ?_;(conv=>whnf);refine ⟨?_⟩
 refine CW.k XK 22 1 [0] rfl ?_
 (conv=>whnf);refine ⟨rfl,?_⟩
 refine CW.seq ?_
 refine CW.region ?_
 refine RW.k XK 22 2 rfl ?_
 (conv=>whnf);refine ⟨rfl,?_⟩
 refine RW.makeS (n := a.length) (c := cI) 0 rfl rfl rfl rfl rfl rfl rfl rfl (ZT.v ZT.e) (by show 8 * a.length ≤ 281474976710656; omega) (by simp only [maxLen]; omega) fun X1 => ?_
 refine RW.assignMove rfl rfl rfl (by decide) (Nat.le_of_ble_eq_true rfl) (Nat.le_of_ble_eq_true rfl) ?_
 refine RW.nil ?_
 refine CW.keep 22 [0,3] rfl ?_;(conv=>whnf);refine ⟨?_⟩
 refine CW.seq ?_
 refine CW.k XK 22 1 [0,3,4] rfl ?_
 (conv=>whnf);refine ⟨rfl,?_⟩
 refine CW.block ?_
 refine CW.loopI 22 (fun (i : Nat) => [(0, .r (sl 1 cI a)), (3, .w (sl 1 cI (a.take i ++ List.replicate (a.length - i) 0)) X1), (4, I (i : Int))]) (fun (i : Nat) => i ≤ a.length) (fun (i : Nat) => a.length - i) 0 rfl (Le.c rfl <| Le.c rfl <| Le.c rfl <| Le.e) (by omega) ?_
 rintro i hb
 refine CW.seq ?_
 refine CW.k XK 22 1 [0,3,4,11] rfl ?_
 (conv=>whnf);refine ⟨rfl,?_⟩
 refine CW.cond rfl (fun h2 => ?_) (fun h2 => ?_)
 ·skip
  have hii : i < a.length := by have := h2; simp at this; first | exact this | omega | (simp; done) | (simp; omega)
  obtain ⟨ei, hei⟩ : ∃ e, a[i]? = some e := ⟨_, List.getElem?_eq_getElem hii⟩
  have hdi := drop_get hei
  refine CW.skip ?_
  refine CW.keep 22 [0,3,4] rfl ?_;(conv=>whnf);refine ⟨?_⟩
  refine CW.seq ?_
  refine CW.block ?_
  refine CW.region ?_
  refine RW.k XK 22 4 rfl ?_
  (conv=>whnf);refine ⟨rfl,?_⟩
  refine RW.v rfl (V.indexS rfl rfl rfl rfl rfl rfl cI.len hei) ?_
  refine RW.k XK 22 1 rfl ?_
  (conv=>whnf);refine ⟨rfl,?_⟩
  refine RW.v rfl (V.indexW rfl rfl rfl rfl rfl rfl rfl (by simp; omega)) ?_
  refine RW.storeS1 (v := ei) (c := cI) (u := .v (.int .i64 ei)) rfl rfl rfl rfl rfl rfl rfl (.inl rfl) rfl cI.len (by simp; omega) rfl ?_
  refine RW.nil ?_
  refine CW.keep 22 [0,3,4] rfl ?_;(conv=>whnf);refine ⟨?_⟩
  refine CW.region ?_
  refine RW.k XK 22 1 rfl ?_
  (conv=>whnf);refine ⟨rfl,?_⟩
  refine RW.v rfl (V.inc rfl rfl rfl hii hl0) ?_
  refine RW.k XK 22 1 rfl ?_
  (conv=>whnf);refine ⟨rfl,?_⟩
  refine RW.nil ?_
  exact ⟨i + 1, by omega, by omega, rfl, Le.c rfl <| Le.c (congrArg (fun l => D.w (sl _ cI l) X1) (take_set hei)) <| Le.c rfl <| Le.e⟩
 ·skip
  have hii : a.length ≤ i := by have := h2; simp at this; first | exact this | omega | (simp; done) | (simp; omega)
  have hdi : a.drop i = [] := List.drop_eq_nil_of_le hii
  refine CW.exit ?_
  refine CW.keep 22 [3] rfl ?_;(conv=>whnf);refine ⟨?_⟩
  refine CW.seq ?_
  refine CW.region ?_
  refine RW.k XK 22 2 rfl ?_
  (conv=>whnf);refine ⟨rfl,?_⟩
  refine RW.pullS 2 3 (by decide) rfl rfl ?_
  refine RW.nil ?_
  refine CW.keep 22 [2] rfl ?_;(conv=>whnf);refine ⟨?_⟩
  refine CW.ret ?_
  exact Post.one (RV.w rfl (by rw [List.take_of_length_le hii, show a.length - i = 0 from by omega]; simp)) (AOs.r AOs.e)
set_option maxHeartbeats 4000000 in
theorem laws_toEntry_fn (a : Entry) (hs : okToEntry a) : Eng.Fn E.P 115 [.agg ((Entry.c a).map .r)] (.one (.agg ((Entry.c a).map .w))) [.agg ((Entry.c a).map .r)] := by
 refine Eng.Fn.intro (E := E) (rvs := [.cell 2 81]) Try.func115 rfl rfl rfl (by simp [outSlots, moved, rvSlot, sl]) ?_
 intro B g bo
 refine CW.keep 14 [0] rfl ?_;(conv=>whnf);refine ⟨?_⟩
 refine CW.seq ?_
 refine CW.region ?_
 refine RW.k XK 14 1 rfl ?_
 (conv=>whnf);intro b1;(conv=>whnf);refine ⟨rfl,?_⟩
 refine RW.freezeB (ts := (Entry.c a)) 1 rfl (DRd.r (DRd.r (DRd.r DRd.e))) ?_
 refine RW.k XK 14 1 rfl ?_
 (conv=>whnf);intro b2;(conv=>whnf);refine ⟨rfl,?_⟩
 refine RW.nil ?_
 refine CW.keep 14 [1,2] rfl ?_;(conv=>whnf);refine ⟨?_⟩
 refine CW.k XK 14 5 [2] rfl ?_
 (conv=>whnf);intro b3;(conv=>whnf);refine ⟨rfl,?_⟩
 refine CW.ret ?_
 exact Post.one (RV.c (f := fun e => (Entry.c e).map .w) (e' := a) rfl rfl rfl rfl (DT.v (DT.v (DT.v DT.e))) (by simp_all)) (AOs.a rfl AOs.e)
set_option maxHeartbeats 4000000 in
theorem laws_toEntryS_fn (a : List Entry) (hm : a.length ≤ 1048576) (hs : ∀ x ∈ a, okToEntry x) : Eng.Fn E.P 117 [.one (.r (sl 3 Entry.c a))] (.one (.one (.w (sl 3 Entry.c a)))) [.one (.r (sl 3 Entry.c a))] := by
 refine Eng.Fn.intro (E := E) (rvs := [.tmp 2]) Try.func117 rfl rfl rfl (by simp [outSlots, moved, rvSlot, sl]) ?_
 intro B g bo
 refine CW.bound (x := .tmp 0) (n := a.length) (AsT.r) (fun hl0 => ?_)
 refine CW.keep 23 [0] rfl ?_;(conv=>whnf);refine ⟨?_⟩
 refine CW.k XK 23 1 [0] rfl ?_
 (conv=>whnf);refine ⟨rfl,?_⟩
 refine CW.seq ?_
 refine CW.region ?_
 refine RW.k XK 23 2 rfl ?_
 (conv=>whnf);refine ⟨rfl,?_⟩
 refine RW.makeS (n := a.length) (c := Entry.c) Entry.z rfl rfl rfl rfl rfl rfl rfl rfl (ZT.v (ZT.v (ZT.v ZT.e))) (by show 32 * a.length ≤ 281474976710656; omega) (by simp only [maxLen]; omega) fun X1 => ?_
 refine RW.assignMove rfl rfl rfl (by decide) (Nat.le_of_ble_eq_true rfl) (Nat.le_of_ble_eq_true rfl) ?_
 refine RW.nil ?_
 refine CW.keep 23 [0,3] rfl ?_;(conv=>whnf);refine ⟨?_⟩
 refine CW.seq ?_
 refine CW.k XK 23 1 [0,3,4] rfl ?_
 (conv=>whnf);refine ⟨rfl,?_⟩
 refine CW.block ?_
 refine CW.loopI 23 (fun (i : Nat) => [(0, .r (sl 3 Entry.c a)), (3, .w (sl 3 Entry.c (a.take i ++ List.replicate (a.length - i) Entry.z)) X1), (4, I (i : Int))]) (fun (i : Nat) => i ≤ a.length) (fun (i : Nat) => a.length - i) 0 rfl (Le.c rfl <| Le.c rfl <| Le.c rfl <| Le.e) (by omega) ?_
 rintro i hb
 refine CW.seq ?_
 refine CW.k XK 23 1 [0,3,4,11] rfl ?_
 (conv=>whnf);refine ⟨rfl,?_⟩
 refine CW.cond rfl (fun h2 => ?_) (fun h2 => ?_)
 ·skip
  have hii : i < a.length := by have := h2; simp at this; first | exact this | omega | (simp; done) | (simp; omega)
  obtain ⟨ei, hei⟩ : ∃ e, a[i]? = some e := ⟨_, List.getElem?_eq_getElem hii⟩
  have hdi := drop_get hei
  refine CW.skip ?_
  refine CW.keep 23 [0,3,4] rfl ?_;(conv=>whnf);refine ⟨?_⟩
  refine CW.seq ?_
  refine CW.block ?_
  refine CW.region ?_
  refine RW.k XK 23 4 rfl ?_
  (conv=>whnf);refine ⟨rfl,?_⟩
  refine RW.v rfl (V.indexS rfl rfl rfl rfl rfl rfl Entry.len hei) ?_
  refine RW.k XK 23 1 rfl ?_
  (conv=>whnf);refine ⟨rfl,?_⟩
  refine RW.call rfl (laws_toEntry_fn ei (hs ei (List.mem_of_getElem? hei))) rfl (.cons (.agg (.cons (.r .r) (.cons (.r .r) (.cons (.r .r) (.nil))))) (.nil)) fun g3 => ?_
  refine RW.v rfl (V.indexW rfl rfl rfl rfl rfl rfl rfl (by simp; omega)) ?_
  refine RW.storeS (v := ei) rfl rfl rfl rfl rfl rfl rfl (DW.v (DW.v (DW.v DW.e))) Entry.len (by decide) (by simp; omega) rfl ?_
  refine RW.nil ?_
  refine CW.keep 23 [0,3,4] rfl ?_;(conv=>whnf);refine ⟨?_⟩
  refine CW.region ?_
  refine RW.k XK 23 1 rfl ?_
  (conv=>whnf);refine ⟨rfl,?_⟩
  refine RW.v rfl (V.inc rfl rfl rfl hii hl0) ?_
  refine RW.k XK 23 1 rfl ?_
  (conv=>whnf);refine ⟨rfl,?_⟩
  refine RW.nil ?_
  exact ⟨i + 1, by omega, by omega, rfl, Le.c rfl <| Le.c (congrArg (fun l => D.w (sl _ Entry.c l) X1) (take_set hei)) <| Le.c rfl <| Le.e⟩
 ·skip
  have hii : a.length ≤ i := by have := h2; simp at this; first | exact this | omega | (simp; done) | (simp; omega)
  have hdi : a.drop i = [] := List.drop_eq_nil_of_le hii
  refine CW.exit ?_
  refine CW.keep 23 [3] rfl ?_;(conv=>whnf);refine ⟨?_⟩
  refine CW.seq ?_
  refine CW.region ?_
  refine RW.k XK 23 2 rfl ?_
  (conv=>whnf);refine ⟨rfl,?_⟩
  refine RW.pullS 2 3 (by decide) rfl rfl ?_
  refine RW.nil ?_
  refine CW.keep 23 [2] rfl ?_;(conv=>whnf);refine ⟨?_⟩
  refine CW.ret ?_
  exact Post.one (RV.w rfl (by rw [List.take_of_length_le hii, show a.length - i = 0 from by omega]; simp)) (AOs.r AOs.e)
end Go.Proofs.Ytbiocicogminlaa.Y
