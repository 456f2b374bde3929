import Derived.Test.YtbiocicogminlaaWTickD
namespace Go.Proofs.Ytbiocicogminlaa.Y
open Go Go.RowKit Go.Eng Go.Proofs
set_option maxRecDepth 10000
set_option maxHeartbeats 4000000 in
theorem spec_l18Commit_fn (r : l18Run) (hn : ComOk r.n) (hok : okToNode r.n) : Eng.Fn E.P 94 [.ob (l18Run.m r)] (.tup []) [.ob (l18Run.m (⟨commitN r.n, r.told⟩ : l18Run))] := by
 refine Eng.Fn.intro (E := E) (rvs := []) Try.func94 rfl rfl rfl (by simp [outSlots, moved, rvSlot, sl]) ?_
 intro B g bo
 refine CW.keep 121 [0] rfl ?_;(conv=>whnf);refine ⟨?_⟩
 have hl := hn.log
 have hpm : r.n.peers.length ≤ 1048576 := hok.2.2.2.1
 refine CW.seq ?_
 refine CW.region ?_
 refine RW.k XK 121 4 rfl ?_
 (conv=>whnf);refine ⟨rfl,?_⟩
 refine RW.call rfl (spec_ConfOf_fn r.n hok) rfl (.cons (.agg (.cons (.r .r) (.cons (.r .r) (.cons (.r .r) (.cons (.r .r) (.cons (.r .r) (.cons (.r .r) (.cons (.r .r) (.cons (.r .r) (.cons (.r .r) (.cons (.r .r) (.cons (.r .r) (.cons (.r .r) (.cons (.r .r) (.cons (.r .r) (.nil)))))))))))))))) (.nil)) fun g1 => ?_
 refine RW.assignMove rfl rfl rfl (by decide) (Nat.le_of_ble_eq_true rfl) (Nat.le_of_ble_eq_true rfl) ?_
 refine RW.nil ?_
 refine CW.keep 121 [0,2] rfl ?_;(conv=>whnf);refine ⟨?_⟩
 refine CW.seq ?_
 refine CW.region ?_
 refine RW.k XK 121 5 rfl ?_
 (conv=>whnf);refine ⟨rfl,?_⟩
 refine RW.call rfl (spec_l06Last_fn r.n.log) rfl (.cons (.agg (.cons (.r .r) (.cons (.r .r) (.cons (.r .r) (.nil))))) (.nil)) fun g2 => ?_
 refine RW.k XK 121 1 rfl ?_
 (conv=>whnf);refine ⟨rfl,?_⟩
 refine RW.nil ?_
 refine CW.keep 121 [0,2,3] rfl ?_;(conv=>whnf);refine ⟨?_⟩
 refine CW.seq ?_
 refine CW.k XK 121 1 [0,2,4] rfl ?_
 (conv=>whnf);refine ⟨rfl,?_⟩
 refine CW.block ?_
 refine CW.loopI 121 (fun (zz : Nat × Int × Int) => match zz with | (f, idx, c) => [(0, .obj (bo 0) [I r.n.id, I r.n.term_, I r.n.vote, I r.n.role, I r.n.lead, .r (sl 1 cI r.n.conf), I r.n.log.start, I r.n.log.startTerm, .r (sl 3 Entry.c r.n.log.entries), I c, I r.n.clock, I r.n.limit, .r (sl 1 cI r.n.votes), .r (sl 4 Peer.c r.n.peers), .w (sl 12 Message.c r.told) (g 0 14)]), (2, .w (sl 1 cI (confAtS r.n 1000060)) (g1 0 0)), (4, I idx)]) (fun (zz : Nat × Int × Int) => match zz with | (f, idx, c) => CsP r.n f idx c) (fun (zz : Nat × Int × Int) => match zz with | (f, idx, c) => f) (70, _, _) rfl (Le.c rfl <| Le.c rfl <| Le.c (congrArg I (by rw [logLast_1 hl, IntKind.wrap_i64]; have h3 := hl.1; have h4 := hl.2.1; have h5 := hl.2.2; omega)) <| Le.e) (CsP.init hn) ?_
 rintro ⟨f, idx, c⟩ hP
 have hidx : idx ≤ 9223372036854775807 := by have h1 := hP.at_; have h2 := logLast_1 hl; have h3 := hl.2.1; have h4 := hl.2.2; have h5 := hP.f70; omega
 refine CW.seq ?_
 refine CW.k XK 121 1 [0,2,4,25] rfl ?_
 (conv=>whnf);refine ⟨rfl,?_⟩
 refine CW.cond rfl (fun h3 => ?_) (fun h3 => ?_)
 ·skip
  have hg : decide (idx > c) = true := h3
  refine CW.skip ?_
  refine CW.keep 121 [0,2,4] rfl ?_;(conv=>whnf);refine ⟨?_⟩
  refine CW.seq ?_
  refine CW.block ?_
  refine CW.seq ?_
  refine CW.region ?_
  refine RW.k XK 121 5 rfl ?_
  (conv=>whnf);refine ⟨rfl,?_⟩
  refine RW.build1c (c := cI) (v := r.n.id) (u := .v (.int .i64 r.n.id)) rfl rfl rfl rfl rfl rfl (.inl rfl) rfl rfl fun X4 => ?_
  refine RW.assignMove rfl rfl rfl (by decide) (Nat.le_of_ble_eq_true rfl) (Nat.le_of_ble_eq_true rfl) ?_
  refine RW.nil ?_
  refine CW.keep 121 [0,2,4,5] rfl ?_;(conv=>whnf);refine ⟨?_⟩
  refine CW.seq ?_
  refine CW.k XK 121 1 [0,2,4,5,6] rfl ?_
  (conv=>whnf);refine ⟨rfl,?_⟩
  refine CW.block ?_
  refine CW.loopI 121 (fun (zz : Nat × Value) => match zz with | (k, X) => [(0, .obj (bo 0) [I r.n.id, I r.n.term_, I r.n.vote, I r.n.role, I r.n.lead, .r (sl 1 cI r.n.conf), I r.n.log.start, I r.n.log.startTerm, .r (sl 3 Entry.c r.n.log.entries), I c, I r.n.clock, I r.n.limit, .r (sl 1 cI r.n.votes), .r (sl 4 Peer.c r.n.peers), .w (sl 12 Message.c r.told) (g 0 14)]), (2, .w (sl 1 cI (confAtS r.n 1000060)) (g1 0 0)), (4, I idx), (5, .w (sl 1 cI ([r.n.id] ++ ((r.n.peers.take k).filter (fun p => decide (p.match_ ≥ idx))).map (·.id))) X), (6, I (k : Int))]) (fun (zz : Nat × Value) => match zz with | (k, X) => k ≤ r.n.peers.length) (fun (zz : Nat × Value) => match zz with | (k, X) => r.n.peers.length - k) (0, _) rfl (Le.c rfl <| Le.c rfl <| Le.c rfl <| Le.c rfl <| Le.c rfl <| Le.e) (by omega) ?_
  rintro ⟨k, X⟩ hb
  have hl0 : r.n.peers.length ≤ maxLen := by simp only [maxLen]; omega
  have hvl := votes_len r.n.peers k idx
  refine CW.seq ?_
  refine CW.k XK 121 1 [0,2,4,5,6,41] rfl ?_
  (conv=>whnf);refine ⟨rfl,?_⟩
  refine CW.cond rfl (fun h5 => ?_) (fun h5 => ?_)
  ·skip
   have hik : k < r.n.peers.length := by have := h5; simp at this; first | exact this | omega | (simp; done) | (simp; omega)
   obtain ⟨ek, hek⟩ : ∃ e, r.n.peers[k]? = some e := ⟨_, List.getElem?_eq_getElem hik⟩
   have hdk := drop_get hek
   refine CW.skip ?_
   refine CW.keep 121 [0,2,4,5,6] rfl ?_;(conv=>whnf);refine ⟨?_⟩
   refine CW.seq ?_
   refine CW.block ?_
   refine CW.seq ?_
   refine CW.region ?_
   refine RW.k XK 121 6 rfl ?_
   (conv=>whnf);refine ⟨rfl,?_⟩
   refine RW.v rfl (V.indexS rfl rfl rfl rfl rfl rfl Peer.len hek) ?_
   refine RW.k XK 121 4 rfl ?_
   (conv=>whnf);refine ⟨rfl,?_⟩
   refine RW.nil ?_
   refine CW.keep 121 [0,2,4,5,6,54] rfl ?_;(conv=>whnf);refine ⟨?_⟩
   refine CW.cond rfl (fun h6 => ?_) (fun h6 => ?_)
   ·skip
    have hmt : decide (ek.match_ ≥ idx) = true := h6
    refine CW.region ?_
    refine RW.k XK 121 7 rfl ?_
    (conv=>whnf);refine ⟨rfl,?_⟩
    refine RW.v rfl (V.indexS rfl rfl rfl rfl rfl rfl Peer.len hek) ?_
    refine RW.k XK 121 2 rfl ?_
    (conv=>whnf);refine ⟨rfl,?_⟩
    refine RW.build1c (c := cI) (v := ek.id) (u := .v (.int .i64 ek.id)) rfl rfl rfl rfl rfl rfl (.inl rfl) rfl rfl fun X7 => ?_
    refine RW.appendSR (c := cI) (l1 := ([r.n.id] ++ ((r.n.peers.take k).filter (fun p => decide (p.match_ ≥ idx))).map (·.id))) (l2 := [ek.id]) rfl rfl rfl rfl rfl rfl rfl rfl (.al (k := none) (i := 65) (sz := 1) (V := X7) rfl rfl nofun) (by decide) (Nat.le_of_ble_eq_true rfl) cI.len (fun _ => rfl) rfl (by simp only [maxLen, List.length_append, List.length_singleton]; omega) (by simp only [maxLen, List.length_append, List.length_singleton]; omega) fun X8 => ?_
    refine RW.assignMove rfl rfl rfl (by decide) (Nat.le_of_ble_eq_true rfl) (Nat.le_of_ble_eq_true rfl) ?_
    refine RW.nil ?_
    refine CW.keep 121 [0,2,4,5,6] rfl ?_;(conv=>whnf);refine ⟨?_⟩
    refine CW.region ?_
    refine RW.k XK 121 1 rfl ?_
    (conv=>whnf);refine ⟨rfl,?_⟩
    refine RW.v rfl (V.inc rfl rfl rfl hik hl0) ?_
    refine RW.k XK 121 1 rfl ?_
    (conv=>whnf);refine ⟨rfl,?_⟩
    refine RW.nil ?_
    exact ⟨(k + 1, _), by simp only []; omega, (by omega), rfl, Le.c rfl <| Le.c rfl <| Le.c rfl <| Le.c (Dw_congr (by first | exact votes_yes hek hmt | exact votes_no hek hmt)) <| Le.c rfl <| Le.e⟩
   ·skip
    have hmt : decide (ek.match_ ≥ idx) = false := h6
    refine CW.skip ?_
    refine CW.keep 121 [0,2,4,5,6] rfl ?_;(conv=>whnf);refine ⟨?_⟩
    refine CW.region ?_
    refine RW.k XK 121 1 rfl ?_
    (conv=>whnf);refine ⟨rfl,?_⟩
    refine RW.v rfl (V.inc rfl rfl rfl hik hl0) ?_
    refine RW.k XK 121 1 rfl ?_
    (conv=>whnf);refine ⟨rfl,?_⟩
    refine RW.nil ?_
    exact ⟨(k + 1, _), by simp only []; omega, (by omega), rfl, Le.c rfl <| Le.c rfl <| Le.c rfl <| Le.c (Dw_congr (by first | exact votes_yes hek hmt | exact votes_no hek hmt)) <| Le.c rfl <| Le.e⟩
  ·skip
   have hik : r.n.peers.length ≤ k := by have := h5; simp at this; first | exact this | omega | (simp; done) | (simp; omega)
   have hdk : r.n.peers.drop k = [] := List.drop_eq_nil_of_le hik
   refine CW.exit ?_
   refine CW.keep 121 [0,2,4,5] rfl ?_;(conv=>whnf);refine ⟨?_⟩
   refine CW.seqJ 121 (fun (v9 : Bool) => [(0, .obj (bo 0) [I r.n.id, I r.n.term_, I r.n.vote, I r.n.role, I r.n.lead, .r (sl 1 cI r.n.conf), I r.n.log.start, I r.n.log.startTerm, .r (sl 3 Entry.c r.n.log.entries), I c, I r.n.clock, I r.n.limit, .r (sl 1 cI r.n.votes), .r (sl 4 Peer.c r.n.peers), .w (sl 12 Message.c r.told) (g 0 14)]), (2, .w (sl 1 cI (confAtS r.n 1000060)) (g1 0 0)), (4, I idx), (84, Bo v9)]) (fun v9 => v9 = (((logTerm r.n.log idx) == r.n.term_) && (most (confAtS r.n 1000060) ([r.n.id] ++ ((r.n.peers.take k).filter (fun p => decide (p.match_ ≥ idx))).map (·.id))))) ?_ ?_
   ·refine CW.drawn (by kernel_rfl) ?_
    refine RQ.k XK 121 6 rfl ?_
    (conv=>whnf);refine ⟨rfl,?_⟩
    refine RQ.cons rfl (QOK.call (spec_LogTerm_fn r.n.log idx hl hidx) rfl (.cons (.agg (.cons (.r .r) (.cons (.r .r) (.cons (.r .r) (.nil))))) (.cons (.one (.r .r)) (.nil))) ?_)
    refine RQ.k XK 121 7 rfl ?_
    (conv=>whnf);refine ⟨rfl,?_⟩
    refine RQ.gv rfl rfl rfl rfl (fun h10 => V.mv (d := .al 2 none 1 ((confAtS r.n 1000060).length) (g1 0 0) 0) rfl rfl) (fun h10 => ?_) (fun h10 => ?_)
    ·skip
     refine RQ.k XK 121 1 rfl ?_
     (conv=>whnf);refine ⟨rfl,?_⟩
     refine RQ.guardT rfl rfl rfl rfl (QOK.call (spec_Most_fn (confAtS r.n 1000060) ([r.n.id] ++ ((r.n.peers.take k).filter (fun p => decide (p.match_ ≥ idx))).map (·.id))) rfl (.cons (.one (.r (.al (k := none) (i := 2) (sz := 1) (V := (g1 0 0)) rfl rfl nofun))) (.cons (.one (.r (.al (k := none) (i := 5) (sz := 1) (V := X) rfl rfl nofun))) (.nil))) ?_)
     refine RQ.k XK 121 1 rfl ?_
     (conv=>whnf);refine ⟨rfl,?_⟩
     refine RQ.nil ?_
     exact ⟨_, by first | rfl | (simp_all; done) | (simp_all; omega) | grind, rfl, Le.of rfl⟩
    ·skip
     refine RQ.k XK 121 3 rfl ?_
     (conv=>whnf);refine ⟨rfl,?_⟩
     refine RQ.nil ?_
     exact ⟨_, by first | rfl | (simp_all; done) | (simp_all; omega) | grind, rfl, Le.of rfl⟩
   ·intro v9 hv11
    refine CW.cond rfl (fun h12 => ?_) (fun h12 => ?_)
    ·skip
     have hmy : ((logTerm r.n.log idx == r.n.term_) && most (confN r.n) (votesAt r.n idx)) = true := by have h9 := hv11.symm.trans h12; rw [conf_eqB hl, List.take_of_length_le hik] at h9; exact h9
     refine CW.region ?_
     refine RW.k XK 121 6 rfl ?_
     (conv=>whnf);refine ⟨rfl,?_⟩
     refine RW.nil ?_
     refine CW.keep 121 [0,2,4] rfl ?_;(conv=>whnf);refine ⟨?_⟩
     refine CW.region ?_
     refine RW.k XK 121 3 rfl ?_
     (conv=>whnf);refine ⟨rfl,?_⟩
     refine RW.nil ?_
     exact ⟨(f - 1, _, _), by have := (hP.lt hl hg).1; simp only []; omega, (by first | exact hP.yes hl hg hmy | exact hP.no hl hg hmn), rfl, Le.c rfl <| Le.c rfl <| Le.c rfl <| Le.e⟩
    ·skip
     have hmn : ((logTerm r.n.log idx == r.n.term_) && most (confN r.n) (votesAt r.n idx)) = false := by have h9 := hv11.symm.trans h12; rw [conf_eqB hl, List.take_of_length_le hik] at h9; exact h9
     refine CW.skip ?_
     refine CW.keep 121 [0,2,4] rfl ?_;(conv=>whnf);refine ⟨?_⟩
     refine CW.region ?_
     refine RW.k XK 121 3 rfl ?_
     (conv=>whnf);refine ⟨rfl,?_⟩
     refine RW.nil ?_
     exact ⟨(f - 1, _, _), by have := (hP.lt hl hg).1; simp only []; omega, (by first | exact hP.yes hl hg hmy | exact hP.no hl hg hmn), rfl, Le.c rfl <| Le.c rfl <| Le.c rfl <| Le.e⟩
 ·skip
  have hfin := hP.fin hn h3
  have hclow := hP.low
  refine CW.exit ?_
  refine CW.keep 121 [0,2] rfl ?_;(conv=>whnf);refine ⟨?_⟩
  refine CW.seqJ 121 (fun (v13 : Bool) => [(0, .obj (bo 0) [I r.n.id, I r.n.term_, I r.n.vote, I r.n.role, I r.n.lead, .r (sl 1 cI r.n.conf), I r.n.log.start, I r.n.log.startTerm, .r (sl 3 Entry.c r.n.log.entries), I c, I r.n.clock, I r.n.limit, .r (sl 1 cI r.n.votes), .r (sl 4 Peer.c r.n.peers), .w (sl 12 Message.c r.told) (g 0 14)]), (118, Bo v13)]) (fun v13 => v13 = (((r.n.role == 2) && (!(hasI (confAtS r.n 1000060) r.n.id))) && decide ((confIx (⟨r.n.id, r.n.term_, r.n.vote, r.n.role, r.n.lead, r.n.conf, r.n.log, c, r.n.clock, r.n.limit, r.n.votes, r.n.peers⟩ : Node).log (⟨r.n.id, r.n.term_, r.n.vote, r.n.role, r.n.lead, r.n.conf, r.n.log, c, r.n.clock, r.n.limit, r.n.votes, r.n.peers⟩ : Node).log.entries.length) ≤ c))) ?_ ?_
  ·refine CW.drawn (by kernel_rfl) ?_
   refine RQ.k XK 121 7 rfl ?_
   (conv=>whnf);refine ⟨rfl,?_⟩
   refine RQ.gv rfl rfl rfl rfl (fun h14 => V.mv (d := .al 2 none 1 ((confAtS r.n 1000060).length) (g1 0 0) 0) rfl rfl) (fun h14 => ?_) (fun h14 => ?_)
   ·skip
    refine RQ.k XK 121 5 rfl ?_
    (conv=>whnf);refine ⟨rfl,?_⟩
    refine RQ.guardT rfl rfl rfl rfl (QOK.call (spec_l05In_fn (confAtS r.n 1000060) r.n.id) rfl (.cons (.one (.r (.al (k := none) (i := 2) (sz := 1) (V := (g1 0 0)) rfl rfl nofun))) (.cons (.one (.r .r)) (.nil))) ?_)
    refine RQ.k XK 121 3 rfl ?_
    (conv=>whnf);refine ⟨rfl,?_⟩
    refine RQ.gv rfl rfl rfl rfl (fun h15 => V.mv (d := .pt 0 (bo 0) 0) rfl rfl) (fun h15 => ?_) (fun h15 => ?_)
    ·skip
     refine RQ.k XK 121 3 rfl ?_
     (conv=>whnf);refine ⟨rfl,?_⟩
     refine RQ.guardT rfl rfl rfl rfl (QOK.call (spec_l18ConfIndex_fn (⟨r.n.id, r.n.term_, r.n.vote, r.n.role, r.n.lead, r.n.conf, r.n.log, c, r.n.clock, r.n.limit, r.n.votes, r.n.peers⟩ : Node) hl) rfl (.cons (.agg (.cons (.r .r) (.cons (.r .r) (.cons (.r .r) (.cons (.r .r) (.cons (.r .r) (.cons (.r .r) (.cons (.r .r) (.cons (.r .r) (.cons (.r .r) (.cons (.r .r) (.cons (.r .r) (.cons (.r .r) (.cons (.r .r) (.cons (.r .r) (.nil)))))))))))))))) (.nil)) ?_)
     refine RQ.k XK 121 7 rfl ?_
     (conv=>whnf);refine ⟨rfl,?_⟩
     refine RQ.nil ?_
     exact ⟨_, by first | rfl | (simp_all; done) | (simp_all; omega) | grind, rfl, Le.of rfl⟩
    ·skip
     refine RQ.k XK 121 11 rfl ?_
     (conv=>whnf);refine ⟨rfl,?_⟩
     refine RQ.nil ?_
     exact ⟨_, by first | rfl | (simp_all; done) | (simp_all; omega) | grind, rfl, Le.of rfl⟩
   ·skip
    refine RQ.k XK 121 21 rfl ?_
    (conv=>whnf);refine ⟨rfl,?_⟩
    refine RQ.nil ?_
    exact ⟨_, by first | rfl | (simp_all; done) | (simp_all; omega) | grind, rfl, Le.of rfl⟩
  ·intro v13 hv16
   refine CW.cond rfl (fun h17 => ?_) (fun h17 => ?_)
   ·skip
    refine CW.region ?_
    refine RW.k XK 121 1 rfl ?_
    (conv=>whnf);refine ⟨rfl,?_⟩
    refine RW.callP (k := 0) (spec_l18Follow_fn (⟨(⟨r.n.id, r.n.term_, r.n.vote, r.n.role, r.n.lead, r.n.conf, r.n.log, c, r.n.clock, r.n.limit, r.n.votes, r.n.peers⟩ : Node), r.told⟩ : l18Run) 0) rfl rfl (Nat.le_of_ble_eq_true rfl) (by decide) rfl (DT.r (DT.r (DT.r (DT.r (DT.r (DT.r (DT.r (DT.r (DT.r (DT.r (DT.r (DT.r (DT.r (DT.r (DT.w DT.e))))))))))))))) (AsPs.here rfl (.cons (.one (.r .r)) (.nil))) fun g18 q19 => ?_
    refine RW.nil ?_
    exact Post.tup (by decide) RVs.e (AOs.obE (f := fun e => l18Run.m e) (e' := (⟨(followN (⟨r.n.id, r.n.term_, r.n.vote, r.n.role, r.n.lead, r.n.conf, r.n.log, c, r.n.clock, r.n.limit, r.n.votes, r.n.peers⟩ : Node) 0), r.told⟩ : l18Run)) rfl (DT.r (DT.r (DT.r (DT.r (DT.r (DT.r (DT.r (DT.r (DT.r (DT.r (DT.r (DT.r (DT.r (DT.r (DT.w DT.e))))))))))))))) (by rw [com_eq hn hfin hclow v13 (by rw [hv16, conf_eqB hl])]; first | (rw [if_pos h17]; done) | (rw [if_neg (by rw [h17]; simp)]; done)) AOs.e)
   ·skip
    refine CW.skip ?_
    exact Post.tup (by decide) RVs.e (AOs.obE (f := fun e => l18Run.m e) (e' := (⟨(⟨r.n.id, r.n.term_, r.n.vote, r.n.role, r.n.lead, r.n.conf, r.n.log, c, r.n.clock, r.n.limit, r.n.votes, r.n.peers⟩ : Node), r.told⟩ : l18Run)) rfl (DT.r (DT.r (DT.r (DT.r (DT.r (DT.r (DT.r (DT.r (DT.r (DT.r (DT.r (DT.r (DT.r (DT.r (DT.w DT.e))))))))))))))) (by rw [com_eq hn hfin hclow v13 (by rw [hv16, conf_eqB hl])]; first | (rw [if_pos h17]; done) | (rw [if_neg (by rw [h17]; simp)]; done)) AOs.e)
set_option maxHeartbeats 4000000 in
theorem spec_l18Lead_fn (r : l18Run) (hl : logB r.n.log) (hok : okToNode r.n) (hcm : TermOk r.n) (htl : r.told.length ≤ 1048576) : Eng.Fn E.P 106 [.ob ((l18Run.c r).map .w)] (.tup []) [.ob (l18Run.m (⟨leadN r.n, r.told ++ (leadN r.n).peers.map (sendN (leadN r.n))⟩ : l18Run))] := by
 refine Eng.Fn.intro (E := E) (rvs := []) Try.func106 rfl rfl rfl (by simp [outSlots, moved, rvSlot, sl]) ?_
 intro B g bo
 refine CW.keep 97 [0] rfl ?_;(conv=>whnf);refine ⟨?_⟩
 refine CW.seq ?_
 refine CW.region ?_
 refine RW.k XK 97 5 rfl ?_
 (conv=>whnf);refine ⟨rfl,?_⟩
 refine RW.callOwn rfl (spec_l06Last_fn r.n.log) rfl (.cons (.agg (.cons (.r .r) (.cons (.r .r) (.cons (.r (.alo (k := none) (i := 0) (j := 8) (sz := 3) (V := (g 0 8)) rfl rfl rfl nofun)) (.nil))))) (.nil)) rfl fun g1 => ?_
 refine RW.k XK 97 1 rfl ?_
 (conv=>whnf);refine ⟨rfl,?_⟩
 refine RW.nil ?_
 refine CW.keep 97 [0,2] rfl ?_;(conv=>whnf);refine ⟨?_⟩
 refine CW.k XK 97 2 [0,2] rfl ?_
 (conv=>whnf);refine ⟨rfl,?_⟩
 refine CW.seq ?_
 refine CW.region ?_
 refine RW.k XK 97 1 rfl ?_
 (conv=>whnf);refine ⟨rfl,?_⟩
 refine RW.build0 cI rfl rfl rfl rfl rfl fun X2 => ?_
 refine RW.k XK 97 4 rfl ?_
 (conv=>whnf);refine ⟨rfl,?_⟩
 refine RW.keep 97 [0,2,25] rfl ?_;(conv=>whnf);refine ⟨?_⟩
 refine RW.pullT (k := 0) (l := 25) (j := 12) 0 25 12 rfl rfl rfl (by decide) rfl rfl rfl ?_
 refine RW.keep 97 [0,2] rfl ?_;(conv=>whnf);refine ⟨?_⟩
 refine RW.nil ?_
 refine CW.keep 97 [0,2] rfl ?_;(conv=>whnf);refine ⟨?_⟩
 refine CW.seq ?_
 refine CW.seq ?_
 refine CW.region ?_
 refine RW.k XK 97 4 rfl ?_
 (conv=>whnf);refine ⟨rfl,?_⟩
 refine RW.callOwn rfl (spec_l18Room_fn (⟨r.n.id, r.n.term_, r.n.vote, 2, r.n.id, r.n.conf, r.n.log, r.n.commit, r.n.clock, r.n.limit, ([] : List Int), r.n.peers⟩ : Node) hl) rfl (.cons (.agg (.cons (.r .r) (.cons (.r .r) (.cons (.r .r) (.cons (.r .r) (.cons (.r .r) (.cons (.r (.alo (k := none) (i := 0) (j := 5) (sz := 1) (V := (g 0 5)) rfl rfl rfl nofun)) (.cons (.r .r) (.cons (.r .r) (.cons (.r (.alo (k := none) (i := 0) (j := 8) (sz := 3) (V := (g 0 8)) rfl rfl rfl nofun)) (.cons (.r .r) (.cons (.r .r) (.cons (.r .r) (.cons (.r (.alo (k := none) (i := 0) (j := 12) (sz := 1) (V := X2) rfl rfl rfl nofun)) (.cons (.r (.alo (k := none) (i := 0) (j := 13) (sz := 4) (V := (g 0 13)) rfl rfl rfl nofun)) (.nil)))))))))))))))) (.nil)) rfl fun g3 => ?_
 refine RW.nil ?_
 refine CW.keep 97 [0,2,33] rfl ?_;(conv=>whnf);refine ⟨?_⟩
 refine CW.cond rfl (fun h4 => ?_) (fun h4 => ?_)
 ·skip
  have hrm : room r.n.log = true := h4
  have hr60 : r.n.log.entries.length < 60 := by unfold room at hrm; simp at hrm; omega
  have hok3 := okApp hok hr60
  have hCO := com_app hl hcm hr60
  have hLO := lead_ok2 hl hok hr60 2 r.n.id r.n.term_
  refine CW.anyR2 (fc := []) (L0 := [(2, I (IntKind.i64.wrap (r.n.log.start + (r.n.log.entries.length : Int))))]) 97 (fun (zz : Value × Value) => match zz with | (Xo5_13_1, Xo5_14_1) => [(0, .obj (bo 0) [I r.n.id, I r.n.term_, I r.n.vote, I 2, I r.n.id, .w (sl 1 cI r.n.conf) (g 0 5), I r.n.log.start, I r.n.log.startTerm, .w (sl 3 Entry.c (r.n.log.entries ++ ([(⟨r.n.term_, 1, ⟨#[]⟩⟩ : Entry)]))) Xo5_14_1, I r.n.commit, I r.n.clock, I r.n.limit, .w (sl 1 cI ([] : List Int)) X2, .w (sl 4 Peer.c r.n.peers) (g 0 13), .w (sl 12 Message.c r.told) (g 0 14)])]) (fun all hall f hf b0 hb K hK => ?_) ?_
  ·skip
   have ro5_7 : ∀ B, ∀ (Xo5_13_1 : Value), ∀ (Xo5_14_1 : Value), RA f E B all 0 (bt 20 1048575) ⟨97, [(0, .obj (bo 0) [I r.n.id, I r.n.term_, I r.n.vote, I 2, I r.n.id, .w (sl 1 cI r.n.conf) (g 0 5), I r.n.log.start, I r.n.log.startTerm, .w (sl 3 Entry.c (r.n.log.entries ++ ([(⟨r.n.term_, 1, ⟨#[]⟩⟩ : Entry)]))) Xo5_14_1, I r.n.commit, I r.n.clock, I r.n.limit, .w (sl 1 cI ([] : List Int)) X2, .w (sl 4 Peer.c r.n.peers) (g 0 13), .w (sl 12 Message.c r.told) (g 0 14)])] ++ b0⟩ K := by
    intro B Xo5_13_1 Xo5_14_1
    exact RA.of2 hall hf hb (RA.finH (Tell.of rfl) (by kernel_rfl) (hK (Xo5_13_1, Xo5_14_1) _ rfl (Le.of rfl)))
   have ro5_6 : ∀ B, ∀ (Xo5_13_1 : Value), ∀ (Xo5_14_1 : Value), RA f E B all 1 (bt 20 524287) ⟨97, [(0, .obj (bo 0) [I r.n.id, I r.n.term_, I r.n.vote, I 2, I r.n.id, .w (sl 1 cI r.n.conf) (g 0 5), I r.n.log.start, I r.n.log.startTerm, .u, I r.n.commit, I r.n.clock, I r.n.limit, .w (sl 1 cI ([] : List Int)) X2, .w (sl 4 Peer.c r.n.peers) (g 0 13), .w (sl 12 Message.c r.told) (g 0 14)]), (48, .w (sl 3 Entry.c (r.n.log.entries ++ ([(⟨r.n.term_, 1, ⟨#[]⟩⟩ : Entry)]))) Xo5_14_1), (52, .pt 0 (bo 0) 8)] ++ b0⟩ K := by
    intro B Xo5_13_1 Xo5_14_1
    refine RA.of2 hall hf hb (RA.stepH (L := [19]) (Tell.of rfl) (by kernel_rfl) (by simp) (RA.each ?_ (RA.each0)))
    ·skip
     refine RO.store (d := .al 48 none 3 ((r.n.log.entries ++ ([(⟨r.n.term_, 1, ⟨#[]⟩⟩ : Entry)])).length) Xo5_14_1 0) rfl rfl rfl rfl rfl rfl rfl rfl rfl (Nat.le_of_ble_eq_true rfl) rfl rfl ?_
     refine RA.keep 97 [0,2,48] rfl ?_;(conv=>whnf);refine ⟨?_⟩
     refine RA.pullT (k := 0) (l := 48) (j := 8) 0 48 8 rfl rfl rfl (by decide) rfl rfl rfl ?_
     refine RA.keep 97 [0,2] rfl ?_;(conv=>whnf);refine ⟨?_⟩
     exact RA.to2 hall hf hb (ro5_7 B Xo5_13_1 Xo5_14_1) rfl rfl (by kernel_rfl)
   have ro5_5 : ∀ B, ∀ (Xo5_13_1 : Value), RA f E B all 6 (bt 20 16383) ⟨97, [(0, .obj (bo 0) [I r.n.id, I r.n.term_, I r.n.vote, I 2, I r.n.id, .w (sl 1 cI r.n.conf) (g 0 5), I r.n.log.start, I r.n.log.startTerm, .w (sl 3 Entry.c r.n.log.entries) (g 0 8), I r.n.commit, I r.n.clock, I r.n.limit, .w (sl 1 cI ([] : List Int)) X2, .w (sl 4 Peer.c r.n.peers) (g 0 13), .w (sl 12 Message.c r.told) (g 0 14)]), (34, .pt 0 (bo 0) 0), (40, .al 0 (some 8) 3 r.n.log.entries.length (g 0 8) 0), (47, .w (sl 3 Entry.c ([(⟨r.n.term_, 1, ⟨#[]⟩⟩ : Entry)])) Xo5_13_1)] ++ b0⟩ K := by
    intro B Xo5_13_1
    refine RA.of2 hall hf hb (RA.stepH (L := [14]) (Tell.of rfl) (by kernel_rfl) (by simp) (RA.each ?_ (RA.each0)))
    ·skip
     refine RO.takeO 40 0 8 (by decide) rfl rfl rfl ?_
     refine RO.appendSR (c := Entry.c) (l1 := r.n.log.entries) (l2 := [(⟨r.n.term_, 1, ⟨#[]⟩⟩ : Entry)]) rfl rfl rfl rfl rfl rfl rfl rfl rfl rfl (.al (k := none) (i := 47) (sz := 3) (V := Xo5_13_1) rfl rfl nofun) (by decide) (Nat.le_of_ble_eq_true rfl) Entry.len (fun _ => rfl) rfl (by simp only [maxLen, List.length_append, List.length_map, List.length_take, List.length_singleton]; first | omega | (have := hl.2.2; omega)) (by simp only [maxLen, List.length_append, List.length_map, List.length_take, List.length_singleton]; first | omega | (have := hl.2.2; omega)) fun Xo5_14_1 => ?_
     refine RA.fr XK 97 1 [15,16,17,18] (bt 20 524287) rfl rfl (by kernel_rfl) (Tell.of rfl) ?_
     (conv=>whnf);refine ⟨rfl,fun B=>?_⟩
     exact RA.to2 hall hf hb (ro5_6 B Xo5_13_1 Xo5_14_1) rfl rfl (by kernel_rfl)
   have ro5_4 : ∀ B, ∀ (Xo5_13_1 : Value), RA f E B all 7 (bt 20 16319) ⟨97, [(0, .obj (bo 0) [I r.n.id, I r.n.term_, I r.n.vote, I 2, I r.n.id, .w (sl 1 cI r.n.conf) (g 0 5), I r.n.log.start, I r.n.log.startTerm, .w (sl 3 Entry.c r.n.log.entries) (g 0 8), I r.n.commit, I r.n.clock, I r.n.limit, .w (sl 1 cI ([] : List Int)) X2, .w (sl 4 Peer.c r.n.peers) (g 0 13), .w (sl 12 Message.c r.told) (g 0 14)]), (34, .pt 0 (bo 0) 0), (39, .pt 0 (bo 0) 8), (47, .w (sl 3 Entry.c ([(⟨r.n.term_, 1, ⟨#[]⟩⟩ : Entry)])) Xo5_13_1)] ++ b0⟩ K := by
    intro B Xo5_13_1
    refine RA.of2 hall hf hb (RA.stepH (L := [6]) (Tell.of rfl) (by kernel_rfl) (by simp) (RA.each ?_ (RA.each0)))
    ·skip
     refine RO.v rfl rfl (V.loadPrim (d := .al 0 (some 8) 3 r.n.log.entries.length (g 0 8) 0) rfl rfl (.inr ⟨_, rfl⟩) rfl rfl rfl) rfl ?_
     exact RA.to2 hall hf hb (ro5_5 B Xo5_13_1) rfl rfl (by kernel_rfl)
   have ro5_3 : ∀ B, RA f E B all 7 (bt 20 8191) ⟨97, [(0, .obj (bo 0) [I r.n.id, I r.n.term_, I r.n.vote, I 2, I r.n.id, .w (sl 1 cI r.n.conf) (g 0 5), I r.n.log.start, I r.n.log.startTerm, .w (sl 3 Entry.c r.n.log.entries) (g 0 8), I r.n.commit, I r.n.clock, I r.n.limit, .w (sl 1 cI ([] : List Int)) X2, .w (sl 4 Peer.c r.n.peers) (g 0 13), .w (sl 12 Message.c r.told) (g 0 14)]), (34, .pt 0 (bo 0) 0), (40, .al 0 (some 8) 3 r.n.log.entries.length (g 0 8) 0), (46, .agg [I r.n.term_, I 1, S (⟨#[]⟩)])] ++ b0⟩ K := by
    intro B
    refine RA.of2 hall hf hb (RA.stepH (L := [13]) (Tell.of rfl) (by kernel_rfl) (by simp) (RA.each ?_ (RA.each0)))
    ·skip
     refine RO.build1 (c := Entry.c) (v := (⟨r.n.term_, 1, ⟨#[]⟩⟩ : Entry)) rfl rfl rfl rfl rfl rfl rfl rfl (DW.v (DW.v (DW.v DW.e))) Entry.len (by decide) (by decide) fun Xo5_13_1 => ?_
     exact RA.to2 hall hf hb (ro5_5 B Xo5_13_1) rfl rfl (by kernel_rfl)
   have ro5_2 : ∀ B, RA f E B all 8 (bt 20 8127) ⟨97, [(0, .obj (bo 0) [I r.n.id, I r.n.term_, I r.n.vote, I 2, I r.n.id, .w (sl 1 cI r.n.conf) (g 0 5), I r.n.log.start, I r.n.log.startTerm, .w (sl 3 Entry.c r.n.log.entries) (g 0 8), I r.n.commit, I r.n.clock, I r.n.limit, .w (sl 1 cI ([] : List Int)) X2, .w (sl 4 Peer.c r.n.peers) (g 0 13), .w (sl 12 Message.c r.told) (g 0 14)]), (34, .pt 0 (bo 0) 0), (39, .pt 0 (bo 0) 8), (46, .agg [I r.n.term_, I 1, S (⟨#[]⟩)])] ++ b0⟩ K := by
    intro B
    refine RA.of2 hall hf hb (RA.stepH (L := [6, 13]) (Tell.of rfl) (by kernel_rfl) (by simp) (RA.each ?_ (RA.each ?_ (RA.each0))))
    ·skip
     refine RO.v rfl rfl (V.loadPrim (d := .al 0 (some 8) 3 r.n.log.entries.length (g 0 8) 0) rfl rfl (.inr ⟨_, rfl⟩) rfl rfl rfl) rfl ?_
     exact RA.to2 hall hf hb (ro5_3 B) rfl rfl (by kernel_rfl)
    ·skip
     refine RO.build1 (c := Entry.c) (v := (⟨r.n.term_, 1, ⟨#[]⟩⟩ : Entry)) rfl rfl rfl rfl rfl rfl rfl rfl (DW.v (DW.v (DW.v DW.e))) Entry.len (by decide) (by decide) fun Xo5_13_1 => ?_
     exact RA.to2 hall hf hb (ro5_4 B Xo5_13_1) rfl rfl (by kernel_rfl)
   have ro5_1 : ∀ B, RA f E B all 9 (bt 20 2047) ⟨97, [(0, .obj (bo 0) [I r.n.id, I r.n.term_, I r.n.vote, I 2, I r.n.id, .w (sl 1 cI r.n.conf) (g 0 5), I r.n.log.start, I r.n.log.startTerm, .w (sl 3 Entry.c r.n.log.entries) (g 0 8), I r.n.commit, I r.n.clock, I r.n.limit, .w (sl 1 cI ([] : List Int)) X2, .w (sl 4 Peer.c r.n.peers) (g 0 13), .w (sl 12 Message.c r.told) (g 0 14)]), (34, .pt 0 (bo 0) 0), (40, .al 0 (some 8) 3 r.n.log.entries.length (g 0 8) 0), (44, .pt 0 (bo 0) 1)] ++ b0⟩ K := by
    intro B
    refine RA.of2 hall hf hb (RA.stepH (L := [11]) (Tell.of rfl) (by kernel_rfl) (by simp) (RA.each ?_ (RA.each0)))
    ·skip
     refine RO.v rfl rfl (V.loadPrim (d := I r.n.term_) rfl rfl (.inl rfl) rfl rfl rfl) rfl ?_
     refine RA.fr XK 97 7 [12] (bt 20 8191) rfl rfl (by kernel_rfl) (Tell.of rfl) ?_
     (conv=>whnf);refine ⟨rfl,fun B=>?_⟩
     exact RA.to2 hall hf hb (ro5_3 B) rfl rfl (by kernel_rfl)
   have ro5_0 : ∀ B, RA f E B all 10 (bt 20 1983) ⟨97, [(0, .obj (bo 0) [I r.n.id, I r.n.term_, I r.n.vote, I 2, I r.n.id, .w (sl 1 cI r.n.conf) (g 0 5), I r.n.log.start, I r.n.log.startTerm, .w (sl 3 Entry.c r.n.log.entries) (g 0 8), I r.n.commit, I r.n.clock, I r.n.limit, .w (sl 1 cI ([] : List Int)) X2, .w (sl 4 Peer.c r.n.peers) (g 0 13), .w (sl 12 Message.c r.told) (g 0 14)]), (34, .pt 0 (bo 0) 0), (39, .pt 0 (bo 0) 8), (44, .pt 0 (bo 0) 1)] ++ b0⟩ K := by
    intro B
    refine RA.of2 hall hf hb (RA.stepH (L := [6, 11]) (Tell.of rfl) (by kernel_rfl) (by simp) (RA.each ?_ (RA.each ?_ (RA.each0))))
    ·skip
     refine RO.v rfl rfl (V.loadPrim (d := .al 0 (some 8) 3 r.n.log.entries.length (g 0 8) 0) rfl rfl (.inr ⟨_, rfl⟩) rfl rfl rfl) rfl ?_
     exact RA.to2 hall hf hb (ro5_1 B) rfl rfl (by kernel_rfl)
    ·skip
     refine RO.v rfl rfl (V.loadPrim (d := I r.n.term_) rfl rfl (.inl rfl) rfl rfl rfl) rfl ?_
     refine RA.fr XK 97 8 [12] (bt 20 8127) rfl rfl (by kernel_rfl) (Tell.of rfl) ?_
     (conv=>whnf);refine ⟨rfl,fun B=>?_⟩
     exact RA.to2 hall hf hb (ro5_2 B) rfl rfl (by kernel_rfl)
   refine RA.start (by kernel_rfl) (by kernel_rfl) (m := 20) (ls' := (bt 20 0)) ?_
   refine RA.fr XK 97 10 [0,1,2,3,4,5,7,8,9,10] (bt 20 1983) rfl rfl (by kernel_rfl) (Tell.of rfl) ?_
   (conv=>whnf);refine ⟨rfl,fun B=>?_⟩
   exact RA.to2 hall hf hb (ro5_0 B) rfl rfl (by kernel_rfl)
  ·rintro ⟨Xo5_13_1, Xo5_14_1⟩
   refine CW.keep 97 [0,2] rfl ?_;(conv=>whnf);refine ⟨?_⟩
   refine CW.anyJ2 (fc := [(0, (bo 0), [.int .i64 r.n.id, .int .i64 r.n.term_, .int .i64 r.n.vote, .int .i64 2, .int .i64 r.n.id, (g 0 5), .int .i64 r.n.log.start, .int .i64 r.n.log.startTerm, Xo5_14_1, .int .i64 r.n.commit, .int .i64 r.n.clock, .int .i64 r.n.limit, X2, (g 0 13), (g 0 14)])]) (L0 := [(0, .obj (bo 0) [I r.n.id, I r.n.term_, I r.n.vote, I 2, I r.n.id, .w (sl 1 cI r.n.conf) (g 0 5), I r.n.log.start, I r.n.log.startTerm, .w (sl 3 Entry.c (r.n.log.entries ++ ([(⟨r.n.term_, 1, ⟨#[]⟩⟩ : Entry)]))) Xo5_14_1, I r.n.commit, I r.n.clock, I r.n.limit, .w (sl 1 cI ([] : List Int)) X2, .w (sl 4 Peer.c r.n.peers) (g 0 13), .w (sl 12 Message.c r.told) (g 0 14)]), (2, I (IntKind.i64.wrap (r.n.log.start + (r.n.log.entries.length : Int))))]) 97 (fun (zz : (Nat → Nat → Value) × (Nat → Nat → Value)) => match zz with | (go6_10_1, go6_4_1) => [(3, .w (sl 1 cI (others (confAtS (⟨r.n.id, r.n.term_, r.n.vote, 2, r.n.id, r.n.conf, (⟨r.n.log.start, r.n.log.startTerm, (r.n.log.entries ++ ([(⟨r.n.term_, 1, ⟨#[]⟩⟩ : Entry)]))⟩ : Log), r.n.commit, r.n.clock, r.n.limit, ([] : List Int), r.n.peers⟩ : Node) 1000060) r.n.id)) (go6_10_1 0 0))]) (fun all hall f hf b0 hb K hK => ?_) ?_
   ·skip
    have ro6_3 : ∀ B, ∀ (go6_10_1 : Nat → Nat → Value), ∀ (go6_4_1 : Nat → Nat → Value), RA f E B all 0 (bt 12 4095) ⟨97, [(3, .w (sl 1 cI (others (confAtS (⟨r.n.id, r.n.term_, r.n.vote, 2, r.n.id, r.n.conf, (⟨r.n.log.start, r.n.log.startTerm, (r.n.log.entries ++ ([(⟨r.n.term_, 1, ⟨#[]⟩⟩ : Entry)]))⟩ : Log), r.n.commit, r.n.clock, r.n.limit, ([] : List Int), r.n.peers⟩ : Node) 1000060) r.n.id)) (go6_10_1 0 0))] ++ b0⟩ K := by
     intro B go6_10_1 go6_4_1
     exact RA.of2 hall hf hb (RA.finH (Tell.of rfl) (by kernel_rfl) (hK (go6_10_1, go6_4_1) _ rfl (Le.of rfl)))
    have ro6_2 : ∀ B, ∀ (go6_10_1 : Nat → Nat → Value), ∀ (go6_4_1 : Nat → Nat → Value), RA f E B all 1 (bt 12 2047) ⟨97, [(63, .w (sl 1 cI (others (confAtS (⟨r.n.id, r.n.term_, r.n.vote, 2, r.n.id, r.n.conf, (⟨r.n.log.start, r.n.log.startTerm, (r.n.log.entries ++ ([(⟨r.n.term_, 1, ⟨#[]⟩⟩ : Entry)]))⟩ : Log), r.n.commit, r.n.clock, r.n.limit, ([] : List Int), r.n.peers⟩ : Node) 1000060) r.n.id)) (go6_10_1 0 0))] ++ b0⟩ K := by
     intro B go6_10_1 go6_4_1
     refine RA.of2 hall hf hb (RA.stepH (L := [11]) (Tell.of rfl) (by kernel_rfl) (by simp) (RA.each ?_ (RA.each0)))
     ·skip
      refine RO.assignMove rfl rfl rfl rfl rfl (by decide) (Nat.le_of_ble_eq_true rfl) (Nat.le_of_ble_eq_true rfl) ?_
      exact RA.to2 hall hf hb (ro6_3 B go6_10_1 go6_4_1) rfl rfl (by kernel_rfl)
    have ro6_1 : ∀ B, ∀ (go6_4_1 : Nat → Nat → Value), RA f E B all 2 (bt 12 1023) ⟨97, [(57, .w (sl 1 cI (confAtS (⟨r.n.id, r.n.term_, r.n.vote, 2, r.n.id, r.n.conf, (⟨r.n.log.start, r.n.log.startTerm, (r.n.log.entries ++ ([(⟨r.n.term_, 1, ⟨#[]⟩⟩ : Entry)]))⟩ : Log), r.n.commit, r.n.clock, r.n.limit, ([] : List Int), r.n.peers⟩ : Node) 1000060)) (go6_4_1 0 0)), (62, I r.n.id)] ++ b0⟩ K := by
     intro B go6_4_1
     refine RA.of2 hall hf hb (RA.stepH (L := [10]) (Tell.of rfl) (by kernel_rfl) (by simp) (RA.each ?_ (RA.each0)))
     ·skip
      refine RO.callOwn rfl rfl (spec_l18Others_fn (confAtS (⟨r.n.id, r.n.term_, r.n.vote, 2, r.n.id, r.n.conf, (⟨r.n.log.start, r.n.log.startTerm, (r.n.log.entries ++ ([(⟨r.n.term_, 1, ⟨#[]⟩⟩ : Entry)]))⟩ : Log), r.n.commit, r.n.clock, r.n.limit, ([] : List Int), r.n.peers⟩ : Node) 1000060) r.n.id (confAtS_len hok3 _)) rfl (.cons (.one (.r (.al (k := none) (i := 57) (sz := 1) (V := (go6_4_1 0 0)) rfl rfl nofun))) (.cons (.one (.r .r)) (.nil))) rfl rfl fun go6_10_1 => ?_
      exact RA.to2 hall hf hb (ro6_2 B go6_10_1 go6_4_1) rfl rfl (by kernel_rfl)
    have ro6_0 : ∀ B, RA f E B all 3 (bt 12 1007) ⟨97, [(56, .agg [I r.n.id, I r.n.term_, I r.n.vote, I 2, I r.n.id, .al 0 (some 5) 1 r.n.conf.length (g 0 5) 0, I r.n.log.start, I r.n.log.startTerm, .al 0 (some 8) 3 ((r.n.log.entries ++ ([(⟨r.n.term_, 1, ⟨#[]⟩⟩ : Entry)])).length) Xo5_14_1 0, I r.n.commit, I r.n.clock, I r.n.limit, .al 0 (some 12) 1 (([] : List Int).length) X2 0, .al 0 (some 13) 4 r.n.peers.length (g 0 13) 0]), (62, I r.n.id)] ++ b0⟩ K := by
     intro B
     refine RA.of2 hall hf hb (RA.stepH (L := [4]) (Tell.of rfl) (by kernel_rfl) (by simp) (RA.each ?_ (RA.each0)))
     ·skip
      refine RO.callOwn rfl rfl (spec_ConfOf_fn (⟨r.n.id, r.n.term_, r.n.vote, 2, r.n.id, r.n.conf, (⟨r.n.log.start, r.n.log.startTerm, (r.n.log.entries ++ ([(⟨r.n.term_, 1, ⟨#[]⟩⟩ : Entry)]))⟩ : Log), r.n.commit, r.n.clock, r.n.limit, ([] : List Int), r.n.peers⟩ : Node) hok3) rfl (.cons (.agg (.cons (.r .r) (.cons (.r .r) (.cons (.r .r) (.cons (.r .r) (.cons (.r .r) (.cons (.r (.alo (k := none) (i := 0) (j := 5) (sz := 1) (V := (g 0 5)) rfl rfl rfl nofun)) (.cons (.r .r) (.cons (.r .r) (.cons (.r (.alo (k := none) (i := 0) (j := 8) (sz := 3) (V := Xo5_14_1) rfl rfl rfl nofun)) (.cons (.r .r) (.cons (.r .r) (.cons (.r .r) (.cons (.r (.alo (k := none) (i := 0) (j := 12) (sz := 1) (V := X2) rfl rfl rfl nofun)) (.cons (.r (.alo (k := none) (i := 0) (j := 13) (sz := 4) (V := (g 0 13)) rfl rfl rfl nofun)) (.nil)))))))))))))))) (.nil)) rfl rfl fun go6_4_1 => ?_
      exact RA.to2 hall hf hb (ro6_1 B go6_4_1) rfl rfl (by kernel_rfl)
    refine RA.start (by kernel_rfl) (by kernel_rfl) (m := 12) (ls' := (bt 12 0)) ?_
    refine RA.fr XK 97 3 [0,1,2,3,5,6,7,8,9] (bt 12 1007) rfl rfl (by kernel_rfl) (Tell.of rfl) ?_
    (conv=>whnf);refine ⟨rfl,fun B=>?_⟩
    exact RA.to2 hall hf hb (ro6_0 B) rfl rfl (by kernel_rfl)
   ·rintro ⟨go6_10_1, go6_4_1⟩
    obtain ⟨L7, hn8⟩ : ∃ z : List Int, z = others (confAtS (⟨r.n.id, r.n.term_, r.n.vote, 2, r.n.id, r.n.conf, (⟨r.n.log.start, r.n.log.startTerm, (r.n.log.entries ++ ([(⟨r.n.term_, 1, ⟨#[]⟩⟩ : Entry)]))⟩ : Log), r.n.commit, r.n.clock, r.n.limit, ([] : List Int), r.n.peers⟩ : Node) 1000060) r.n.id := ⟨_, rfl⟩
    refine CW.le [(0, .obj (bo 0) [I r.n.id, I r.n.term_, I r.n.vote, I 2, I r.n.id, .w (sl 1 cI r.n.conf) (g 0 5), I r.n.log.start, I r.n.log.startTerm, .w (sl 3 Entry.c (r.n.log.entries ++ ([(⟨r.n.term_, 1, ⟨#[]⟩⟩ : Entry)]))) Xo5_14_1, I r.n.commit, I r.n.clock, I r.n.limit, .w (sl 1 cI ([] : List Int)) X2, .w (sl 4 Peer.c r.n.peers) (g 0 13), .w (sl 12 Message.c r.told) (g 0 14)]), (2, I (IntKind.i64.wrap (r.n.log.start + (r.n.log.entries.length : Int)))), (3, .w (sl 1 cI L7) (go6_10_1 0 0))] rfl (Le.c rfl <| Le.c rfl <| Le.c (by subst hn8; rfl) <| Le.e) ?_
    refine CW.seq ?_
    refine CW.region ?_
    refine RW.k XK 97 1 rfl ?_
    (conv=>whnf);refine ⟨rfl,?_⟩
    refine RW.build0 Peer.c rfl rfl rfl rfl rfl fun X9 => ?_
    refine RW.k XK 97 4 rfl ?_
    (conv=>whnf);refine ⟨rfl,?_⟩
    refine RW.keep 97 [0,2,3,65] rfl ?_;(conv=>whnf);refine ⟨?_⟩
    refine RW.pullT (k := 0) (l := 65) (j := 13) 0 65 13 rfl rfl rfl (by decide) rfl rfl rfl ?_
    refine RW.keep 97 [0,2,3] rfl ?_;(conv=>whnf);refine ⟨?_⟩
    refine RW.nil ?_
    refine CW.keep 97 [0,2,3] rfl ?_;(conv=>whnf);refine ⟨?_⟩
    refine CW.seq ?_
    refine CW.k XK 97 1 [0,2,3,4] rfl ?_
    (conv=>whnf);refine ⟨rfl,?_⟩
    refine CW.block ?_
    refine CW.loopI 97 (fun (zz : Nat × Value) => match zz with | (i, X) => [(0, .obj (bo 0) [I r.n.id, I r.n.term_, I r.n.vote, I 2, I r.n.id, .w (sl 1 cI r.n.conf) (g 0 5), I r.n.log.start, I r.n.log.startTerm, .w (sl 3 Entry.c (r.n.log.entries ++ ([(⟨r.n.term_, 1, ⟨#[]⟩⟩ : Entry)]))) Xo5_14_1, I r.n.commit, I r.n.clock, I r.n.limit, .w (sl 1 cI ([] : List Int)) X2, .w (sl 4 Peer.c ((L7.take i).map fun q => (⟨q, IntKind.i64.wrap ((IntKind.i64.wrap (r.n.log.start + (r.n.log.entries.length : Int))) + 1), 0, 0⟩ : Peer))) X, .w (sl 12 Message.c r.told) (g 0 14)]), (2, I (IntKind.i64.wrap (r.n.log.start + (r.n.log.entries.length : Int)))), (3, .w (sl 1 cI L7) (go6_10_1 0 0)), (4, I (i : Int))]) (fun (zz : Nat × Value) => match zz with | (i, X) => i ≤ L7.length) (fun (zz : Nat × Value) => match zz with | (i, X) => L7.length - i) (0, _) rfl (Le.c rfl <| Le.c rfl <| Le.c rfl <| Le.c rfl <| Le.e) (by omega) ?_
    rintro ⟨i, X⟩ hb
    have hlL : L7.length ≤ 1048576 := by rw [hn8]; exact Nat.le_trans (others_len _ _) (confAtS_len (show okToNode _ from hok3) _)
    have hl0 : L7.length ≤ maxLen := Nat.le_trans hlL (by decide)
    refine CW.seq ?_
    refine CW.k XK 97 1 [0,2,3,4,72] rfl ?_
    (conv=>whnf);refine ⟨rfl,?_⟩
    refine CW.cond rfl (fun h10 => ?_) (fun h10 => ?_)
    ·skip
     have hii : i < L7.length := by have := h10; simp at this; first | exact this | omega | (simp; done) | (simp; omega)
     obtain ⟨ei, hei⟩ : ∃ e, L7[i]? = some e := ⟨_, List.getElem?_eq_getElem hii⟩
     have hdi := drop_get hei
     refine CW.skip ?_
     refine CW.keep 97 [0,2,3,4] rfl ?_;(conv=>whnf);refine ⟨?_⟩
     refine CW.seq ?_
     refine CW.block ?_
     refine CW.anyR2 (fc := []) (L0 := [(2, I (IntKind.i64.wrap (r.n.log.start + (r.n.log.entries.length : Int)))), (3, .w (sl 1 cI L7) (go6_10_1 0 0)), (4, I (i : Int))]) 97 (fun (zz : Value × Value) => match zz with | (Xo11_13_1, Xo11_14_1) => [(0, .obj (bo 0) [I r.n.id, I r.n.term_, I r.n.vote, I 2, I r.n.id, .w (sl 1 cI r.n.conf) (g 0 5), I r.n.log.start, I r.n.log.startTerm, .w (sl 3 Entry.c (r.n.log.entries ++ ([(⟨r.n.term_, 1, ⟨#[]⟩⟩ : Entry)]))) Xo5_14_1, I r.n.commit, I r.n.clock, I r.n.limit, .w (sl 1 cI ([] : List Int)) X2, .w (sl 4 Peer.c (((L7.take i).map fun q => (⟨q, IntKind.i64.wrap ((IntKind.i64.wrap (r.n.log.start + (r.n.log.entries.length : Int))) + 1), 0, 0⟩ : Peer)) ++ ([(⟨ei, (IntKind.i64.wrap ((IntKind.i64.wrap (r.n.log.start + (r.n.log.entries.length : Int))) + 1)), 0, 0⟩ : Peer)]))) Xo11_14_1, .w (sl 12 Message.c r.told) (g 0 14)])]) (fun all hall f hf b0 hb K hK => ?_) ?_
     ·skip
      have ro11_7 : ∀ B, ∀ (Xo11_13_1 : Value), ∀ (Xo11_14_1 : Value), RA f E B all 0 (bt 19 524287) ⟨97, [(0, .obj (bo 0) [I r.n.id, I r.n.term_, I r.n.vote, I 2, I r.n.id, .w (sl 1 cI r.n.conf) (g 0 5), I r.n.log.start, I r.n.log.startTerm, .w (sl 3 Entry.c (r.n.log.entries ++ ([(⟨r.n.term_, 1, ⟨#[]⟩⟩ : Entry)]))) Xo5_14_1, I r.n.commit, I r.n.clock, I r.n.limit, .w (sl 1 cI ([] : List Int)) X2, .w (sl 4 Peer.c (((L7.take i).map fun q => (⟨q, IntKind.i64.wrap ((IntKind.i64.wrap (r.n.log.start + (r.n.log.entries.length : Int))) + 1), 0, 0⟩ : Peer)) ++ ([(⟨ei, (IntKind.i64.wrap ((IntKind.i64.wrap (r.n.log.start + (r.n.log.entries.length : Int))) + 1)), 0, 0⟩ : Peer)]))) Xo11_14_1, .w (sl 12 Message.c r.told) (g 0 14)])] ++ b0⟩ K := by
       intro B Xo11_13_1 Xo11_14_1
       exact RA.of2 hall hf hb (RA.finH (Tell.of rfl) (by kernel_rfl) (hK (Xo11_13_1, Xo11_14_1) _ rfl (Le.of rfl)))
      have ro11_6 : ∀ B, ∀ (Xo11_13_1 : Value), ∀ (Xo11_14_1 : Value), RA f E B all 1 (bt 19 262143) ⟨97, [(0, .obj (bo 0) [I r.n.id, I r.n.term_, I r.n.vote, I 2, I r.n.id, .w (sl 1 cI r.n.conf) (g 0 5), I r.n.log.start, I r.n.log.startTerm, .w (sl 3 Entry.c (r.n.log.entries ++ ([(⟨r.n.term_, 1, ⟨#[]⟩⟩ : Entry)]))) Xo5_14_1, I r.n.commit, I r.n.clock, I r.n.limit, .w (sl 1 cI ([] : List Int)) X2, .u, .w (sl 12 Message.c r.told) (g 0 14)]), (89, .w (sl 4 Peer.c (((L7.take i).map fun q => (⟨q, IntKind.i64.wrap ((IntKind.i64.wrap (r.n.log.start + (r.n.log.entries.length : Int))) + 1), 0, 0⟩ : Peer)) ++ ([(⟨ei, (IntKind.i64.wrap ((IntKind.i64.wrap (r.n.log.start + (r.n.log.entries.length : Int))) + 1)), 0, 0⟩ : Peer)]))) Xo11_14_1), (92, .pt 0 (bo 0) 13)] ++ b0⟩ K := by
       intro B Xo11_13_1 Xo11_14_1
       refine RA.of2 hall hf hb (RA.stepH (L := [18]) (Tell.of rfl) (by kernel_rfl) (by simp) (RA.each ?_ (RA.each0)))
       ·skip
        refine RO.store (d := .al 89 none 4 ((((L7.take i).map fun q => (⟨q, IntKind.i64.wrap ((IntKind.i64.wrap (r.n.log.start + (r.n.log.entries.length : Int))) + 1), 0, 0⟩ : Peer)) ++ ([(⟨ei, (IntKind.i64.wrap ((IntKind.i64.wrap (r.n.log.start + (r.n.log.entries.length : Int))) + 1)), 0, 0⟩ : Peer)])).length) Xo11_14_1 0) rfl rfl rfl rfl rfl rfl rfl rfl rfl (Nat.le_of_ble_eq_true rfl) rfl rfl ?_
        refine RA.keep 97 [0,2,3,4,89] rfl ?_;(conv=>whnf);refine ⟨?_⟩
        refine RA.pullT (k := 0) (l := 89) (j := 13) 0 89 13 rfl rfl rfl (by decide) rfl rfl rfl ?_
        refine RA.keep 97 [0,2,3,4] rfl ?_;(conv=>whnf);refine ⟨?_⟩
        exact RA.to2 hall hf hb (ro11_7 B Xo11_13_1 Xo11_14_1) rfl rfl (by kernel_rfl)
      have ro11_5 : ∀ B, ∀ (Xo11_13_1 : Value), RA f E B all 5 (bt 19 16383) ⟨97, [(0, .obj (bo 0) [I r.n.id, I r.n.term_, I r.n.vote, I 2, I r.n.id, .w (sl 1 cI r.n.conf) (g 0 5), I r.n.log.start, I r.n.log.startTerm, .w (sl 3 Entry.c (r.n.log.entries ++ ([(⟨r.n.term_, 1, ⟨#[]⟩⟩ : Entry)]))) Xo5_14_1, I r.n.commit, I r.n.clock, I r.n.limit, .w (sl 1 cI ([] : List Int)) X2, .w (sl 4 Peer.c ((L7.take i).map fun q => (⟨q, IntKind.i64.wrap ((IntKind.i64.wrap (r.n.log.start + (r.n.log.entries.length : Int))) + 1), 0, 0⟩ : Peer))) X, .w (sl 12 Message.c r.told) (g 0 14)]), (75, .pt 0 (bo 0) 0), (80, .al 0 (some 13) 4 (((L7.take i).map fun q => (⟨q, IntKind.i64.wrap ((IntKind.i64.wrap (r.n.log.start + (r.n.log.entries.length : Int))) + 1), 0, 0⟩ : Peer)).length) X 0), (88, .w (sl 4 Peer.c ([(⟨ei, (IntKind.i64.wrap ((IntKind.i64.wrap (r.n.log.start + (r.n.log.entries.length : Int))) + 1)), 0, 0⟩ : Peer)])) Xo11_13_1)] ++ b0⟩ K := by
       intro B Xo11_13_1
       refine RA.of2 hall hf hb (RA.stepH (L := [14]) (Tell.of rfl) (by kernel_rfl) (by simp) (RA.each ?_ (RA.each0)))
       ·skip
        refine RO.takeO 80 0 13 (by decide) rfl rfl rfl ?_
        refine RO.appendSR (c := Peer.c) (l1 := ((L7.take i).map fun q => (⟨q, IntKind.i64.wrap ((IntKind.i64.wrap (r.n.log.start + (r.n.log.entries.length : Int))) + 1), 0, 0⟩ : Peer))) (l2 := [(⟨ei, (IntKind.i64.wrap ((IntKind.i64.wrap (r.n.log.start + (r.n.log.entries.length : Int))) + 1)), 0, 0⟩ : Peer)]) rfl rfl rfl rfl rfl rfl rfl rfl rfl rfl (.al (k := none) (i := 88) (sz := 4) (V := Xo11_13_1) rfl rfl nofun) (by decide) (Nat.le_of_ble_eq_true rfl) Peer.len (fun _ => rfl) rfl (by simp only [maxLen, List.length_append, List.length_map, List.length_take, List.length_singleton]; first | omega | (have := hl.2.2; omega)) (by simp only [maxLen, List.length_append, List.length_map, List.length_take, List.length_singleton]; first | omega | (have := hl.2.2; omega)) fun Xo11_14_1 => ?_
        refine RA.fr XK 97 1 [15,16,17] (bt 19 262143) rfl rfl (by kernel_rfl) (Tell.of rfl) ?_
        (conv=>whnf);refine ⟨rfl,fun B=>?_⟩
        exact RA.to2 hall hf hb (ro11_6 B Xo11_13_1 Xo11_14_1) rfl rfl (by kernel_rfl)
      have ro11_4 : ∀ B, ∀ (Xo11_13_1 : Value), RA f E B all 6 (bt 19 16351) ⟨97, [(0, .obj (bo 0) [I r.n.id, I r.n.term_, I r.n.vote, I 2, I r.n.id, .w (sl 1 cI r.n.conf) (g 0 5), I r.n.log.start, I r.n.log.startTerm, .w (sl 3 Entry.c (r.n.log.entries ++ ([(⟨r.n.term_, 1, ⟨#[]⟩⟩ : Entry)]))) Xo5_14_1, I r.n.commit, I r.n.clock, I r.n.limit, .w (sl 1 cI ([] : List Int)) X2, .w (sl 4 Peer.c ((L7.take i).map fun q => (⟨q, IntKind.i64.wrap ((IntKind.i64.wrap (r.n.log.start + (r.n.log.entries.length : Int))) + 1), 0, 0⟩ : Peer))) X, .w (sl 12 Message.c r.told) (g 0 14)]), (75, .pt 0 (bo 0) 0), (79, .pt 0 (bo 0) 13), (88, .w (sl 4 Peer.c ([(⟨ei, (IntKind.i64.wrap ((IntKind.i64.wrap (r.n.log.start + (r.n.log.entries.length : Int))) + 1)), 0, 0⟩ : Peer)])) Xo11_13_1)] ++ b0⟩ K := by
       intro B Xo11_13_1
       refine RA.of2 hall hf hb (RA.stepH (L := [5]) (Tell.of rfl) (by kernel_rfl) (by simp) (RA.each ?_ (RA.each0)))
       ·skip
        refine RO.v rfl rfl (V.loadPrim (d := .al 0 (some 13) 4 (((L7.take i).map fun q => (⟨q, IntKind.i64.wrap ((IntKind.i64.wrap (r.n.log.start + (r.n.log.entries.length : Int))) + 1), 0, 0⟩ : Peer)).length) X 0) rfl rfl (.inr ⟨_, rfl⟩) rfl rfl rfl) rfl ?_
        exact RA.to2 hall hf hb (ro11_5 B Xo11_13_1) rfl rfl (by kernel_rfl)
      have ro11_3 : ∀ B, RA f E B all 6 (bt 19 8191) ⟨97, [(0, .obj (bo 0) [I r.n.id, I r.n.term_, I r.n.vote, I 2, I r.n.id, .w (sl 1 cI r.n.conf) (g 0 5), I r.n.log.start, I r.n.log.startTerm, .w (sl 3 Entry.c (r.n.log.entries ++ ([(⟨r.n.term_, 1, ⟨#[]⟩⟩ : Entry)]))) Xo5_14_1, I r.n.commit, I r.n.clock, I r.n.limit, .w (sl 1 cI ([] : List Int)) X2, .w (sl 4 Peer.c ((L7.take i).map fun q => (⟨q, IntKind.i64.wrap ((IntKind.i64.wrap (r.n.log.start + (r.n.log.entries.length : Int))) + 1), 0, 0⟩ : Peer))) X, .w (sl 12 Message.c r.told) (g 0 14)]), (75, .pt 0 (bo 0) 0), (80, .al 0 (some 13) 4 (((L7.take i).map fun q => (⟨q, IntKind.i64.wrap ((IntKind.i64.wrap (r.n.log.start + (r.n.log.entries.length : Int))) + 1), 0, 0⟩ : Peer)).length) X 0), (87, .agg [I ei, I (IntKind.i64.wrap ((IntKind.i64.wrap (r.n.log.start + (r.n.log.entries.length : Int))) + 1)), I 0, I 0])] ++ b0⟩ K := by
       intro B
       refine RA.of2 hall hf hb (RA.stepH (L := [13]) (Tell.of rfl) (by kernel_rfl) (by simp) (RA.each ?_ (RA.each0)))
       ·skip
        refine RO.build1 (c := Peer.c) (v := (⟨ei, (IntKind.i64.wrap ((IntKind.i64.wrap (r.n.log.start + (r.n.log.entries.length : Int))) + 1)), 0, 0⟩ : Peer)) rfl rfl rfl rfl rfl rfl rfl rfl (DW.v (DW.v (DW.v (DW.v DW.e)))) Peer.len (by decide) (by decide) fun Xo11_13_1 => ?_
        exact RA.to2 hall hf hb (ro11_5 B Xo11_13_1) rfl rfl (by kernel_rfl)
      have ro11_2 : ∀ B, RA f E B all 7 (bt 19 8159) ⟨97, [(0, .obj (bo 0) [I r.n.id, I r.n.term_, I r.n.vote, I 2, I r.n.id, .w (sl 1 cI r.n.conf) (g 0 5), I r.n.log.start, I r.n.log.startTerm, .w (sl 3 Entry.c (r.n.log.entries ++ ([(⟨r.n.term_, 1, ⟨#[]⟩⟩ : Entry)]))) Xo5_14_1, I r.n.commit, I r.n.clock, I r.n.limit, .w (sl 1 cI ([] : List Int)) X2, .w (sl 4 Peer.c ((L7.take i).map fun q => (⟨q, IntKind.i64.wrap ((IntKind.i64.wrap (r.n.log.start + (r.n.log.entries.length : Int))) + 1), 0, 0⟩ : Peer))) X, .w (sl 12 Message.c r.told) (g 0 14)]), (75, .pt 0 (bo 0) 0), (79, .pt 0 (bo 0) 13), (87, .agg [I ei, I (IntKind.i64.wrap ((IntKind.i64.wrap (r.n.log.start + (r.n.log.entries.length : Int))) + 1)), I 0, I 0])] ++ b0⟩ K := by
       intro B
       refine RA.of2 hall hf hb (RA.stepH (L := [5, 13]) (Tell.of rfl) (by kernel_rfl) (by simp) (RA.each ?_ (RA.each ?_ (RA.each0))))
       ·skip
        refine RO.v rfl rfl (V.loadPrim (d := .al 0 (some 13) 4 (((L7.take i).map fun q => (⟨q, IntKind.i64.wrap ((IntKind.i64.wrap (r.n.log.start + (r.n.log.entries.length : Int))) + 1), 0, 0⟩ : Peer)).length) X 0) rfl rfl (.inr ⟨_, rfl⟩) rfl rfl rfl) rfl ?_
        exact RA.to2 hall hf hb (ro11_3 B) rfl rfl (by kernel_rfl)
       ·skip
        refine RO.build1 (c := Peer.c) (v := (⟨ei, (IntKind.i64.wrap ((IntKind.i64.wrap (r.n.log.start + (r.n.log.entries.length : Int))) + 1)), 0, 0⟩ : Peer)) rfl rfl rfl rfl rfl rfl rfl rfl (DW.v (DW.v (DW.v (DW.v DW.e)))) Peer.len (by decide) (by decide) fun Xo11_13_1 => ?_
        exact RA.to2 hall hf hb (ro11_4 B Xo11_13_1) rfl rfl (by kernel_rfl)
      have ro11_1 : ∀ B, RA f E B all 8 (bt 19 3583) ⟨97, [(0, .obj (bo 0) [I r.n.id, I r.n.term_, I r.n.vote, I 2, I r.n.id, .w (sl 1 cI r.n.conf) (g 0 5), I r.n.log.start, I r.n.log.startTerm, .w (sl 3 Entry.c (r.n.log.entries ++ ([(⟨r.n.term_, 1, ⟨#[]⟩⟩ : Entry)]))) Xo5_14_1, I r.n.commit, I r.n.clock, I r.n.limit, .w (sl 1 cI ([] : List Int)) X2, .w (sl 4 Peer.c ((L7.take i).map fun q => (⟨q, IntKind.i64.wrap ((IntKind.i64.wrap (r.n.log.start + (r.n.log.entries.length : Int))) + 1), 0, 0⟩ : Peer))) X, .w (sl 12 Message.c r.told) (g 0 14)]), (75, .pt 0 (bo 0) 0), (80, .al 0 (some 13) 4 (((L7.take i).map fun q => (⟨q, IntKind.i64.wrap ((IntKind.i64.wrap (r.n.log.start + (r.n.log.entries.length : Int))) + 1), 0, 0⟩ : Peer)).length) X 0), (83, .ep 3 none 1 (go6_10_1 0 0) (i * 1)), (86, I (IntKind.i64.wrap ((IntKind.i64.wrap (r.n.log.start + (r.n.log.entries.length : Int))) + 1)))] ++ b0⟩ K := by
       intro B
       refine RA.of2 hall hf hb (RA.stepH (L := [9]) (Tell.of rfl) (by kernel_rfl) (by simp) (RA.each ?_ (RA.each0)))
       ·skip
        refine RO.v rfl rfl (V.loadF (m := i) (off := 0) rfl rfl (.inl rfl) rfl rfl cI.len hei (by decide) rfl) rfl ?_
        refine RA.fr XK 97 6 [12] (bt 19 8191) rfl rfl (by kernel_rfl) (Tell.of rfl) ?_
        (conv=>whnf);refine ⟨rfl,fun B=>?_⟩
        exact RA.to2 hall hf hb (ro11_3 B) rfl rfl (by kernel_rfl)
      have ro11_0 : ∀ B, RA f E B all 9 (bt 19 3551) ⟨97, [(0, .obj (bo 0) [I r.n.id, I r.n.term_, I r.n.vote, I 2, I r.n.id, .w (sl 1 cI r.n.conf) (g 0 5), I r.n.log.start, I r.n.log.startTerm, .w (sl 3 Entry.c (r.n.log.entries ++ ([(⟨r.n.term_, 1, ⟨#[]⟩⟩ : Entry)]))) Xo5_14_1, I r.n.commit, I r.n.clock, I r.n.limit, .w (sl 1 cI ([] : List Int)) X2, .w (sl 4 Peer.c ((L7.take i).map fun q => (⟨q, IntKind.i64.wrap ((IntKind.i64.wrap (r.n.log.start + (r.n.log.entries.length : Int))) + 1), 0, 0⟩ : Peer))) X, .w (sl 12 Message.c r.told) (g 0 14)]), (75, .pt 0 (bo 0) 0), (79, .pt 0 (bo 0) 13), (83, .ep 3 none 1 (go6_10_1 0 0) (i * 1)), (86, I (IntKind.i64.wrap ((IntKind.i64.wrap (r.n.log.start + (r.n.log.entries.length : Int))) + 1)))] ++ b0⟩ K := by
       intro B
       refine RA.of2 hall hf hb (RA.stepH (L := [5, 9]) (Tell.of rfl) (by kernel_rfl) (by simp) (RA.each ?_ (RA.each ?_ (RA.each0))))
       ·skip
        refine RO.v rfl rfl (V.loadPrim (d := .al 0 (some 13) 4 (((L7.take i).map fun q => (⟨q, IntKind.i64.wrap ((IntKind.i64.wrap (r.n.log.start + (r.n.log.entries.length : Int))) + 1), 0, 0⟩ : Peer)).length) X 0) rfl rfl (.inr ⟨_, rfl⟩) rfl rfl rfl) rfl ?_
        exact RA.to2 hall hf hb (ro11_1 B) rfl rfl (by kernel_rfl)
       ·skip
        refine RO.v rfl rfl (V.loadF (m := i) (off := 0) rfl rfl (.inl rfl) rfl rfl cI.len hei (by decide) rfl) rfl ?_
        refine RA.fr XK 97 7 [12] (bt 19 8159) rfl rfl (by kernel_rfl) (Tell.of rfl) ?_
        (conv=>whnf);refine ⟨rfl,fun B=>?_⟩
        exact RA.to2 hall hf hb (ro11_2 B) rfl rfl (by kernel_rfl)
      refine RA.start (by kernel_rfl) (by kernel_rfl) (m := 19) (ls' := (bt 19 0)) ?_
      refine RA.fr XK 97 12 [0,1,2,3,4,6,7] (bt 19 223) rfl rfl (by kernel_rfl) (Tell.of rfl) ?_
      (conv=>whnf);refine ⟨rfl,fun B=>?_⟩
      refine RA.first (i := 8) (ls' := (bt 19 479)) (Tell.of rfl) (by kernel_rfl) rfl rfl rfl (VF.p (V.indexW rfl rfl rfl rfl rfl rfl rfl hii)) ?_
      refine RA.fr XK 97 9 [10,11] (bt 19 3551) rfl rfl (by kernel_rfl) (Tell.of rfl) ?_
      (conv=>whnf);refine ⟨rfl,fun B=>?_⟩
      exact RA.to2 hall hf hb (ro11_0 B) rfl rfl (by kernel_rfl)
     ·rintro ⟨Xo11_13_1, Xo11_14_1⟩
      refine CW.keep 97 [0,2,3,4] rfl ?_;(conv=>whnf);refine ⟨?_⟩
      refine CW.region ?_
      refine RW.k XK 97 1 rfl ?_
      (conv=>whnf);refine ⟨rfl,?_⟩
      refine RW.v rfl (V.inc rfl rfl rfl hii hl0) ?_
      refine RW.k XK 97 1 rfl ?_
      (conv=>whnf);refine ⟨rfl,?_⟩
      refine RW.nil ?_
      exact ⟨(i + 1, _), by show L7.length - (i + 1) < L7.length - i; omega, (by omega), rfl, Le.c (congrArg (fun l_ => D.obj (bo 0) [I r.n.id, I r.n.term_, I r.n.vote, I 2, I r.n.id, .w (sl 1 cI r.n.conf) (g 0 5), I r.n.log.start, I r.n.log.startTerm, .w (sl 3 Entry.c (r.n.log.entries ++ ([(⟨r.n.term_, 1, ⟨#[]⟩⟩ : Entry)]))) Xo5_14_1, I r.n.commit, I r.n.clock, I r.n.limit, .w (sl 1 cI ([] : List Int)) X2, .w (sl 4 Peer.c l_) Xo11_14_1, .w (sl 12 Message.c r.told) (g 0 14)]) (by rw [take_snoc hei, List.map_append]; rfl)) <| Le.c rfl <| Le.c rfl <| Le.c rfl <| Le.e⟩
    ·skip
     have hii : L7.length ≤ i := by have := h10; simp at this; first | exact this | omega | (simp; done) | (simp; omega)
     have hdi : L7.drop i = [] := List.drop_eq_nil_of_le hii
     have hLe : ((L7.take i).map fun q => (⟨q, IntKind.i64.wrap ((IntKind.i64.wrap (r.n.log.start + (r.n.log.entries.length : Int))) + 1), 0, 0⟩ : Peer)) = leadPs r.n := by rw [List.take_of_length_le hii, hn8]; exact lead_ps hl (congrArg (fun c => others c r.n.id) (confAt_log (n := r.n) rfl rfl (by first | exact .inl rfl | exact .inr ⟨_, rfl, hr60, rfl⟩) hl))
     rw [← hLe] at hLO
     refine CW.exit ?_
     refine CW.keep 97 [0] rfl ?_;(conv=>whnf);refine ⟨?_⟩
     refine CW.seq ?_
     refine CW.region ?_
     refine RW.k XK 97 1 rfl ?_
     (conv=>whnf);refine ⟨rfl,?_⟩
     refine RW.freezeM (k := 0) [false, false, false, false, false, true, false, false, true, false, false, false, true, true, false] rfl (ds' := [I r.n.id, I r.n.term_, I r.n.vote, I 2, I r.n.id, .r (sl 1 cI r.n.conf), I r.n.log.start, I r.n.log.startTerm, .r (sl 3 Entry.c (r.n.log.entries ++ ([(⟨r.n.term_, 1, ⟨#[]⟩⟩ : Entry)]))), I r.n.commit, I r.n.clock, I r.n.limit, .r (sl 1 cI ([] : List Int)), .r (sl 4 Peer.c ((L7.take i).map fun q => (⟨q, IntKind.i64.wrap ((IntKind.i64.wrap (r.n.log.start + (r.n.log.entries.length : Int))) + 1), 0, 0⟩ : Peer))), .w (sl 12 Message.c r.told) (g 0 14)]) rfl ?_
     refine RW.callP (k := 0) (spec_l18Commit_fn (⟨(⟨r.n.id, r.n.term_, r.n.vote, 2, r.n.id, r.n.conf, (⟨r.n.log.start, r.n.log.startTerm, (r.n.log.entries ++ ([(⟨r.n.term_, 1, ⟨#[]⟩⟩ : Entry)]))⟩ : Log), r.n.commit, r.n.clock, r.n.limit, ([] : List Int), ((L7.take i).map fun q => (⟨q, IntKind.i64.wrap ((IntKind.i64.wrap (r.n.log.start + (r.n.log.entries.length : Int))) + 1), 0, 0⟩ : Peer))⟩ : Node), r.told⟩ : l18Run) (hCO _) hLO.ok) rfl rfl (Nat.le_of_ble_eq_true rfl) (by decide) rfl (DT.r (DT.r (DT.r (DT.r (DT.r (DT.r (DT.r (DT.r (DT.r (DT.r (DT.r (DT.r (DT.r (DT.r (DT.w DT.e))))))))))))))) (AsPs.here rfl (.nil)) fun g12 q13 => ?_
     refine RW.nil ?_
     obtain ⟨m14, hn15⟩ : ∃ z : Node, z = commitN (⟨r.n.id, r.n.term_, r.n.vote, 2, r.n.id, r.n.conf, (⟨r.n.log.start, r.n.log.startTerm, (r.n.log.entries ++ ([(⟨r.n.term_, 1, ⟨#[]⟩⟩ : Entry)]))⟩ : Log), r.n.commit, r.n.clock, r.n.limit, ([] : List Int), ((L7.take i).map fun q => (⟨q, IntKind.i64.wrap ((IntKind.i64.wrap (r.n.log.start + (r.n.log.entries.length : Int))) + 1), 0, 0⟩ : Peer))⟩ : Node) := ⟨_, rfl⟩
     have hSn : logB m14.log ∧ (∀ p ∈ m14.peers, peerB m14.log p) ∧ m14.conf.length ≤ 1048576 ∧ m14.peers.length ≤ 1048576 := by subst hn15; exact hLO.send
     refine CW.le [(0, .obj (bo 0) [I m14.id, I m14.term_, I m14.vote, I m14.role, I m14.lead, .r (sl 1 cI m14.conf), I ((m14.log).start), I ((m14.log).startTerm), .r (sl 3 Entry.c ((m14.log).entries)), I m14.commit, I m14.clock, I m14.limit, .r (sl 1 cI m14.votes), .r (sl 4 Peer.c m14.peers), .w (sl 12 Message.c r.told) (q13 14)])] rfl (Le.c (by subst hn15; rfl) <| Le.e) ?_
     refine CW.keep 97 [0] rfl ?_;(conv=>whnf);refine ⟨?_⟩
     refine CW.region ?_
     refine RW.k XK 97 1 rfl ?_
     (conv=>whnf);refine ⟨rfl,?_⟩
     refine RW.callP (k := 0) (spec_l18SendAll_fn (⟨(⟨m14.id, m14.term_, m14.vote, m14.role, m14.lead, m14.conf, (m14.log), m14.commit, m14.clock, m14.limit, m14.votes, m14.peers⟩ : Node), r.told⟩ : l18Run) hSn.1 hSn.2.1 hSn.2.2.1 hSn.2.2.2 htl) rfl rfl (Nat.le_of_ble_eq_true rfl) (by decide) rfl (DT.r (DT.r (DT.r (DT.r (DT.r (DT.r (DT.r (DT.r (DT.r (DT.r (DT.r (DT.r (DT.r (DT.r (DT.w DT.e))))))))))))))) (AsPs.here rfl (.nil)) fun g16 q17 => ?_
     refine RW.nil ?_
     exact Post.tup (by decide) RVs.e (AOs.obE (f := fun e => l18Run.m e) (e' := (⟨(⟨m14.id, m14.term_, m14.vote, m14.role, m14.lead, m14.conf, (m14.log), m14.commit, m14.clock, m14.limit, m14.votes, m14.peers⟩ : Node), r.told ++ (⟨m14.id, m14.term_, m14.vote, m14.role, m14.lead, m14.conf, (m14.log), m14.commit, m14.clock, m14.limit, m14.votes, m14.peers⟩ : Node).peers.map (sendN (⟨m14.id, m14.term_, m14.vote, m14.role, m14.lead, m14.conf, (m14.log), m14.commit, m14.clock, m14.limit, m14.votes, m14.peers⟩ : Node))⟩ : l18Run)) rfl (DT.r (DT.r (DT.r (DT.r (DT.r (DT.r (DT.r (DT.r (DT.r (DT.r (DT.r (DT.r (DT.r (DT.r (DT.w DT.e))))))))))))))) (by subst hn15; rw [hLe]; first | rw [leadN_yes hrm] | rw [leadN_no hrm]) AOs.e)
 ·skip
  have hrm : room r.n.log = false := h4
  have hok3 := okSame hok
  have hCO := com_same hl hcm
  have hLO := lead_ok1 hl hok 2 r.n.id
  refine CW.skip ?_
  refine CW.keep 97 [0,2] rfl ?_;(conv=>whnf);refine ⟨?_⟩
  refine CW.anyJ2 (fc := [(0, (bo 0), [.int .i64 r.n.id, .int .i64 r.n.term_, .int .i64 r.n.vote, .int .i64 2, .int .i64 r.n.id, (g 0 5), .int .i64 r.n.log.start, .int .i64 r.n.log.startTerm, (g 0 8), .int .i64 r.n.commit, .int .i64 r.n.clock, .int .i64 r.n.limit, X2, (g 0 13), (g 0 14)])]) (L0 := [(0, .obj (bo 0) [I r.n.id, I r.n.term_, I r.n.vote, I 2, I r.n.id, .w (sl 1 cI r.n.conf) (g 0 5), I r.n.log.start, I r.n.log.startTerm, .w (sl 3 Entry.c r.n.log.entries) (g 0 8), I r.n.commit, I r.n.clock, I r.n.limit, .w (sl 1 cI ([] : List Int)) X2, .w (sl 4 Peer.c r.n.peers) (g 0 13), .w (sl 12 Message.c r.told) (g 0 14)]), (2, I (IntKind.i64.wrap (r.n.log.start + (r.n.log.entries.length : Int))))]) 97 (fun (zz : (Nat → Nat → Value) × (Nat → Nat → Value)) => match zz with | (go18_10_1, go18_4_1) => [(3, .w (sl 1 cI (others (confAtS (⟨r.n.id, r.n.term_, r.n.vote, 2, r.n.id, r.n.conf, r.n.log, r.n.commit, r.n.clock, r.n.limit, ([] : List Int), r.n.peers⟩ : Node) 1000060) r.n.id)) (go18_10_1 0 0))]) (fun all hall f hf b0 hb K hK => ?_) ?_
  ·skip
   have ro18_3 : ∀ B, ∀ (go18_10_1 : Nat → Nat → Value), ∀ (go18_4_1 : Nat → Nat → Value), RA f E B all 0 (bt 12 4095) ⟨97, [(3, .w (sl 1 cI (others (confAtS (⟨r.n.id, r.n.term_, r.n.vote, 2, r.n.id, r.n.conf, r.n.log, r.n.commit, r.n.clock, r.n.limit, ([] : List Int), r.n.peers⟩ : Node) 1000060) r.n.id)) (go18_10_1 0 0))] ++ b0⟩ K := by
    intro B go18_10_1 go18_4_1
    exact RA.of2 hall hf hb (RA.finH (Tell.of rfl) (by kernel_rfl) (hK (go18_10_1, go18_4_1) _ rfl (Le.of rfl)))
   have ro18_2 : ∀ B, ∀ (go18_10_1 : Nat → Nat → Value), ∀ (go18_4_1 : Nat → Nat → Value), RA f E B all 1 (bt 12 2047) ⟨97, [(63, .w (sl 1 cI (others (confAtS (⟨r.n.id, r.n.term_, r.n.vote, 2, r.n.id, r.n.conf, r.n.log, r.n.commit, r.n.clock, r.n.limit, ([] : List Int), r.n.peers⟩ : Node) 1000060) r.n.id)) (go18_10_1 0 0))] ++ b0⟩ K := by
    intro B go18_10_1 go18_4_1
    refine RA.of2 hall hf hb (RA.stepH (L := [11]) (Tell.of rfl) (by kernel_rfl) (by simp) (RA.each ?_ (RA.each0)))
    ·skip
     refine RO.assignMove rfl rfl rfl rfl rfl (by decide) (Nat.le_of_ble_eq_true rfl) (Nat.le_of_ble_eq_true rfl) ?_
     exact RA.to2 hall hf hb (ro18_3 B go18_10_1 go18_4_1) rfl rfl (by kernel_rfl)
   have ro18_1 : ∀ B, ∀ (go18_4_1 : Nat → Nat → Value), RA f E B all 2 (bt 12 1023) ⟨97, [(57, .w (sl 1 cI (confAtS (⟨r.n.id, r.n.term_, r.n.vote, 2, r.n.id, r.n.conf, r.n.log, r.n.commit, r.n.clock, r.n.limit, ([] : List Int), r.n.peers⟩ : Node) 1000060)) (go18_4_1 0 0)), (62, I r.n.id)] ++ b0⟩ K := by
    intro B go18_4_1
    refine RA.of2 hall hf hb (RA.stepH (L := [10]) (Tell.of rfl) (by kernel_rfl) (by simp) (RA.each ?_ (RA.each0)))
    ·skip
     refine RO.callOwn rfl rfl (spec_l18Others_fn (confAtS (⟨r.n.id, r.n.term_, r.n.vote, 2, r.n.id, r.n.conf, r.n.log, r.n.commit, r.n.clock, r.n.limit, ([] : List Int), r.n.peers⟩ : Node) 1000060) r.n.id (confAtS_len hok3 _)) rfl (.cons (.one (.r (.al (k := none) (i := 57) (sz := 1) (V := (go18_4_1 0 0)) rfl rfl nofun))) (.cons (.one (.r .r)) (.nil))) rfl rfl fun go18_10_1 => ?_
     exact RA.to2 hall hf hb (ro18_2 B go18_10_1 go18_4_1) rfl rfl (by kernel_rfl)
   have ro18_0 : ∀ B, RA f E B all 3 (bt 12 1007) ⟨97, [(56, .agg [I r.n.id, I r.n.term_, I r.n.vote, I 2, I r.n.id, .al 0 (some 5) 1 r.n.conf.length (g 0 5) 0, I r.n.log.start, I r.n.log.startTerm, .al 0 (some 8) 3 r.n.log.entries.length (g 0 8) 0, I r.n.commit, I r.n.clock, I r.n.limit, .al 0 (some 12) 1 (([] : List Int).length) X2 0, .al 0 (some 13) 4 r.n.peers.length (g 0 13) 0]), (62, I r.n.id)] ++ b0⟩ K := by
    intro B
    refine RA.of2 hall hf hb (RA.stepH (L := [4]) (Tell.of rfl) (by kernel_rfl) (by simp) (RA.each ?_ (RA.each0)))
    ·skip
     refine RO.callOwn rfl rfl (spec_ConfOf_fn (⟨r.n.id, r.n.term_, r.n.vote, 2, r.n.id, r.n.conf, r.n.log, r.n.commit, r.n.clock, r.n.limit, ([] : List Int), r.n.peers⟩ : Node) hok3) rfl (.cons (.agg (.cons (.r .r) (.cons (.r .r) (.cons (.r .r) (.cons (.r .r) (.cons (.r .r) (.cons (.r (.alo (k := none) (i := 0) (j := 5) (sz := 1) (V := (g 0 5)) rfl rfl rfl nofun)) (.cons (.r .r) (.cons (.r .r) (.cons (.r (.alo (k := none) (i := 0) (j := 8) (sz := 3) (V := (g 0 8)) rfl rfl rfl nofun)) (.cons (.r .r) (.cons (.r .r) (.cons (.r .r) (.cons (.r (.alo (k := none) (i := 0) (j := 12) (sz := 1) (V := X2) rfl rfl rfl nofun)) (.cons (.r (.alo (k := none) (i := 0) (j := 13) (sz := 4) (V := (g 0 13)) rfl rfl rfl nofun)) (.nil)))))))))))))))) (.nil)) rfl rfl fun go18_4_1 => ?_
     exact RA.to2 hall hf hb (ro18_1 B go18_4_1) rfl rfl (by kernel_rfl)
   refine RA.start (by kernel_rfl) (by kernel_rfl) (m := 12) (ls' := (bt 12 0)) ?_
   refine RA.fr XK 97 3 [0,1,2,3,5,6,7,8,9] (bt 12 1007) rfl rfl (by kernel_rfl) (Tell.of rfl) ?_
   (conv=>whnf);refine ⟨rfl,fun B=>?_⟩
   exact RA.to2 hall hf hb (ro18_0 B) rfl rfl (by kernel_rfl)
  ·rintro ⟨go18_10_1, go18_4_1⟩
   obtain ⟨L19, hn20⟩ : ∃ z : List Int, z = others (confAtS (⟨r.n.id, r.n.term_, r.n.vote, 2, r.n.id, r.n.conf, r.n.log, r.n.commit, r.n.clock, r.n.limit, ([] : List Int), r.n.peers⟩ : Node) 1000060) r.n.id := ⟨_, rfl⟩
   refine CW.le [(0, .obj (bo 0) [I r.n.id, I r.n.term_, I r.n.vote, I 2, I r.n.id, .w (sl 1 cI r.n.conf) (g 0 5), I r.n.log.start, I r.n.log.startTerm, .w (sl 3 Entry.c r.n.log.entries) (g 0 8), I r.n.commit, I r.n.clock, I r.n.limit, .w (sl 1 cI ([] : List Int)) X2, .w (sl 4 Peer.c r.n.peers) (g 0 13), .w (sl 12 Message.c r.told) (g 0 14)]), (2, I (IntKind.i64.wrap (r.n.log.start + (r.n.log.entries.length : Int)))), (3, .w (sl 1 cI L19) (go18_10_1 0 0))] rfl (Le.c rfl <| Le.c rfl <| Le.c (by subst hn20; rfl) <| Le.e) ?_
   refine CW.seq ?_
   refine CW.region ?_
   refine RW.k XK 97 1 rfl ?_
   (conv=>whnf);refine ⟨rfl,?_⟩
   refine RW.build0 Peer.c rfl rfl rfl rfl rfl fun X21 => ?_
   refine RW.k XK 97 4 rfl ?_
   (conv=>whnf);refine ⟨rfl,?_⟩
   refine RW.keep 97 [0,2,3,65] rfl ?_;(conv=>whnf);refine ⟨?_⟩
   refine RW.pullT (k := 0) (l := 65) (j := 13) 0 65 13 rfl rfl rfl (by decide) rfl rfl rfl ?_
   refine RW.keep 97 [0,2,3] rfl ?_;(conv=>whnf);refine ⟨?_⟩
   refine RW.nil ?_
   refine CW.keep 97 [0,2,3] rfl ?_;(conv=>whnf);refine ⟨?_⟩
   refine CW.seq ?_
   refine CW.k XK 97 1 [0,2,3,4] rfl ?_
   (conv=>whnf);refine ⟨rfl,?_⟩
   refine CW.block ?_
   refine CW.loopI 97 (fun (zz : Nat × Value) => match zz with | (i, X) => [(0, .obj (bo 0) [I r.n.id, I r.n.term_, I r.n.vote, I 2, I r.n.id, .w (sl 1 cI r.n.conf) (g 0 5), I r.n.log.start, I r.n.log.startTerm, .w (sl 3 Entry.c r.n.log.entries) (g 0 8), I r.n.commit, I r.n.clock, I r.n.limit, .w (sl 1 cI ([] : List Int)) X2, .w (sl 4 Peer.c ((L19.take i).map fun q => (⟨q, IntKind.i64.wrap ((IntKind.i64.wrap (r.n.log.start + (r.n.log.entries.length : Int))) + 1), 0, 0⟩ : Peer))) X, .w (sl 12 Message.c r.told) (g 0 14)]), (2, I (IntKind.i64.wrap (r.n.log.start + (r.n.log.entries.length : Int)))), (3, .w (sl 1 cI L19) (go18_10_1 0 0)), (4, I (i : Int))]) (fun (zz : Nat × Value) => match zz with | (i, X) => i ≤ L19.length) (fun (zz : Nat × Value) => match zz with | (i, X) => L19.length - i) (0, _) rfl (Le.c rfl <| Le.c rfl <| Le.c rfl <| Le.c rfl <| Le.e) (by omega) ?_
   rintro ⟨i, X⟩ hb
   have hlL : L19.length ≤ 1048576 := by rw [hn20]; exact Nat.le_trans (others_len _ _) (confAtS_len (show okToNode _ from hok3) _)
   have hl0 : L19.length ≤ maxLen := Nat.le_trans hlL (by decide)
   refine CW.seq ?_
   refine CW.k XK 97 1 [0,2,3,4,72] rfl ?_
   (conv=>whnf);refine ⟨rfl,?_⟩
   refine CW.cond rfl (fun h22 => ?_) (fun h22 => ?_)
   ·skip
    have hii : i < L19.length := by have := h22; simp at this; first | exact this | omega | (simp; done) | (simp; omega)
    obtain ⟨ei, hei⟩ : ∃ e, L19[i]? = some e := ⟨_, List.getElem?_eq_getElem hii⟩
    have hdi := drop_get hei
    refine CW.skip ?_
    refine CW.keep 97 [0,2,3,4] rfl ?_;(conv=>whnf);refine ⟨?_⟩
    refine CW.seq ?_
    refine CW.block ?_
    refine CW.anyR2 (fc := []) (L0 := [(2, I (IntKind.i64.wrap (r.n.log.start + (r.n.log.entries.length : Int)))), (3, .w (sl 1 cI L19) (go18_10_1 0 0)), (4, I (i : Int))]) 97 (fun (zz : Value × Value) => match zz with | (Xo23_13_1, Xo23_14_1) => [(0, .obj (bo 0) [I r.n.id, I r.n.term_, I r.n.vote, I 2, I r.n.id, .w (sl 1 cI r.n.conf) (g 0 5), I r.n.log.start, I r.n.log.startTerm, .w (sl 3 Entry.c r.n.log.entries) (g 0 8), I r.n.commit, I r.n.clock, I r.n.limit, .w (sl 1 cI ([] : List Int)) X2, .w (sl 4 Peer.c (((L19.take i).map fun q => (⟨q, IntKind.i64.wrap ((IntKind.i64.wrap (r.n.log.start + (r.n.log.entries.length : Int))) + 1), 0, 0⟩ : Peer)) ++ ([(⟨ei, (IntKind.i64.wrap ((IntKind.i64.wrap (r.n.log.start + (r.n.log.entries.length : Int))) + 1)), 0, 0⟩ : Peer)]))) Xo23_14_1, .w (sl 12 Message.c r.told) (g 0 14)])]) (fun all hall f hf b0 hb K hK => ?_) ?_
    ·skip
     have ro23_7 : ∀ B, ∀ (Xo23_13_1 : Value), ∀ (Xo23_14_1 : Value), RA f E B all 0 (bt 19 524287) ⟨97, [(0, .obj (bo 0) [I r.n.id, I r.n.term_, I r.n.vote, I 2, I r.n.id, .w (sl 1 cI r.n.conf) (g 0 5), I r.n.log.start, I r.n.log.startTerm, .w (sl 3 Entry.c r.n.log.entries) (g 0 8), I r.n.commit, I r.n.clock, I r.n.limit, .w (sl 1 cI ([] : List Int)) X2, .w (sl 4 Peer.c (((L19.take i).map fun q => (⟨q, IntKind.i64.wrap ((IntKind.i64.wrap (r.n.log.start + (r.n.log.entries.length : Int))) + 1), 0, 0⟩ : Peer)) ++ ([(⟨ei, (IntKind.i64.wrap ((IntKind.i64.wrap (r.n.log.start + (r.n.log.entries.length : Int))) + 1)), 0, 0⟩ : Peer)]))) Xo23_14_1, .w (sl 12 Message.c r.told) (g 0 14)])] ++ b0⟩ K := by
      intro B Xo23_13_1 Xo23_14_1
      exact RA.of2 hall hf hb (RA.finH (Tell.of rfl) (by kernel_rfl) (hK (Xo23_13_1, Xo23_14_1) _ rfl (Le.of rfl)))
     have ro23_6 : ∀ B, ∀ (Xo23_13_1 : Value), ∀ (Xo23_14_1 : Value), RA f E B all 1 (bt 19 262143) ⟨97, [(0, .obj (bo 0) [I r.n.id, I r.n.term_, I r.n.vote, I 2, I r.n.id, .w (sl 1 cI r.n.conf) (g 0 5), I r.n.log.start, I r.n.log.startTerm, .w (sl 3 Entry.c r.n.log.entries) (g 0 8), I r.n.commit, I r.n.clock, I r.n.limit, .w (sl 1 cI ([] : List Int)) X2, .u, .w (sl 12 Message.c r.told) (g 0 14)]), (89, .w (sl 4 Peer.c (((L19.take i).map fun q => (⟨q, IntKind.i64.wrap ((IntKind.i64.wrap (r.n.log.start + (r.n.log.entries.length : Int))) + 1), 0, 0⟩ : Peer)) ++ ([(⟨ei, (IntKind.i64.wrap ((IntKind.i64.wrap (r.n.log.start + (r.n.log.entries.length : Int))) + 1)), 0, 0⟩ : Peer)]))) Xo23_14_1), (92, .pt 0 (bo 0) 13)] ++ b0⟩ K := by
      intro B Xo23_13_1 Xo23_14_1
      refine RA.of2 hall hf hb (RA.stepH (L := [18]) (Tell.of rfl) (by kernel_rfl) (by simp) (RA.each ?_ (RA.each0)))
      ·skip
       refine RO.store (d := .al 89 none 4 ((((L19.take i).map fun q => (⟨q, IntKind.i64.wrap ((IntKind.i64.wrap (r.n.log.start + (r.n.log.entries.length : Int))) + 1), 0, 0⟩ : Peer)) ++ ([(⟨ei, (IntKind.i64.wrap ((IntKind.i64.wrap (r.n.log.start + (r.n.log.entries.length : Int))) + 1)), 0, 0⟩ : Peer)])).length) Xo23_14_1 0) rfl rfl rfl rfl rfl rfl rfl rfl rfl (Nat.le_of_ble_eq_true rfl) rfl rfl ?_
       refine RA.keep 97 [0,2,3,4,89] rfl ?_;(conv=>whnf);refine ⟨?_⟩
       refine RA.pullT (k := 0) (l := 89) (j := 13) 0 89 13 rfl rfl rfl (by decide) rfl rfl rfl ?_
       refine RA.keep 97 [0,2,3,4] rfl ?_;(conv=>whnf);refine ⟨?_⟩
       exact RA.to2 hall hf hb (ro23_7 B Xo23_13_1 Xo23_14_1) rfl rfl (by kernel_rfl)
     have ro23_5 : ∀ B, ∀ (Xo23_13_1 : Value), RA f E B all 5 (bt 19 16383) ⟨97, [(0, .obj (bo 0) [I r.n.id, I r.n.term_, I r.n.vote, I 2, I r.n.id, .w (sl 1 cI r.n.conf) (g 0 5), I r.n.log.start, I r.n.log.startTerm, .w (sl 3 Entry.c r.n.log.entries) (g 0 8), I r.n.commit, I r.n.clock, I r.n.limit, .w (sl 1 cI ([] : List Int)) X2, .w (sl 4 Peer.c ((L19.take i).map fun q => (⟨q, IntKind.i64.wrap ((IntKind.i64.wrap (r.n.log.start + (r.n.log.entries.length : Int))) + 1), 0, 0⟩ : Peer))) X, .w (sl 12 Message.c r.told) (g 0 14)]), (75, .pt 0 (bo 0) 0), (80, .al 0 (some 13) 4 (((L19.take i).map fun q => (⟨q, IntKind.i64.wrap ((IntKind.i64.wrap (r.n.log.start + (r.n.log.entries.length : Int))) + 1), 0, 0⟩ : Peer)).length) X 0), (88, .w (sl 4 Peer.c ([(⟨ei, (IntKind.i64.wrap ((IntKind.i64.wrap (r.n.log.start + (r.n.log.entries.length : Int))) + 1)), 0, 0⟩ : Peer)])) Xo23_13_1)] ++ b0⟩ K := by
      intro B Xo23_13_1
      refine RA.of2 hall hf hb (RA.stepH (L := [14]) (Tell.of rfl) (by kernel_rfl) (by simp) (RA.each ?_ (RA.each0)))
      ·skip
       refine RO.takeO 80 0 13 (by decide) rfl rfl rfl ?_
       refine RO.appendSR (c := Peer.c) (l1 := ((L19.take i).map fun q => (⟨q, IntKind.i64.wrap ((IntKind.i64.wrap (r.n.log.start + (r.n.log.entries.length : Int))) + 1), 0, 0⟩ : Peer))) (l2 := [(⟨ei, (IntKind.i64.wrap ((IntKind.i64.wrap (r.n.log.start + (r.n.log.entries.length : Int))) + 1)), 0, 0⟩ : Peer)]) rfl rfl rfl rfl rfl rfl rfl rfl rfl rfl (.al (k := none) (i := 88) (sz := 4) (V := Xo23_13_1) rfl rfl nofun) (by decide) (Nat.le_of_ble_eq_true rfl) Peer.len (fun _ => rfl) rfl (by simp only [maxLen, List.length_append, List.length_map, List.length_take, List.length_singleton]; first | omega | (have := hl.2.2; omega)) (by simp only [maxLen, List.length_append, List.length_map, List.length_take, List.length_singleton]; first | omega | (have := hl.2.2; omega)) fun Xo23_14_1 => ?_
       refine RA.fr XK 97 1 [15,16,17] (bt 19 262143) rfl rfl (by kernel_rfl) (Tell.of rfl) ?_
       (conv=>whnf);refine ⟨rfl,fun B=>?_⟩
       exact RA.to2 hall hf hb (ro23_6 B Xo23_13_1 Xo23_14_1) rfl rfl (by kernel_rfl)
     have ro23_4 : ∀ B, ∀ (Xo23_13_1 : Value), RA f E B all 6 (bt 19 16351) ⟨97, [(0, .obj (bo 0) [I r.n.id, I r.n.term_, I r.n.vote, I 2, I r.n.id, .w (sl 1 cI r.n.conf) (g 0 5), I r.n.log.start, I r.n.log.startTerm, .w (sl 3 Entry.c r.n.log.entries) (g 0 8), I r.n.commit, I r.n.clock, I r.n.limit, .w (sl 1 cI ([] : List Int)) X2, .w (sl 4 Peer.c ((L19.take i).map fun q => (⟨q, IntKind.i64.wrap ((IntKind.i64.wrap (r.n.log.start + (r.n.log.entries.length : Int))) + 1), 0, 0⟩ : Peer))) X, .w (sl 12 Message.c r.told) (g 0 14)]), (75, .pt 0 (bo 0) 0), (79, .pt 0 (bo 0) 13), (88, .w (sl 4 Peer.c ([(⟨ei, (IntKind.i64.wrap ((IntKind.i64.wrap (r.n.log.start + (r.n.log.entries.length : Int))) + 1)), 0, 0⟩ : Peer)])) Xo23_13_1)] ++ b0⟩ K := by
      intro B Xo23_13_1
      refine RA.of2 hall hf hb (RA.stepH (L := [5]) (Tell.of rfl) (by kernel_rfl) (by simp) (RA.each ?_ (RA.each0)))
      ·skip
       refine RO.v rfl rfl (V.loadPrim (d := .al 0 (some 13) 4 (((L19.take i).map fun q => (⟨q, IntKind.i64.wrap ((IntKind.i64.wrap (r.n.log.start + (r.n.log.entries.length : Int))) + 1), 0, 0⟩ : Peer)).length) X 0) rfl rfl (.inr ⟨_, rfl⟩) rfl rfl rfl) rfl ?_
       exact RA.to2 hall hf hb (ro23_5 B Xo23_13_1) rfl rfl (by kernel_rfl)
     have ro23_3 : ∀ B, RA f E B all 6 (bt 19 8191) ⟨97, [(0, .obj (bo 0) [I r.n.id, I r.n.term_, I r.n.vote, I 2, I r.n.id, .w (sl 1 cI r.n.conf) (g 0 5), I r.n.log.start, I r.n.log.startTerm, .w (sl 3 Entry.c r.n.log.entries) (g 0 8), I r.n.commit, I r.n.clock, I r.n.limit, .w (sl 1 cI ([] : List Int)) X2, .w (sl 4 Peer.c ((L19.take i).map fun q => (⟨q, IntKind.i64.wrap ((IntKind.i64.wrap (r.n.log.start + (r.n.log.entries.length : Int))) + 1), 0, 0⟩ : Peer))) X, .w (sl 12 Message.c r.told) (g 0 14)]), (75, .pt 0 (bo 0) 0), (80, .al 0 (some 13) 4 (((L19.take i).map fun q => (⟨q, IntKind.i64.wrap ((IntKind.i64.wrap (r.n.log.start + (r.n.log.entries.length : Int))) + 1), 0, 0⟩ : Peer)).length) X 0), (87, .agg [I ei, I (IntKind.i64.wrap ((IntKind.i64.wrap (r.n.log.start + (r.n.log.entries.length : Int))) + 1)), I 0, I 0])] ++ b0⟩ K := by
      intro B
      refine RA.of2 hall hf hb (RA.stepH (L := [13]) (Tell.of rfl) (by kernel_rfl) (by simp) (RA.each ?_ (RA.each0)))
      ·skip
       refine RO.build1 (c := Peer.c) (v := (⟨ei, (IntKind.i64.wrap ((IntKind.i64.wrap (r.n.log.start + (r.n.log.entries.length : Int))) + 1)), 0, 0⟩ : Peer)) rfl rfl rfl rfl rfl rfl rfl rfl (DW.v (DW.v (DW.v (DW.v DW.e)))) Peer.len (by decide) (by decide) fun Xo23_13_1 => ?_
       exact RA.to2 hall hf hb (ro23_5 B Xo23_13_1) rfl rfl (by kernel_rfl)
     have ro23_2 : ∀ B, RA f E B all 7 (bt 19 8159) ⟨97, [(0, .obj (bo 0) [I r.n.id, I r.n.term_, I r.n.vote, I 2, I r.n.id, .w (sl 1 cI r.n.conf) (g 0 5), I r.n.log.start, I r.n.log.startTerm, .w (sl 3 Entry.c r.n.log.entries) (g 0 8), I r.n.commit, I r.n.clock, I r.n.limit, .w (sl 1 cI ([] : List Int)) X2, .w (sl 4 Peer.c ((L19.take i).map fun q => (⟨q, IntKind.i64.wrap ((IntKind.i64.wrap (r.n.log.start + (r.n.log.entries.length : Int))) + 1), 0, 0⟩ : Peer))) X, .w (sl 12 Message.c r.told) (g 0 14)]), (75, .pt 0 (bo 0) 0), (79, .pt 0 (bo 0) 13), (87, .agg [I ei, I (IntKind.i64.wrap ((IntKind.i64.wrap (r.n.log.start + (r.n.log.entries.length : Int))) + 1)), I 0, I 0])] ++ b0⟩ K := by
      intro B
      refine RA.of2 hall hf hb (RA.stepH (L := [5, 13]) (Tell.of rfl) (by kernel_rfl) (by simp) (RA.each ?_ (RA.each ?_ (RA.each0))))
      ·skip
       refine RO.v rfl rfl (V.loadPrim (d := .al 0 (some 13) 4 (((L19.take i).map fun q => (⟨q, IntKind.i64.wrap ((IntKind.i64.wrap (r.n.log.start + (r.n.log.entries.length : Int))) + 1), 0, 0⟩ : Peer)).length) X 0) rfl rfl (.inr ⟨_, rfl⟩) rfl rfl rfl) rfl ?_
       exact RA.to2 hall hf hb (ro23_3 B) rfl rfl (by kernel_rfl)
      ·skip
       refine RO.build1 (c := Peer.c) (v := (⟨ei, (IntKind.i64.wrap ((IntKind.i64.wrap (r.n.log.start + (r.n.log.entries.length : Int))) + 1)), 0, 0⟩ : Peer)) rfl rfl rfl rfl rfl rfl rfl rfl (DW.v (DW.v (DW.v (DW.v DW.e)))) Peer.len (by decide) (by decide) fun Xo23_13_1 => ?_
       exact RA.to2 hall hf hb (ro23_4 B Xo23_13_1) rfl rfl (by kernel_rfl)
     have ro23_1 : ∀ B, RA f E B all 8 (bt 19 3583) ⟨97, [(0, .obj (bo 0) [I r.n.id, I r.n.term_, I r.n.vote, I 2, I r.n.id, .w (sl 1 cI r.n.conf) (g 0 5), I r.n.log.start, I r.n.log.startTerm, .w (sl 3 Entry.c r.n.log.entries) (g 0 8), I r.n.commit, I r.n.clock, I r.n.limit, .w (sl 1 cI ([] : List Int)) X2, .w (sl 4 Peer.c ((L19.take i).map fun q => (⟨q, IntKind.i64.wrap ((IntKind.i64.wrap (r.n.log.start + (r.n.log.entries.length : Int))) + 1), 0, 0⟩ : Peer))) X, .w (sl 12 Message.c r.told) (g 0 14)]), (75, .pt 0 (bo 0) 0), (80, .al 0 (some 13) 4 (((L19.take i).map fun q => (⟨q, IntKind.i64.wrap ((IntKind.i64.wrap (r.n.log.start + (r.n.log.entries.length : Int))) + 1), 0, 0⟩ : Peer)).length) X 0), (83, .ep 3 none 1 (go18_10_1 0 0) (i * 1)), (86, I (IntKind.i64.wrap ((IntKind.i64.wrap (r.n.log.start + (r.n.log.entries.length : Int))) + 1)))] ++ b0⟩ K := by
      intro B
      refine RA.of2 hall hf hb (RA.stepH (L := [9]) (Tell.of rfl) (by kernel_rfl) (by simp) (RA.each ?_ (RA.each0)))
      ·skip
       refine RO.v rfl rfl (V.loadF (m := i) (off := 0) rfl rfl (.inl rfl) rfl rfl cI.len hei (by decide) rfl) rfl ?_
       refine RA.fr XK 97 6 [12] (bt 19 8191) rfl rfl (by kernel_rfl) (Tell.of rfl) ?_
       (conv=>whnf);refine ⟨rfl,fun B=>?_⟩
       exact RA.to2 hall hf hb (ro23_3 B) rfl rfl (by kernel_rfl)
     have ro23_0 : ∀ B, RA f E B all 9 (bt 19 3551) ⟨97, [(0, .obj (bo 0) [I r.n.id, I r.n.term_, I r.n.vote, I 2, I r.n.id, .w (sl 1 cI r.n.conf) (g 0 5), I r.n.log.start, I r.n.log.startTerm, .w (sl 3 Entry.c r.n.log.entries) (g 0 8), I r.n.commit, I r.n.clock, I r.n.limit, .w (sl 1 cI ([] : List Int)) X2, .w (sl 4 Peer.c ((L19.take i).map fun q => (⟨q, IntKind.i64.wrap ((IntKind.i64.wrap (r.n.log.start + (r.n.log.entries.length : Int))) + 1), 0, 0⟩ : Peer))) X, .w (sl 12 Message.c r.told) (g 0 14)]), (75, .pt 0 (bo 0) 0), (79, .pt 0 (bo 0) 13), (83, .ep 3 none 1 (go18_10_1 0 0) (i * 1)), (86, I (IntKind.i64.wrap ((IntKind.i64.wrap (r.n.log.start + (r.n.log.entries.length : Int))) + 1)))] ++ b0⟩ K := by
      intro B
      refine RA.of2 hall hf hb (RA.stepH (L := [5, 9]) (Tell.of rfl) (by kernel_rfl) (by simp) (RA.each ?_ (RA.each ?_ (RA.each0))))
      ·skip
       refine RO.v rfl rfl (V.loadPrim (d := .al 0 (some 13) 4 (((L19.take i).map fun q => (⟨q, IntKind.i64.wrap ((IntKind.i64.wrap (r.n.log.start + (r.n.log.entries.length : Int))) + 1), 0, 0⟩ : Peer)).length) X 0) rfl rfl (.inr ⟨_, rfl⟩) rfl rfl rfl) rfl ?_
       exact RA.to2 hall hf hb (ro23_1 B) rfl rfl (by kernel_rfl)
      ·skip
       refine RO.v rfl rfl (V.loadF (m := i) (off := 0) rfl rfl (.inl rfl) rfl rfl cI.len hei (by decide) rfl) rfl ?_
       refine RA.fr XK 97 7 [12] (bt 19 8159) rfl rfl (by kernel_rfl) (Tell.of rfl) ?_
       (conv=>whnf);refine ⟨rfl,fun B=>?_⟩
       exact RA.to2 hall hf hb (ro23_2 B) rfl rfl (by kernel_rfl)
     refine RA.start (by kernel_rfl) (by kernel_rfl) (m := 19) (ls' := (bt 19 0)) ?_
     refine RA.fr XK 97 12 [0,1,2,3,4,6,7] (bt 19 223) rfl rfl (by kernel_rfl) (Tell.of rfl) ?_
     (conv=>whnf);refine ⟨rfl,fun B=>?_⟩
     refine RA.first (i := 8) (ls' := (bt 19 479)) (Tell.of rfl) (by kernel_rfl) rfl rfl rfl (VF.p (V.indexW rfl rfl rfl rfl rfl rfl rfl hii)) ?_
     refine RA.fr XK 97 9 [10,11] (bt 19 3551) rfl rfl (by kernel_rfl) (Tell.of rfl) ?_
     (conv=>whnf);refine ⟨rfl,fun B=>?_⟩
     exact RA.to2 hall hf hb (ro23_0 B) rfl rfl (by kernel_rfl)
    ·rintro ⟨Xo23_13_1, Xo23_14_1⟩
     refine CW.keep 97 [0,2,3,4] rfl ?_;(conv=>whnf);refine ⟨?_⟩
     refine CW.region ?_
     refine RW.k XK 97 1 rfl ?_
     (conv=>whnf);refine ⟨rfl,?_⟩
     refine RW.v rfl (V.inc rfl rfl rfl hii hl0) ?_
     refine RW.k XK 97 1 rfl ?_
     (conv=>whnf);refine ⟨rfl,?_⟩
     refine RW.nil ?_
     exact ⟨(i + 1, _), by show L19.length - (i + 1) < L19.length - i; omega, (by omega), rfl, Le.c (congrArg (fun l_ => D.obj (bo 0) [I r.n.id, I r.n.term_, I r.n.vote, I 2, I r.n.id, .w (sl 1 cI r.n.conf) (g 0 5), I r.n.log.start, I r.n.log.startTerm, .w (sl 3 Entry.c r.n.log.entries) (g 0 8), I r.n.commit, I r.n.clock, I r.n.limit, .w (sl 1 cI ([] : List Int)) X2, .w (sl 4 Peer.c l_) Xo23_14_1, .w (sl 12 Message.c r.told) (g 0 14)]) (by rw [take_snoc hei, List.map_append]; rfl)) <| Le.c rfl <| Le.c rfl <| Le.c rfl <| Le.e⟩
   ·skip
    have hii : L19.length ≤ i := by have := h22; simp at this; first | exact this | omega | (simp; done) | (simp; omega)
    have hdi : L19.drop i = [] := List.drop_eq_nil_of_le hii
    have hLe : ((L19.take i).map fun q => (⟨q, IntKind.i64.wrap ((IntKind.i64.wrap (r.n.log.start + (r.n.log.entries.length : Int))) + 1), 0, 0⟩ : Peer)) = leadPs r.n := by rw [List.take_of_length_le hii, hn20]; exact lead_ps hl (congrArg (fun c => others c r.n.id) (confAt_log (n := r.n) rfl rfl (by first | exact .inl rfl | exact .inr ⟨_, rfl, hr60, rfl⟩) hl))
    rw [← hLe] at hLO
    refine CW.exit ?_
    refine CW.keep 97 [0] rfl ?_;(conv=>whnf);refine ⟨?_⟩
    refine CW.seq ?_
    refine CW.region ?_
    refine RW.k XK 97 1 rfl ?_
    (conv=>whnf);refine ⟨rfl,?_⟩
    refine RW.freezeM (k := 0) [false, false, false, false, false, true, false, false, true, false, false, false, true, true, false] rfl (ds' := [I r.n.id, I r.n.term_, I r.n.vote, I 2, I r.n.id, .r (sl 1 cI r.n.conf), I r.n.log.start, I r.n.log.startTerm, .r (sl 3 Entry.c r.n.log.entries), I r.n.commit, I r.n.clock, I r.n.limit, .r (sl 1 cI ([] : List Int)), .r (sl 4 Peer.c ((L19.take i).map fun q => (⟨q, IntKind.i64.wrap ((IntKind.i64.wrap (r.n.log.start + (r.n.log.entries.length : Int))) + 1), 0, 0⟩ : Peer))), .w (sl 12 Message.c r.told) (g 0 14)]) rfl ?_
    refine RW.callP (k := 0) (spec_l18Commit_fn (⟨(⟨r.n.id, r.n.term_, r.n.vote, 2, r.n.id, r.n.conf, r.n.log, r.n.commit, r.n.clock, r.n.limit, ([] : List Int), ((L19.take i).map fun q => (⟨q, IntKind.i64.wrap ((IntKind.i64.wrap (r.n.log.start + (r.n.log.entries.length : Int))) + 1), 0, 0⟩ : Peer))⟩ : Node), r.told⟩ : l18Run) (hCO _) hLO.ok) rfl rfl (Nat.le_of_ble_eq_true rfl) (by decide) rfl (DT.r (DT.r (DT.r (DT.r (DT.r (DT.r (DT.r (DT.r (DT.r (DT.r (DT.r (DT.r (DT.r (DT.r (DT.w DT.e))))))))))))))) (AsPs.here rfl (.nil)) fun g24 q25 => ?_
    refine RW.nil ?_
    obtain ⟨m26, hn27⟩ : ∃ z : Node, z = commitN (⟨r.n.id, r.n.term_, r.n.vote, 2, r.n.id, r.n.conf, r.n.log, r.n.commit, r.n.clock, r.n.limit, ([] : List Int), ((L19.take i).map fun q => (⟨q, IntKind.i64.wrap ((IntKind.i64.wrap (r.n.log.start + (r.n.log.entries.length : Int))) + 1), 0, 0⟩ : Peer))⟩ : Node) := ⟨_, rfl⟩
    have hSn : logB m26.log ∧ (∀ p ∈ m26.peers, peerB m26.log p) ∧ m26.conf.length ≤ 1048576 ∧ m26.peers.length ≤ 1048576 := by subst hn27; exact hLO.send
    refine CW.le [(0, .obj (bo 0) [I m26.id, I m26.term_, I m26.vote, I m26.role, I m26.lead, .r (sl 1 cI m26.conf), I ((m26.log).start), I ((m26.log).startTerm), .r (sl 3 Entry.c ((m26.log).entries)), I m26.commit, I m26.clock, I m26.limit, .r (sl 1 cI m26.votes), .r (sl 4 Peer.c m26.peers), .w (sl 12 Message.c r.told) (q25 14)])] rfl (Le.c (by subst hn27; rfl) <| Le.e) ?_
    refine CW.keep 97 [0] rfl ?_;(conv=>whnf);refine ⟨?_⟩
    refine CW.region ?_
    refine RW.k XK 97 1 rfl ?_
    (conv=>whnf);refine ⟨rfl,?_⟩
    refine RW.callP (k := 0) (spec_l18SendAll_fn (⟨(⟨m26.id, m26.term_, m26.vote, m26.role, m26.lead, m26.conf, (m26.log), m26.commit, m26.clock, m26.limit, m26.votes, m26.peers⟩ : Node), r.told⟩ : l18Run) hSn.1 hSn.2.1 hSn.2.2.1 hSn.2.2.2 htl) rfl rfl (Nat.le_of_ble_eq_true rfl) (by decide) rfl (DT.r (DT.r (DT.r (DT.r (DT.r (DT.r (DT.r (DT.r (DT.r (DT.r (DT.r (DT.r (DT.r (DT.r (DT.w DT.e))))))))))))))) (AsPs.here rfl (.nil)) fun g28 q29 => ?_
    refine RW.nil ?_
    exact Post.tup (by decide) RVs.e (AOs.obE (f := fun e => l18Run.m e) (e' := (⟨(⟨m26.id, m26.term_, m26.vote, m26.role, m26.lead, m26.conf, (m26.log), m26.commit, m26.clock, m26.limit, m26.votes, m26.peers⟩ : Node), r.told ++ (⟨m26.id, m26.term_, m26.vote, m26.role, m26.lead, m26.conf, (m26.log), m26.commit, m26.clock, m26.limit, m26.votes, m26.peers⟩ : Node).peers.map (sendN (⟨m26.id, m26.term_, m26.vote, m26.role, m26.lead, m26.conf, (m26.log), m26.commit, m26.clock, m26.limit, m26.votes, m26.peers⟩ : Node))⟩ : l18Run)) rfl (DT.r (DT.r (DT.r (DT.r (DT.r (DT.r (DT.r (DT.r (DT.r (DT.r (DT.r (DT.r (DT.r (DT.r (DT.w DT.e))))))))))))))) (by subst hn27; rw [hLe]; first | rw [leadN_yes hrm] | rw [leadN_no hrm]) AOs.e)
end Go.Proofs.Ytbiocicogminlaa.Y
