import Derived.Test.YtbiocicogminlaaWProposeC
namespace Go.Proofs.Ytbiocicogminlaa.Y
open Go Go.RowKit Go.Eng Go.Proofs
set_option maxRecDepth 10000
set_option maxHeartbeats 4000000 in
theorem spec_NodeOk_fn (n : Node) (hok : okToNode n) : Eng.Fn E.P 20 [.agg ((Node.c n).map .r)] (.one (.one (.w (.v (.bool (nodeOk n)))))) [.agg ((Node.c n).map .r)] := by
 refine Eng.Fn.intro (E := E) (rvs := [.tmp 2]) Try.func20 rfl rfl rfl (by simp [outSlots, moved, rvSlot, sl]) ?_
 intro B g bo
 refine CW.keep 153 [0] rfl ?_;(conv=>whnf);refine ⟨?_⟩
 refine CW.seq ?_
 refine CW.region ?_
 refine RW.k XK 153 1 rfl ?_
 (conv=>whnf);intro b1;(conv=>whnf);refine ⟨rfl,?_⟩
 refine RW.freezeB (ts := (Node.c n)) 1 rfl (DRd.r (DRd.r (DRd.r (DRd.r (DRd.r (DRd.r (DRd.r (DRd.r (DRd.r (DRd.r (DRd.r (DRd.r (DRd.r (DRd.r DRd.e)))))))))))))) ?_
 refine RW.k XK 153 1 rfl ?_
 (conv=>whnf);refine ⟨rfl,?_⟩
 refine RW.nil ?_
 refine CW.keep 153 [1] rfl ?_;(conv=>whnf);refine ⟨?_⟩
 refine CW.seq ?_
 refine CW.seqJ 153 (fun (v2 : Bool) => [(1, .rp (Node.c n)), (47, Bo v2)]) (fun v2 => v2 = (((((((!(inR n.id 1 4)) || (!(confOk n.conf))) || (!(logOk n.log))) || (!(inR n.term_ 0 100000))) || (!(inR n.vote 0 4))) || (!(inR n.lead 0 4))) || (!(inR n.role 0 2)))) ?_ ?_
 ·refine CW.region ?_
  refine RW.k XK 153 2 rfl ?_
  (conv=>whnf);refine ⟨rfl,?_⟩
  refine RW.call rfl (spec_l01In_fn n.id 1 4) rfl (.cons (.one (.r .r)) (.cons (.one (.r .r)) (.cons (.one (.r .r)) (.nil)))) fun g3 => ?_
  refine RW.k XK 153 2 rfl ?_
  (conv=>whnf);refine ⟨rfl,?_⟩
  refine RW.gv rfl rfl rfl rfl (fun h4 => V.fieldR rfl rfl rfl rfl (by decide) rfl (Nat.le_of_ble_eq_true rfl)) (fun h4 => ?_) (fun h4 => ?_)
  ·skip
   refine RW.k XK 153 1 rfl ?_
   (conv=>whnf);refine ⟨rfl,?_⟩
   refine RW.gcall rfl rfl rfl rfl (spec_ConfOk_fn n.conf) rfl (.cons (.one (.r .r)) (.nil)) fun g5 => ?_
   refine RW.k XK 153 3 rfl ?_
   (conv=>whnf);refine ⟨rfl,?_⟩
   refine RW.gv rfl rfl rfl rfl (fun h6 => V.fieldR rfl rfl rfl rfl (by decide) rfl (Nat.le_of_ble_eq_true rfl)) (fun h6 => ?_) (fun h6 => ?_)
   ·skip
    refine RW.k XK 153 1 rfl ?_
    (conv=>whnf);refine ⟨rfl,?_⟩
    refine RW.gcall rfl rfl rfl rfl (spec_LogOk_fn n.log (hok.2.1)) rfl (.cons (.agg (.cons (.r .r) (.cons (.r .r) (.cons (.r .r) (.nil))))) (.nil)) fun g7 => ?_
    refine RW.k XK 153 3 rfl ?_
    (conv=>whnf);refine ⟨rfl,?_⟩
    refine RW.gv rfl rfl rfl rfl (fun h8 => V.fieldR rfl rfl rfl rfl (by decide) rfl (Nat.le_of_ble_eq_true rfl)) (fun h8 => ?_) (fun h8 => ?_)
    ·skip
     refine RW.k XK 153 1 rfl ?_
     (conv=>whnf);refine ⟨rfl,?_⟩
     refine RW.gcall rfl rfl rfl rfl (spec_l01In_fn n.term_ 0 100000) rfl (.cons (.one (.r .r)) (.cons (.one (.r .r)) (.cons (.one (.r .r)) (.nil)))) fun g9 => ?_
     refine RW.k XK 153 3 rfl ?_
     (conv=>whnf);refine ⟨rfl,?_⟩
     refine RW.gv rfl rfl rfl rfl (fun h10 => V.fieldR rfl rfl rfl rfl (by decide) rfl (Nat.le_of_ble_eq_true rfl)) (fun h10 => ?_) (fun h10 => ?_)
     ·skip
      refine RW.k XK 153 1 rfl ?_
      (conv=>whnf);refine ⟨rfl,?_⟩
      refine RW.gcall rfl rfl rfl rfl (spec_l01In_fn n.vote 0 4) rfl (.cons (.one (.r .r)) (.cons (.one (.r .r)) (.cons (.one (.r .r)) (.nil)))) fun g11 => ?_
      refine RW.k XK 153 3 rfl ?_
      (conv=>whnf);refine ⟨rfl,?_⟩
      refine RW.gv rfl rfl rfl rfl (fun h12 => V.fieldR rfl rfl rfl rfl (by decide) rfl (Nat.le_of_ble_eq_true rfl)) (fun h12 => ?_) (fun h12 => ?_)
      ·skip
       refine RW.k XK 153 1 rfl ?_
       (conv=>whnf);refine ⟨rfl,?_⟩
       refine RW.gcall rfl rfl rfl rfl (spec_l01In_fn n.lead 0 4) rfl (.cons (.one (.r .r)) (.cons (.one (.r .r)) (.cons (.one (.r .r)) (.nil)))) fun g13 => ?_
       refine RW.k XK 153 3 rfl ?_
       (conv=>whnf);refine ⟨rfl,?_⟩
       refine RW.gv rfl rfl rfl rfl (fun h14 => V.fieldR rfl rfl rfl rfl (by decide) rfl (Nat.le_of_ble_eq_true rfl)) (fun h14 => ?_) (fun h14 => ?_)
       ·skip
        refine RW.k XK 153 1 rfl ?_
        (conv=>whnf);refine ⟨rfl,?_⟩
        refine RW.gcall rfl rfl rfl rfl (spec_l01In_fn n.role 0 2) rfl (.cons (.one (.r .r)) (.cons (.one (.r .r)) (.cons (.one (.r .r)) (.nil)))) fun g15 => ?_
        refine RW.k XK 153 2 rfl ?_
        (conv=>whnf);refine ⟨rfl,?_⟩
        refine RW.nil ?_
        exact ⟨_, by first | rfl | (simp_all; done) | (simp_all; omega) | grind, rfl, Le.of rfl⟩
       ·skip
        refine RW.k XK 153 4 rfl ?_
        (conv=>whnf);refine ⟨rfl,?_⟩
        refine RW.nil ?_
        exact ⟨_, by first | rfl | (simp_all; done) | (simp_all; omega) | grind, rfl, Le.of rfl⟩
      ·skip
       refine RW.k XK 153 10 rfl ?_
       (conv=>whnf);refine ⟨rfl,?_⟩
       refine RW.nil ?_
       exact ⟨_, by first | rfl | (simp_all; done) | (simp_all; omega) | grind, rfl, Le.of rfl⟩
     ·skip
      refine RW.k XK 153 16 rfl ?_
      (conv=>whnf);refine ⟨rfl,?_⟩
      refine RW.nil ?_
      exact ⟨_, by first | rfl | (simp_all; done) | (simp_all; omega) | grind, rfl, Le.of rfl⟩
    ·skip
     refine RW.k XK 153 22 rfl ?_
     (conv=>whnf);refine ⟨rfl,?_⟩
     refine RW.nil ?_
     exact ⟨_, by first | rfl | (simp_all; done) | (simp_all; omega) | grind, rfl, Le.of rfl⟩
   ·skip
    refine RW.k XK 153 28 rfl ?_
    (conv=>whnf);refine ⟨rfl,?_⟩
    refine RW.nil ?_
    exact ⟨_, by first | rfl | (simp_all; done) | (simp_all; omega) | grind, rfl, Le.of rfl⟩
  ·skip
   refine RW.k XK 153 34 rfl ?_
   (conv=>whnf);refine ⟨rfl,?_⟩
   refine RW.nil ?_
   exact ⟨_, by first | rfl | (simp_all; done) | (simp_all; omega) | grind, rfl, Le.of rfl⟩
 ·intro v2 hv16
  refine CW.cond rfl (fun h17 => ?_) (fun h17 => ?_)
  ·skip
   refine CW.k XK 153 1 [2] rfl ?_
   (conv=>whnf);refine ⟨rfl,?_⟩
   refine CW.ret ?_
   exact Post.one (RV.b rfl (by by_cases hr2 : inR n.role 0 2 = true; (first | (simp_all [nodeOk]; done) | grind [nodeOk]); rw [nodeOk_role hr2])) (AOs.a rfl AOs.e)
  ·skip
   refine CW.skip ?_
   refine CW.keep 153 [1] rfl ?_;(conv=>whnf);refine ⟨?_⟩
   refine CW.seq ?_
   refine CW.region ?_
   refine RW.k XK 153 2 rfl ?_
   (conv=>whnf);refine ⟨rfl,?_⟩
   refine RW.call rfl (spec_LogLast_fn n.log (hok.2.1)) rfl (.cons (.agg (.cons (.r .r) (.cons (.r .r) (.cons (.r .r) (.nil))))) (.nil)) fun g18 => ?_
   refine RW.k XK 153 5 rfl ?_
   (conv=>whnf);refine ⟨rfl,?_⟩
   refine RW.nil ?_
   refine CW.keep 153 [1,3,4] rfl ?_;(conv=>whnf);refine ⟨?_⟩
   refine CW.seq ?_
   refine CW.seqJ 153 (fun (v19 : Bool) => [(1, .rp (Node.c n)), (3, I ((logLast n.log).1)), (96, Bo v19)]) (fun v19 => v19 = (((((decide (n.term_ < ((logLast n.log).2)) || (!(inR n.commit n.log.start ((logLast n.log).1)))) || (!(inR n.clock 0 20))) || (!(inR n.limit 1 20))) || (!(riseOk 1 4 none n.votes))) || (decide ((n.votes.length : Int) > 0) && (n.role != 1)))) ?_ ?_
   ·refine CW.region ?_
    refine RW.k XK 153 5 rfl ?_
    (conv=>whnf);refine ⟨rfl,?_⟩
    refine RW.gv rfl rfl rfl rfl (fun h20 => V.fieldR rfl rfl rfl rfl (by decide) rfl (Nat.le_of_ble_eq_true rfl)) (fun h20 => ?_) (fun h20 => ?_)
    ·skip
     refine RW.k XK 153 5 rfl ?_
     (conv=>whnf);refine ⟨rfl,?_⟩
     refine RW.gcall rfl rfl rfl rfl (spec_l01In_fn n.commit n.log.start ((logLast n.log).1)) rfl (.cons (.one (.r .r)) (.cons (.one (.r .r)) (.cons (.one (.r .r)) (.nil)))) fun g21 => ?_
     refine RW.k XK 153 3 rfl ?_
     (conv=>whnf);refine ⟨rfl,?_⟩
     refine RW.gv rfl rfl rfl rfl (fun h22 => V.fieldR rfl rfl rfl rfl (by decide) rfl (Nat.le_of_ble_eq_true rfl)) (fun h22 => ?_) (fun h22 => ?_)
     ·skip
      refine RW.k XK 153 1 rfl ?_
      (conv=>whnf);refine ⟨rfl,?_⟩
      refine RW.gcall rfl rfl rfl rfl (spec_l01In_fn n.clock 0 20) rfl (.cons (.one (.r .r)) (.cons (.one (.r .r)) (.cons (.one (.r .r)) (.nil)))) fun g23 => ?_
      refine RW.k XK 153 3 rfl ?_
      (conv=>whnf);refine ⟨rfl,?_⟩
      refine RW.gv rfl rfl rfl rfl (fun h24 => V.fieldR rfl rfl rfl rfl (by decide) rfl (Nat.le_of_ble_eq_true rfl)) (fun h24 => ?_) (fun h24 => ?_)
      ·skip
       refine RW.k XK 153 1 rfl ?_
       (conv=>whnf);refine ⟨rfl,?_⟩
       refine RW.gcall rfl rfl rfl rfl (spec_l01In_fn n.limit 1 20) rfl (.cons (.one (.r .r)) (.cons (.one (.r .r)) (.cons (.one (.r .r)) (.nil)))) fun g25 => ?_
       refine RW.k XK 153 3 rfl ?_
       (conv=>whnf);refine ⟨rfl,?_⟩
       refine RW.gv rfl rfl rfl rfl (fun h26 => V.fieldR rfl rfl rfl rfl (by decide) rfl (Nat.le_of_ble_eq_true rfl)) (fun h26 => ?_) (fun h26 => ?_)
       ·skip
        refine RW.k XK 153 1 rfl ?_
        (conv=>whnf);refine ⟨rfl,?_⟩
        refine RW.gcall rfl rfl rfl rfl (spec_l05Rise_fn n.votes 1 4) rfl (.cons (.one (.r .r)) (.cons (.one (.r .r)) (.cons (.one (.r .r)) (.nil)))) fun g27 => ?_
        refine RW.k XK 153 3 rfl ?_
        (conv=>whnf);refine ⟨rfl,?_⟩
        refine RW.gv rfl rfl rfl rfl (fun h28 => V.fieldR rfl rfl rfl rfl (by decide) rfl (Nat.le_of_ble_eq_true rfl)) (fun h28 => ?_) (fun h28 => ?_)
        ·skip
         refine RW.k XK 153 4 rfl ?_
         (conv=>whnf);refine ⟨rfl,?_⟩
         refine RW.gv rfl rfl rfl rfl (fun h29 => V.fieldR rfl rfl rfl rfl (by decide) rfl (Nat.le_of_ble_eq_true rfl)) (fun h29 => ?_) (fun h29 => ?_)
         ·skip
          refine RW.k XK 153 4 rfl ?_
          (conv=>whnf);refine ⟨rfl,?_⟩
          refine RW.nil ?_
          exact ⟨_, by first | rfl | (simp_all; done) | (simp_all; omega) | grind, rfl, Le.of rfl⟩
         ·skip
          refine RW.k XK 153 4 rfl ?_
          (conv=>whnf);refine ⟨rfl,?_⟩
          refine RW.nil ?_
          exact ⟨_, by first | rfl | (simp_all; done) | (simp_all; omega) | grind, rfl, Le.of rfl⟩
        ·skip
         refine RW.k XK 153 9 rfl ?_
         (conv=>whnf);refine ⟨rfl,?_⟩
         refine RW.nil ?_
         exact ⟨_, by first | rfl | (simp_all; done) | (simp_all; omega) | grind, rfl, Le.of rfl⟩
       ·skip
        refine RW.k XK 153 15 rfl ?_
        (conv=>whnf);refine ⟨rfl,?_⟩
        refine RW.nil ?_
        exact ⟨_, by first | rfl | (simp_all; done) | (simp_all; omega) | grind, rfl, Le.of rfl⟩
      ·skip
       refine RW.k XK 153 21 rfl ?_
       (conv=>whnf);refine ⟨rfl,?_⟩
       refine RW.nil ?_
       exact ⟨_, by first | rfl | (simp_all; done) | (simp_all; omega) | grind, rfl, Le.of rfl⟩
     ·skip
      refine RW.k XK 153 27 rfl ?_
      (conv=>whnf);refine ⟨rfl,?_⟩
      refine RW.nil ?_
      exact ⟨_, by first | rfl | (simp_all; done) | (simp_all; omega) | grind, rfl, Le.of rfl⟩
    ·skip
     refine RW.k XK 153 37 rfl ?_
     (conv=>whnf);refine ⟨rfl,?_⟩
     refine RW.nil ?_
     exact ⟨_, by first | rfl | (simp_all; done) | (simp_all; omega) | grind, rfl, Le.of rfl⟩
   ·intro v19 hv30
    refine CW.cond rfl (fun h31 => ?_) (fun h31 => ?_)
    ·skip
     refine CW.k XK 153 1 [2] rfl ?_
     (conv=>whnf);refine ⟨rfl,?_⟩
     refine CW.ret ?_
     exact Post.one (RV.b rfl (by first | (simp_all [nodeOk]; done) | grind [nodeOk])) (AOs.a rfl AOs.e)
    ·skip
     refine CW.skip ?_
     refine CW.keep 153 [1,3] rfl ?_;(conv=>whnf);refine ⟨?_⟩
     refine CW.seq ?_
     refine CW.region ?_
     refine RW.build0 cI rfl rfl rfl rfl rfl fun X32 => ?_
     refine RW.assignMove rfl rfl rfl (by decide) (Nat.le_of_ble_eq_true rfl) (Nat.le_of_ble_eq_true rfl) ?_
     refine RW.nil ?_
     refine CW.keep 153 [1,3,5] rfl ?_;(conv=>whnf);refine ⟨?_⟩
     refine CW.seq ?_
     refine CW.k XK 153 1 [1,3,5,100] rfl ?_
     (conv=>whnf);refine ⟨rfl,?_⟩
     refine CW.cond rfl (fun h33 => ?_) (fun h33 => ?_)
     ·skip
      refine CW.anyR2 (fc := []) (L0 := [(1, .rp (Node.c n)), (3, I ((logLast n.log).1))]) 153 (fun (zz : (Nat → Nat → Value) × (Nat → Nat → Value)) => match zz with | (go34_1_1, go34_4_1) => [(5, .w (sl 1 cI (others (confAtS n 1000060) n.id)) (go34_4_1 0 0))]) (fun all hall f hf b0 hb K hK => ?_) ?_
      ·skip
       have ro34_3 : ∀ B, ∀ (go34_1_1 : Nat → Nat → Value), ∀ (go34_4_1 : Nat → Nat → Value), RA f E B all 0 (bt 6 63) ⟨153, [(5, .w (sl 1 cI (others (confAtS n 1000060) n.id)) (go34_4_1 0 0))] ++ b0⟩ K := by
        intro B go34_1_1 go34_4_1
        exact RA.of2 hall hf hb (RA.finH (Tell.of rfl) (by kernel_rfl) (hK (go34_1_1, go34_4_1) _ rfl (Le.of rfl)))
       have ro34_2 : ∀ B, ∀ (go34_1_1 : Nat → Nat → Value), ∀ (go34_4_1 : Nat → Nat → Value), RA f E B all 1 (bt 6 31) ⟨153, [(5, .w (sl 1 cI ([] : List Int)) X32), (105, .w (sl 1 cI (others (confAtS n 1000060) n.id)) (go34_4_1 0 0))] ++ b0⟩ K := by
        intro B go34_1_1 go34_4_1
        refine RA.of2 hall hf hb (RA.stepH (L := [5]) (Tell.of rfl) (by kernel_rfl) (by simp) (RA.each ?_ (RA.each0)))
        ·skip
         refine RO.assignMove rfl rfl rfl rfl rfl (by decide) (Nat.le_of_ble_eq_true rfl) (Nat.le_of_ble_eq_true rfl) ?_
         exact RA.to2 hall hf hb (ro34_3 B go34_1_1 go34_4_1) rfl rfl (by kernel_rfl)
       have ro34_1 : ∀ B, ∀ (go34_1_1 : Nat → Nat → Value), RA f E B all 2 (bt 6 15) ⟨153, [(5, .w (sl 1 cI ([] : List Int)) X32), (102, .w (sl 1 cI (confAtS n 1000060)) (go34_1_1 0 0)), (104, I n.id)] ++ b0⟩ K := by
        intro B go34_1_1
        refine RA.of2 hall hf hb (RA.stepH (L := [4]) (Tell.of rfl) (by kernel_rfl) (by simp) (RA.each ?_ (RA.each0)))
        ·skip
         refine RO.callOwn rfl rfl (spec_l18Others_fn (confAtS n 1000060) n.id (confAtS_len hok _)) rfl (.cons (.one (.r (.al (k := none) (i := 102) (sz := 1) (V := (go34_1_1 0 0)) rfl rfl nofun))) (.cons (.one (.r .r)) (.nil))) rfl rfl fun go34_4_1 => ?_
         exact RA.to2 hall hf hb (ro34_2 B go34_1_1 go34_4_1) rfl rfl (by kernel_rfl)
       have ro34_0 : ∀ B, RA f E B all 3 (bt 6 13) ⟨153, [(5, .w (sl 1 cI ([] : List Int)) X32), (101, .agg ((Node.c n).map .r)), (104, I n.id)] ++ b0⟩ K := by
        intro B
        refine RA.of2 hall hf hb (RA.stepH (L := [1]) (Tell.of rfl) (by kernel_rfl) (by simp) (RA.each ?_ (RA.each0)))
        ·skip
         refine RO.call rfl rfl (spec_ConfOf_fn n hok) rfl (.cons (.agg (.cons (.r .r) (.cons (.r .r) (.cons (.r .r) (.cons (.r .r) (.cons (.r .r) (.cons (.r .r) (.cons (.r .r) (.cons (.r .r) (.cons (.r .r) (.cons (.r .r) (.cons (.r .r) (.cons (.r .r) (.cons (.r .r) (.cons (.r .r) (.nil)))))))))))))))) (.nil)) rfl fun go34_1_1 => ?_
         exact RA.to2 hall hf hb (ro34_1 B go34_1_1) rfl rfl (by kernel_rfl)
       refine RA.start (by kernel_rfl) (by kernel_rfl) (m := 6) (ls' := (bt 6 0)) ?_
       refine RA.fr XK 153 3 [0,2,3] (bt 6 13) rfl rfl (by kernel_rfl) (Tell.of rfl) ?_
       (conv=>whnf);refine ⟨rfl,fun B=>?_⟩
       exact RA.to2 hall hf hb (ro34_0 B) rfl rfl (by kernel_rfl)
      ·rintro ⟨go34_1_1, go34_4_1⟩
       refine CW.keep 153 [1,3,5] rfl ?_;(conv=>whnf);refine ⟨?_⟩
       refine CW.seq ?_
       refine CW.k XK 153 1 [1,3,5,111] rfl ?_
       (conv=>whnf);refine ⟨rfl,?_⟩
       refine CW.cond rfl (fun h35 => ?_) (fun h35 => ?_)
       ·skip
        refine CW.k XK 153 1 [2] rfl ?_
        (conv=>whnf);refine ⟨rfl,?_⟩
        refine CW.ret ?_
        exact Post.one (RV.b rfl (by have hl : logOk n.log = true := (by first | (simp_all; done) | grind); have hro : n.role = 0 ∨ n.role = 1 ∨ n.role = 2 := role_of (by first | (simp_all; done) | grind); have hne := peersOkB_ne hl; have heq := peersOkB_eq hl; grind [nodeOk])) (AOs.a rfl AOs.e)
       ·skip
        refine CW.skip ?_
        refine CW.keep 153 [1,3,5] rfl ?_;(conv=>whnf);refine ⟨?_⟩
        refine CW.seq ?_
        refine CW.k XK 153 1 [1,3,5,6] rfl ?_
        (conv=>whnf);refine ⟨rfl,?_⟩
        refine CW.block ?_
        refine CW.loopI 153 (fun (i : Nat) => [(1, .rp (Node.c n)), (3, I ((logLast n.log).1)), (5, .w (sl 1 cI (others (confAtS n 1000060) n.id)) (go34_4_1 0 0)), (6, I (i : Int))]) (fun (i : Nat) => i ≤ (others (confAtS n 1000060) n.id).length ∧ pkGo (logLast n.log).1 (n.peers.drop i) ((others (confAtS n 1000060) n.id).drop i) = pkGo (logLast n.log).1 n.peers (others (confAtS n 1000060) n.id)) (fun (i : Nat) => (others (confAtS n 1000060) n.id).length - i) 0 rfl (Le.c rfl <| Le.c rfl <| Le.c rfl <| Le.c rfl <| Le.e) ⟨by omega, by simp⟩ ?_
        rintro i ⟨hb, hr⟩
        have hlen : n.peers.length = (others (confAtS n 1000060) n.id).length := by first | (simp_all; done) | grind
        refine CW.seq ?_
        refine CW.k XK 153 1 [1,3,5,6,115] rfl ?_
        (conv=>whnf);refine ⟨rfl,?_⟩
        refine CW.cond rfl (fun h36 => ?_) (fun h36 => ?_)
        ·skip
         have hii : i < (others (confAtS n 1000060) n.id).length := by have := h36; simp at this; first | exact this | omega | (simp; done) | (simp; omega)
         obtain ⟨ei, hei⟩ : ∃ e, (others (confAtS n 1000060) n.id)[i]? = some e := ⟨_, List.getElem?_eq_getElem hii⟩
         have hdi := drop_get hei
         have hip : i < n.peers.length := by have := hlen; omega
         obtain ⟨ep, hep⟩ : ∃ e, n.peers[i]? = some e := ⟨_, List.getElem?_eq_getElem hip⟩
         have hdp := drop_get hep
         refine CW.skip ?_
         refine CW.keep 153 [1,3,5,6] rfl ?_;(conv=>whnf);refine ⟨?_⟩
         refine CW.seq ?_
         refine CW.block ?_
         refine CW.seq ?_
         refine CW.region ?_
         refine RW.k XK 153 3 rfl ?_
         (conv=>whnf);refine ⟨rfl,?_⟩
         refine RW.v rfl (V.indexS rfl rfl rfl rfl rfl rfl Peer.len hep) ?_
         refine RW.k XK 153 3 rfl ?_
         (conv=>whnf);intro b37;(conv=>whnf);refine ⟨rfl,?_⟩
         refine RW.freezeB (ts := (Peer.c ep)) 7 rfl (DRd.r (DRd.r (DRd.r (DRd.r DRd.e)))) ?_
         refine RW.nil ?_
         refine CW.keep 153 [1,3,5,6,7] rfl ?_;(conv=>whnf);refine ⟨?_⟩
         refine CW.seqJ 153 (fun (v38 : Bool) => [(1, .rp (Node.c n)), (3, I ((logLast n.log).1)), (5, .w (sl 1 cI (others (confAtS n 1000060) n.id)) (go34_4_1 0 0)), (6, I (i : Int)), (152, Bo v38)]) (fun v38 => v38 = ((((ep.id != ei) || (!(inR ep.next 1 (IntKind.i64.wrap (((logLast n.log).1) + 1))))) || (!(inR ep.match_ 0 (IntKind.i64.wrap (ep.next - 1))))) || (!(inR ep.sent 0 20000)))) ?_ ?_
         ·refine CW.drawn (by kernel_rfl) ?_
          refine RQ.k XK 153 4 rfl ?_
          (conv=>whnf);refine ⟨rfl,?_⟩
          refine RQ.v rfl (V.indexW rfl rfl rfl rfl rfl rfl rfl hii) ?_
          refine RQ.v rfl (V.loadF (m := i) (off := 0) rfl rfl (.inl rfl) rfl rfl cI.len hei (by decide) rfl) ?_
          refine RQ.k XK 153 2 rfl ?_
          (conv=>whnf);refine ⟨rfl,?_⟩
          refine RQ.gv rfl rfl rfl rfl (fun h39 => V.fieldR rfl rfl rfl rfl (by decide) rfl (Nat.le_of_ble_eq_true rfl)) (fun h39 => ?_) (fun h39 => ?_)
          ·skip
           refine RQ.k XK 153 3 rfl ?_
           (conv=>whnf);refine ⟨rfl,?_⟩
           refine RQ.guardT rfl rfl rfl rfl (QOK.call (spec_l01In_fn ep.next 1 (IntKind.i64.wrap (((logLast n.log).1) + 1))) rfl (.cons (.one (.r .r)) (.cons (.one (.r .r)) (.cons (.one (.r .r)) (.nil)))) ?_)
           refine RQ.k XK 153 3 rfl ?_
           (conv=>whnf);refine ⟨rfl,?_⟩
           refine RQ.gv rfl rfl rfl rfl (fun h40 => V.fieldR rfl rfl rfl rfl (by decide) rfl (Nat.le_of_ble_eq_true rfl)) (fun h40 => ?_) (fun h40 => ?_)
           ·skip
            refine RQ.k XK 153 4 rfl ?_
            (conv=>whnf);refine ⟨rfl,?_⟩
            refine RQ.guardT rfl rfl rfl rfl (QOK.call (spec_l01In_fn ep.match_ 0 (IntKind.i64.wrap (ep.next - 1))) rfl (.cons (.one (.r .r)) (.cons (.one (.r .r)) (.cons (.one (.r .r)) (.nil)))) ?_)
            refine RQ.k XK 153 3 rfl ?_
            (conv=>whnf);refine ⟨rfl,?_⟩
            refine RQ.gv rfl rfl rfl rfl (fun h41 => V.fieldR rfl rfl rfl rfl (by decide) rfl (Nat.le_of_ble_eq_true rfl)) (fun h41 => ?_) (fun h41 => ?_)
            ·skip
             refine RQ.k XK 153 1 rfl ?_
             (conv=>whnf);refine ⟨rfl,?_⟩
             refine RQ.guardT rfl rfl rfl rfl (QOK.call (spec_l01In_fn ep.sent 0 20000) rfl (.cons (.one (.r .r)) (.cons (.one (.r .r)) (.cons (.one (.r .r)) (.nil)))) ?_)
             refine RQ.k XK 153 2 rfl ?_
             (conv=>whnf);refine ⟨rfl,?_⟩
             refine RQ.nil ?_
             exact ⟨_, by first | rfl | (simp_all; done) | (simp_all; omega) | grind, rfl, Le.of rfl⟩
            ·skip
             refine RQ.k XK 153 4 rfl ?_
             (conv=>whnf);refine ⟨rfl,?_⟩
             refine RQ.nil ?_
             exact ⟨_, by first | rfl | (simp_all; done) | (simp_all; omega) | grind, rfl, Le.of rfl⟩
           ·skip
            refine RQ.k XK 153 13 rfl ?_
            (conv=>whnf);refine ⟨rfl,?_⟩
            refine RQ.nil ?_
            exact ⟨_, by first | rfl | (simp_all; done) | (simp_all; omega) | grind, rfl, Le.of rfl⟩
          ·skip
           refine RQ.k XK 153 21 rfl ?_
           (conv=>whnf);refine ⟨rfl,?_⟩
           refine RQ.nil ?_
           exact ⟨_, by first | rfl | (simp_all; done) | (simp_all; omega) | grind, rfl, Le.of rfl⟩
         ·intro v38 hv42
          refine CW.cond rfl (fun h43 => ?_) (fun h43 => ?_)
          ·skip
           refine CW.k XK 153 1 [2] rfl ?_
           (conv=>whnf);refine ⟨rfl,?_⟩
           refine CW.ret ?_
           exact Post.one (RV.b rfl (by have hl : logOk n.log = true := (by first | (simp_all; done) | grind); have hro : n.role = 0 ∨ n.role = 1 ∨ n.role = 2 := role_of (by first | (simp_all; done) | grind); have hne := peersOkB_ne hl; have heq := peersOkB_eq hl; have hf : pkGo (logLast n.log).1 n.peers (others (confAtS n 1000060) n.id) = false := (by rw [← hr, hdi, hdp, pkGo]; first | (simp_all [pkOk]; done) | grind [pkOk]); clear hr; grind [nodeOk])) (AOs.a rfl AOs.e)
          ·skip
           refine CW.skip ?_
           refine CW.keep 153 [1,3,5,6] rfl ?_;(conv=>whnf);refine ⟨?_⟩
           refine CW.region ?_
           refine RW.k XK 153 1 rfl ?_
           (conv=>whnf);refine ⟨rfl,?_⟩
           refine RW.v rfl (V.inc rfl rfl rfl hii (by have := others_len (confAtS n 1000060) n.id; have := confAtS_len hok 1000060; simp only [maxLen]; first | omega | (simp; done))) ?_
           refine RW.k XK 153 1 rfl ?_
           (conv=>whnf);refine ⟨rfl,?_⟩
           refine RW.nil ?_
           exact ⟨i + 1, by omega, ⟨by omega, by rw [← hr, hdi, hdp, pkGo]; first | (simp_all [pkOk]; done) | grind [pkOk]⟩, rfl, Le.c rfl <| Le.c rfl <| Le.c rfl <| Le.c rfl <| Le.e⟩
        ·skip
         have hii : (others (confAtS n 1000060) n.id).length ≤ i := by have := h36; simp at this; first | exact this | omega | (simp; done) | (simp; omega)
         have hdi : (others (confAtS n 1000060) n.id).drop i = [] := List.drop_eq_nil_of_le hii
         refine CW.exit ?_
         refine CW.keep 153 [] rfl ?_;(conv=>whnf);refine ⟨?_⟩
         refine CW.k XK 153 1 [2] rfl ?_
         (conv=>whnf);refine ⟨rfl,?_⟩
         refine CW.ret ?_
         exact Post.one (RV.b rfl (by have hl : logOk n.log = true := (by first | (simp_all; done) | grind); have hro : n.role = 0 ∨ n.role = 1 ∨ n.role = 2 := role_of (by first | (simp_all; done) | grind); have hne := peersOkB_ne hl; have heq := peersOkB_eq hl; have hf : pkGo (logLast n.log).1 n.peers (others (confAtS n 1000060) n.id) = true := (by rw [← hr, hdi, List.drop_eq_nil_of_le (by omega)]; rfl); clear hr; grind [nodeOk])) (AOs.a rfl AOs.e)
     ·skip
      refine CW.skip ?_
      refine CW.keep 153 [1,3,5] rfl ?_;(conv=>whnf);refine ⟨?_⟩
      refine CW.seq ?_
      refine CW.k XK 153 1 [1,3,5,111] rfl ?_
      (conv=>whnf);refine ⟨rfl,?_⟩
      refine CW.cond rfl (fun h44 => ?_) (fun h44 => ?_)
      ·skip
       refine CW.k XK 153 1 [2] rfl ?_
       (conv=>whnf);refine ⟨rfl,?_⟩
       refine CW.ret ?_
       exact Post.one (RV.b rfl (by have hl : logOk n.log = true := (by first | (simp_all; done) | grind); have hro : n.role = 0 ∨ n.role = 1 ∨ n.role = 2 := role_of (by first | (simp_all; done) | grind); have hne := peersOkB_ne hl; have heq := peersOkB_eq hl; grind [nodeOk])) (AOs.a rfl AOs.e)
      ·skip
       refine CW.skip ?_
       refine CW.keep 153 [1,3,5] rfl ?_;(conv=>whnf);refine ⟨?_⟩
       refine CW.seq ?_
       refine CW.k XK 153 1 [1,3,5,6] rfl ?_
       (conv=>whnf);refine ⟨rfl,?_⟩
       refine CW.block ?_
       refine CW.loopI 153 (fun (i : Nat) => [(1, .rp (Node.c n)), (3, I ((logLast n.log).1)), (5, .w (sl 1 cI ([] : List Int)) X32), (6, I (i : Int))]) (fun (i : Nat) => i ≤ ([] : List Int).length ∧ pkGo (logLast n.log).1 (n.peers.drop i) (([] : List Int).drop i) = pkGo (logLast n.log).1 n.peers ([] : List Int)) (fun (i : Nat) => ([] : List Int).length - i) 0 rfl (Le.c rfl <| Le.c rfl <| Le.c rfl <| Le.c rfl <| Le.e) ⟨by omega, by simp⟩ ?_
       rintro i ⟨hb, hr⟩
       have hlen : n.peers.length = ([] : List Int).length := by first | (simp_all; done) | grind
       refine CW.seq ?_
       refine CW.k XK 153 1 [1,3,5,6,115] rfl ?_
       (conv=>whnf);refine ⟨rfl,?_⟩
       refine CW.cond rfl (fun h45 => ?_) (fun h45 => ?_)
       ·skip
        have hii : i < ([] : List Int).length := by have := h45; simp at this; first | exact this | omega | (simp; done) | (simp; omega)
        obtain ⟨ei, hei⟩ : ∃ e, ([] : List Int)[i]? = some e := ⟨_, List.getElem?_eq_getElem hii⟩
        have hdi := drop_get hei
        have hip : i < n.peers.length := by have := hlen; omega
        obtain ⟨ep, hep⟩ : ∃ e, n.peers[i]? = some e := ⟨_, List.getElem?_eq_getElem hip⟩
        have hdp := drop_get hep
        refine CW.skip ?_
        refine CW.keep 153 [1,3,5,6] rfl ?_;(conv=>whnf);refine ⟨?_⟩
        refine CW.seq ?_
        refine CW.block ?_
        refine CW.seq ?_
        refine CW.region ?_
        refine RW.k XK 153 3 rfl ?_
        (conv=>whnf);refine ⟨rfl,?_⟩
        refine RW.v rfl (V.indexS rfl rfl rfl rfl rfl rfl Peer.len hep) ?_
        refine RW.k XK 153 3 rfl ?_
        (conv=>whnf);intro b46;(conv=>whnf);refine ⟨rfl,?_⟩
        refine RW.freezeB (ts := (Peer.c ep)) 7 rfl (DRd.r (DRd.r (DRd.r (DRd.r DRd.e)))) ?_
        refine RW.nil ?_
        refine CW.keep 153 [1,3,5,6,7] rfl ?_;(conv=>whnf);refine ⟨?_⟩
        refine CW.seqJ 153 (fun (v47 : Bool) => [(1, .rp (Node.c n)), (3, I ((logLast n.log).1)), (5, .w (sl 1 cI ([] : List Int)) X32), (6, I (i : Int)), (152, Bo v47)]) (fun v47 => v47 = ((((ep.id != ei) || (!(inR ep.next 1 (IntKind.i64.wrap (((logLast n.log).1) + 1))))) || (!(inR ep.match_ 0 (IntKind.i64.wrap (ep.next - 1))))) || (!(inR ep.sent 0 20000)))) ?_ ?_
        ·refine CW.drawn (by kernel_rfl) ?_
         refine RQ.k XK 153 4 rfl ?_
         (conv=>whnf);refine ⟨rfl,?_⟩
         refine RQ.v rfl (V.indexW rfl rfl rfl rfl rfl rfl rfl hii) ?_
         refine RQ.v rfl (V.loadF (m := i) (off := 0) rfl rfl (.inl rfl) rfl rfl cI.len hei (by decide) rfl) ?_
         refine RQ.k XK 153 2 rfl ?_
         (conv=>whnf);refine ⟨rfl,?_⟩
         refine RQ.gv rfl rfl rfl rfl (fun h48 => V.fieldR rfl rfl rfl rfl (by decide) rfl (Nat.le_of_ble_eq_true rfl)) (fun h48 => ?_) (fun h48 => ?_)
         ·skip
          refine RQ.k XK 153 3 rfl ?_
          (conv=>whnf);refine ⟨rfl,?_⟩
          refine RQ.guardT rfl rfl rfl rfl (QOK.call (spec_l01In_fn ep.next 1 (IntKind.i64.wrap (((logLast n.log).1) + 1))) rfl (.cons (.one (.r .r)) (.cons (.one (.r .r)) (.cons (.one (.r .r)) (.nil)))) ?_)
          refine RQ.k XK 153 3 rfl ?_
          (conv=>whnf);refine ⟨rfl,?_⟩
          refine RQ.gv rfl rfl rfl rfl (fun h49 => V.fieldR rfl rfl rfl rfl (by decide) rfl (Nat.le_of_ble_eq_true rfl)) (fun h49 => ?_) (fun h49 => ?_)
          ·skip
           refine RQ.k XK 153 4 rfl ?_
           (conv=>whnf);refine ⟨rfl,?_⟩
           refine RQ.guardT rfl rfl rfl rfl (QOK.call (spec_l01In_fn ep.match_ 0 (IntKind.i64.wrap (ep.next - 1))) rfl (.cons (.one (.r .r)) (.cons (.one (.r .r)) (.cons (.one (.r .r)) (.nil)))) ?_)
           refine RQ.k XK 153 3 rfl ?_
           (conv=>whnf);refine ⟨rfl,?_⟩
           refine RQ.gv rfl rfl rfl rfl (fun h50 => V.fieldR rfl rfl rfl rfl (by decide) rfl (Nat.le_of_ble_eq_true rfl)) (fun h50 => ?_) (fun h50 => ?_)
           ·skip
            refine RQ.k XK 153 1 rfl ?_
            (conv=>whnf);refine ⟨rfl,?_⟩
            refine RQ.guardT rfl rfl rfl rfl (QOK.call (spec_l01In_fn ep.sent 0 20000) rfl (.cons (.one (.r .r)) (.cons (.one (.r .r)) (.cons (.one (.r .r)) (.nil)))) ?_)
            refine RQ.k XK 153 2 rfl ?_
            (conv=>whnf);refine ⟨rfl,?_⟩
            refine RQ.nil ?_
            exact ⟨_, by first | rfl | (simp_all; done) | (simp_all; omega) | grind, rfl, Le.of rfl⟩
           ·skip
            refine RQ.k XK 153 4 rfl ?_
            (conv=>whnf);refine ⟨rfl,?_⟩
            refine RQ.nil ?_
            exact ⟨_, by first | rfl | (simp_all; done) | (simp_all; omega) | grind, rfl, Le.of rfl⟩
          ·skip
           refine RQ.k XK 153 13 rfl ?_
           (conv=>whnf);refine ⟨rfl,?_⟩
           refine RQ.nil ?_
           exact ⟨_, by first | rfl | (simp_all; done) | (simp_all; omega) | grind, rfl, Le.of rfl⟩
         ·skip
          refine RQ.k XK 153 21 rfl ?_
          (conv=>whnf);refine ⟨rfl,?_⟩
          refine RQ.nil ?_
          exact ⟨_, by first | rfl | (simp_all; done) | (simp_all; omega) | grind, rfl, Le.of rfl⟩
        ·intro v47 hv51
         refine CW.cond rfl (fun h52 => ?_) (fun h52 => ?_)
         ·skip
          refine CW.k XK 153 1 [2] rfl ?_
          (conv=>whnf);refine ⟨rfl,?_⟩
          refine CW.ret ?_
          exact Post.one (RV.b rfl (by exfalso; simp at hii)) (AOs.a rfl AOs.e)
         ·skip
          refine CW.skip ?_
          refine CW.keep 153 [1,3,5,6] rfl ?_;(conv=>whnf);refine ⟨?_⟩
          refine CW.region ?_
          refine RW.k XK 153 1 rfl ?_
          (conv=>whnf);refine ⟨rfl,?_⟩
          refine RW.v rfl (V.inc rfl rfl rfl hii (by have := others_len (confAtS n 1000060) n.id; have := confAtS_len hok 1000060; simp only [maxLen]; first | omega | (simp; done))) ?_
          refine RW.k XK 153 1 rfl ?_
          (conv=>whnf);refine ⟨rfl,?_⟩
          refine RW.nil ?_
          exact ⟨i + 1, by omega, ⟨by omega, by rw [← hr, hdi, hdp, pkGo]; first | (simp_all [pkOk]; done) | grind [pkOk]⟩, rfl, Le.c rfl <| Le.c rfl <| Le.c rfl <| Le.c rfl <| Le.e⟩
       ·skip
        have hii : ([] : List Int).length ≤ i := by have := h45; simp at this; first | exact this | omega | (simp; done) | (simp; omega)
        have hdi : ([] : List Int).drop i = [] := List.drop_eq_nil_of_le hii
        refine CW.exit ?_
        refine CW.keep 153 [] rfl ?_;(conv=>whnf);refine ⟨?_⟩
        refine CW.k XK 153 1 [2] rfl ?_
        (conv=>whnf);refine ⟨rfl,?_⟩
        refine CW.ret ?_
        exact Post.one (RV.b rfl (by have hl : logOk n.log = true := (by first | (simp_all; done) | grind); have hro : n.role = 0 ∨ n.role = 1 ∨ n.role = 2 := role_of (by first | (simp_all; done) | grind); have hne := peersOkB_ne hl; have heq := peersOkB_eq hl; have hz : n.peers.length = 0 := (by simpa using hlen); exact (nodeOk_low (hv16.symm.trans h17) (hv30.symm.trans h31) h33 hz).symm)) (AOs.a rfl AOs.e)
set_option maxHeartbeats 4000000 in
theorem spec_l18Copy_fn (n : Node) (hok : okToNode n) : Eng.Fn E.P 81 [.agg ((Node.c n).map .r)] (.one (.agg ((Node.c n).map .w))) [.agg ((Node.c n).map .r)] := by
 refine Eng.Fn.intro (E := E) (rvs := [.cell 2 47]) Try.func81 rfl rfl rfl (by simp [outSlots, moved, rvSlot, sl]) ?_
 intro B g bo
 refine CW.keep 26 [0] rfl ?_;(conv=>whnf);refine ⟨?_⟩
 refine CW.k XK 26 1 [1,2] rfl ?_
 (conv=>whnf);intro b1;(conv=>whnf);intro b2;(conv=>whnf);refine ⟨rfl,?_⟩
 refine CW.seq ?_
 refine CW.region ?_
 refine RW.build0 cI rfl rfl rfl rfl rfl fun X3 => ?_
 refine RW.k XK 26 2 rfl ?_
 (conv=>whnf);refine ⟨rfl,?_⟩
 refine RW.appendSR (c := cI) (l1 := ([] : List Int)) (l2 := n.conf) rfl rfl rfl rfl rfl rfl rfl rfl .r (by decide) (Nat.le_of_ble_eq_true rfl) cI.len (fun _ => rfl) rfl (by have h1 := hok.1.1; have h2 := hok.2.1.1; have h3 := hok.2.2.1.1; have h4 := hok.2.2.2.1; simp only [maxLen, List.length_nil]; omega) (by have h1 := hok.1.1; have h2 := hok.2.1.1; have h3 := hok.2.2.1.1; have h4 := hok.2.2.2.1; simp only [maxLen, List.length_nil]; omega) fun X4 => ?_
 refine RW.k XK 26 2 rfl ?_
 (conv=>whnf);refine ⟨rfl,?_⟩
 refine RW.keep 26 [1,2,6] rfl ?_;(conv=>whnf);refine ⟨?_⟩
 refine RW.pullT (k := 1) (l := 6) (j := 5) 1 6 5 rfl rfl rfl (by decide) rfl rfl rfl ?_
 refine RW.keep 26 [1,2] rfl ?_;(conv=>whnf);refine ⟨?_⟩
 refine RW.nil ?_
 refine CW.keep 26 [1,2] rfl ?_;(conv=>whnf);refine ⟨?_⟩
 refine CW.seq ?_
 refine CW.region ?_
 refine RW.build0 Entry.c rfl rfl rfl rfl rfl fun X5 => ?_
 refine RW.k XK 26 3 rfl ?_
 (conv=>whnf);refine ⟨rfl,?_⟩
 refine RW.appendSR (c := Entry.c) (l1 := ([] : List Entry)) (l2 := n.log.entries) rfl rfl rfl rfl rfl rfl rfl rfl .r (by decide) (Nat.le_of_ble_eq_true rfl) Entry.len (fun _ => rfl) rfl (by have h1 := hok.1.1; have h2 := hok.2.1.1; have h3 := hok.2.2.1.1; have h4 := hok.2.2.2.1; simp only [maxLen, List.length_nil]; omega) (by have h1 := hok.1.1; have h2 := hok.2.1.1; have h3 := hok.2.2.1.1; have h4 := hok.2.2.2.1; simp only [maxLen, List.length_nil]; omega) fun X6 => ?_
 refine RW.k XK 26 3 rfl ?_
 (conv=>whnf);refine ⟨rfl,?_⟩
 refine RW.keep 26 [1,2,12] rfl ?_;(conv=>whnf);refine ⟨?_⟩
 refine RW.pullT (k := 1) (l := 12) (j := 8) 1 12 8 rfl rfl rfl (by decide) rfl rfl rfl ?_
 refine RW.keep 26 [1,2] rfl ?_;(conv=>whnf);refine ⟨?_⟩
 refine RW.nil ?_
 refine CW.keep 26 [1,2] rfl ?_;(conv=>whnf);refine ⟨?_⟩
 refine CW.seq ?_
 refine CW.region ?_
 refine RW.build0 cI rfl rfl rfl rfl rfl fun X7 => ?_
 refine RW.k XK 26 2 rfl ?_
 (conv=>whnf);refine ⟨rfl,?_⟩
 refine RW.appendSR (c := cI) (l1 := ([] : List Int)) (l2 := n.votes) rfl rfl rfl rfl rfl rfl rfl rfl .r (by decide) (Nat.le_of_ble_eq_true rfl) cI.len (fun _ => rfl) rfl (by have h1 := hok.1.1; have h2 := hok.2.1.1; have h3 := hok.2.2.1.1; have h4 := hok.2.2.2.1; simp only [maxLen, List.length_nil]; omega) (by have h1 := hok.1.1; have h2 := hok.2.1.1; have h3 := hok.2.2.1.1; have h4 := hok.2.2.2.1; simp only [maxLen, List.length_nil]; omega) fun X8 => ?_
 refine RW.k XK 26 2 rfl ?_
 (conv=>whnf);refine ⟨rfl,?_⟩
 refine RW.keep 26 [1,2,18] rfl ?_;(conv=>whnf);refine ⟨?_⟩
 refine RW.pullT (k := 1) (l := 18) (j := 12) 1 18 12 rfl rfl rfl (by decide) rfl rfl rfl ?_
 refine RW.keep 26 [1,2] rfl ?_;(conv=>whnf);refine ⟨?_⟩
 refine RW.nil ?_
 refine CW.keep 26 [1,2] rfl ?_;(conv=>whnf);refine ⟨?_⟩
 refine CW.seq ?_
 refine CW.region ?_
 refine RW.build0 Peer.c rfl rfl rfl rfl rfl fun X9 => ?_
 refine RW.k XK 26 2 rfl ?_
 (conv=>whnf);refine ⟨rfl,?_⟩
 refine RW.appendSR (c := Peer.c) (l1 := ([] : List Peer)) (l2 := n.peers) rfl rfl rfl rfl rfl rfl rfl rfl .r (by decide) (Nat.le_of_ble_eq_true rfl) Peer.len (fun _ => rfl) rfl (by have h1 := hok.1.1; have h2 := hok.2.1.1; have h3 := hok.2.2.1.1; have h4 := hok.2.2.2.1; simp only [maxLen, List.length_nil]; omega) (by have h1 := hok.1.1; have h2 := hok.2.1.1; have h3 := hok.2.2.1.1; have h4 := hok.2.2.2.1; simp only [maxLen, List.length_nil]; omega) fun X10 => ?_
 refine RW.k XK 26 2 rfl ?_
 (conv=>whnf);refine ⟨rfl,?_⟩
 refine RW.keep 26 [1,2,23] rfl ?_;(conv=>whnf);refine ⟨?_⟩
 refine RW.pullT (k := 1) (l := 23) (j := 13) 1 23 13 rfl rfl rfl (by decide) rfl rfl rfl ?_
 refine RW.keep 26 [1,2] rfl ?_;(conv=>whnf);refine ⟨?_⟩
 refine RW.nil ?_
 refine CW.keep 26 [1,2] rfl ?_;(conv=>whnf);refine ⟨?_⟩
 refine CW.seq ?_
 refine CW.region ?_
 refine RW.k XK 26 2 rfl ?_
 (conv=>whnf);refine ⟨rfl,?_⟩
 refine RW.keep 26 [1,2] rfl ?_;(conv=>whnf);refine ⟨?_⟩
 refine RW.pullO (k := 2) (l := 1) (j := 5) 2 1 5 rfl rfl rfl (by decide) rfl rfl rfl rfl ?_
 refine RW.keep 26 [1,2] rfl ?_;(conv=>whnf);refine ⟨?_⟩
 refine RW.pullO (k := 2) (l := 1) (j := 8) 2 1 8 rfl rfl rfl (by decide) rfl rfl rfl rfl ?_
 refine RW.keep 26 [1,2] rfl ?_;(conv=>whnf);refine ⟨?_⟩
 refine RW.pullO (k := 2) (l := 1) (j := 12) 2 1 12 rfl rfl rfl (by decide) rfl rfl rfl rfl ?_
 refine RW.keep 26 [1,2] rfl ?_;(conv=>whnf);refine ⟨?_⟩
 refine RW.pullO (k := 2) (l := 1) (j := 13) 2 1 13 rfl rfl rfl (by decide) rfl rfl rfl rfl ?_
 refine RW.keep 26 [2] rfl ?_;(conv=>whnf);refine ⟨?_⟩
 refine RW.nil ?_
 refine CW.keep 26 [2] rfl ?_;(conv=>whnf);refine ⟨?_⟩
 refine CW.ret ?_
 exact Post.one (RV.c (f := fun e => (Node.c e).map .w) (e' := (⟨n.id, n.term_, n.vote, n.role, n.lead, (([] : List Int) ++ n.conf), (⟨n.log.start, n.log.startTerm, (([] : List Entry) ++ n.log.entries)⟩ : Log), n.commit, n.clock, n.limit, (([] : List Int) ++ n.votes), (([] : List Peer) ++ n.peers)⟩ : Node)) rfl rfl rfl rfl (DT.v (DT.v (DT.v (DT.v (DT.v (DT.w (DT.v (DT.v (DT.w (DT.v (DT.v (DT.v (DT.w (DT.w DT.e)))))))))))))) (by rfl)) (AOs.a rfl AOs.e)
set_option maxHeartbeats 4000000 in
theorem spec_l06Last_fn (l : Log) : Eng.Fn E.P 93 [.agg ((Log.c l).map .r)] (.one (.one (.w (.v (.int .i64 (IntKind.i64.wrap (l.start + (l.entries.length : Int)))))))) [.agg ((Log.c l).map .r)] := by
 refine Eng.Fn.intro (E := E) (rvs := [.tmp 2]) Try.func93 rfl rfl rfl (by simp [outSlots, moved, rvSlot, sl]) ?_
 intro B g bo
 refine CW.keep 9 [0] rfl ?_;(conv=>whnf);refine ⟨?_⟩
 refine CW.seq ?_
 refine CW.region ?_
 refine RW.k XK 9 1 rfl ?_
 (conv=>whnf);intro b1;(conv=>whnf);refine ⟨rfl,?_⟩
 refine RW.freezeB (ts := (Log.c l)) 1 rfl (DRd.r (DRd.r (DRd.r DRd.e))) ?_
 refine RW.k XK 9 1 rfl ?_
 (conv=>whnf);refine ⟨rfl,?_⟩
 refine RW.nil ?_
 refine CW.keep 9 [1] rfl ?_;(conv=>whnf);refine ⟨?_⟩
 refine CW.k XK 9 1 [2] rfl ?_
 (conv=>whnf);refine ⟨rfl,?_⟩
 refine CW.ret ?_
 exact Post.one (RV.i rfl (by rfl)) (AOs.a rfl AOs.e)
set_option maxHeartbeats 4000000 in
theorem spec_LogTerm_fn (l : Log) (i : Int) (hs : 0 ≤ l.start ∧ l.start ≤ 1000000 ∧ l.entries.length ≤ 60) (hi : i ≤ 9223372036854775807) : Eng.Fn E.P 84 [.agg ((Log.c l).map .r), .one (.r (.v (.int .i64 i)))] (.one (.one (.w (.v (.int .i64 (logTerm l i)))))) [.agg ((Log.c l).map .r), .one (.r (.v (.int .i64 i)))] := by
 refine Eng.Fn.intro (E := E) (rvs := [.tmp 4]) Try.func84 rfl rfl rfl (by simp [outSlots, moved, rvSlot, sl]) ?_
 intro B g bo
 refine CW.keep 31 [0,1] rfl ?_;(conv=>whnf);refine ⟨?_⟩
 refine CW.seq ?_
 refine CW.region ?_
 refine RW.k XK 31 1 rfl ?_
 (conv=>whnf);intro b1;(conv=>whnf);refine ⟨rfl,?_⟩
 refine RW.freezeB (ts := (Log.c l)) 2 rfl (DRd.r (DRd.r (DRd.r DRd.e))) ?_
 refine RW.k XK 31 1 rfl ?_
 (conv=>whnf);refine ⟨rfl,?_⟩
 refine RW.nil ?_
 refine CW.keep 31 [1,2] rfl ?_;(conv=>whnf);refine ⟨?_⟩
 refine CW.seq ?_
 refine CW.k XK 31 1 [1,2,8] rfl ?_
 (conv=>whnf);refine ⟨rfl,?_⟩
 refine CW.cond rfl (fun h2 => ?_) (fun h2 => ?_)
 ·skip
  refine CW.k XK 31 1 [4] rfl ?_
  (conv=>whnf);refine ⟨rfl,?_⟩
  refine CW.ret ?_
  exact Post.one (RV.i rfl (by exact lt_at h2)) (AOs.a rfl (AOs.r AOs.e))
 ·skip
  refine CW.skip ?_
  refine CW.keep 31 [1,2] rfl ?_;(conv=>whnf);refine ⟨?_⟩
  refine CW.seq ?_
  refine CW.seqJ 31 (fun (v3 : Bool) => [(1, I i), (2, .rp (Log.c l)), (20, Bo v3)]) (fun v3 => v3 = (decide (i < l.start) || decide (i > (IntKind.i64.wrap (l.start + (l.entries.length : Int)))))) ?_ ?_
  ·refine CW.region ?_
   refine RW.k XK 31 5 rfl ?_
   (conv=>whnf);refine ⟨rfl,?_⟩
   refine RW.gv rfl rfl rfl rfl (fun h4 => V.mv (d := I i) rfl rfl) (fun h4 => ?_) (fun h4 => ?_)
   ·skip
    refine RW.k XK 31 1 rfl ?_
    (conv=>whnf);refine ⟨rfl,?_⟩
    refine RW.gcall rfl rfl rfl rfl (spec_l06Last_fn l) rfl (.cons (.agg (.cons (.r .r) (.cons (.r .r) (.cons (.r .r) (.nil))))) (.nil)) fun g5 => ?_
    refine RW.k XK 31 2 rfl ?_
    (conv=>whnf);refine ⟨rfl,?_⟩
    refine RW.nil ?_
    exact ⟨_, by first | rfl | (simp_all; done) | (simp_all; omega) | grind, rfl, Le.of rfl⟩
   ·skip
    refine RW.k XK 31 4 rfl ?_
    (conv=>whnf);refine ⟨rfl,?_⟩
    refine RW.nil ?_
    exact ⟨_, by first | rfl | (simp_all; done) | (simp_all; omega) | grind, rfl, Le.of rfl⟩
  ·intro v3 hv6
   refine CW.cond rfl (fun h7 => ?_) (fun h7 => ?_)
   ·skip
    have ho : i < l.start ∨ i > l.start + (l.entries.length : Int) := by rw [hv6, IntKind.wrap_i64] at h7; simp at h7; omega
    refine CW.k XK 31 1 [4] rfl ?_
    (conv=>whnf);refine ⟨rfl,?_⟩
    refine CW.ret ?_
    exact Post.one (RV.i rfl (by exact lt_out (by simpa using h2) ho)) (AOs.a rfl (AOs.r AOs.e))
   ·skip
    have hne : i ≠ l.start := by simpa using h2
    have hA : l.start < i ∧ i ≤ l.start + (l.entries.length : Int) := by rw [hv6, IntKind.wrap_i64] at h7; simp at h7; omega
    refine CW.skip ?_
    refine CW.keep 31 [1,2] rfl ?_;(conv=>whnf);refine ⟨?_⟩
    refine CW.seq ?_
    refine CW.region ?_
    refine RW.k XK 31 7 rfl ?_
    (conv=>whnf);refine ⟨rfl,?_⟩
    refine RW.v rfl (V.indexZ (m := (i - l.start - 1).toNat) (v := (l.entries.getD (i - l.start - 1).toNat Entry.z)) rfl rfl rfl rfl rfl rfl (by rw [IntKind.wrap_i64, IntKind.wrap_i64]; omega) Entry.len (getD_some (by omega))) ?_
    refine RW.k XK 31 3 rfl ?_
    (conv=>whnf);refine ⟨rfl,?_⟩
    refine RW.nil ?_
    refine CW.keep 31 [4] rfl ?_;(conv=>whnf);refine ⟨?_⟩
    refine CW.ret ?_
    exact Post.one (RV.i rfl (by exact lt_in (by simpa using h2) hA)) (AOs.a rfl (AOs.r AOs.e))
set_option maxHeartbeats 4000000 in
theorem spec_l05In_fn (a : List Int) (n : Int) : Eng.Fn E.P 104 [.one (.r (sl 1 cI a)), .one (.r (.v (.int .i64 n)))] (.one (.one (.w (.v (.bool (hasI a n)))))) [.one (.r (sl 1 cI a)), .one (.r (.v (.int .i64 n)))] := by
 refine Eng.Fn.intro (E := E) (rvs := [.tmp 4]) Try.func104 rfl rfl rfl (by simp [outSlots, moved, rvSlot, sl]) ?_
 intro B g bo
 refine CW.bound (x := .tmp 0) (n := a.length) (AsT.r) (fun hl0 => ?_)
 refine CW.keep 18 [0,1] rfl ?_;(conv=>whnf);refine ⟨?_⟩
 refine CW.k XK 18 1 [0,1] rfl ?_
 (conv=>whnf);refine ⟨rfl,?_⟩
 refine CW.seq ?_
 refine CW.k XK 18 1 [0,1,5] rfl ?_
 (conv=>whnf);refine ⟨rfl,?_⟩
 refine CW.block ?_
 refine CW.loopI 18 (fun (i : Nat) => [(0, .r (sl 1 cI a)), (1, I n), (5, I (i : Int))]) (fun (i : Nat) => i ≤ a.length ∧ (a.take i).any (fun y => y == n) = false) (fun (i : Nat) => a.length - i) 0 rfl (Le.c rfl <| Le.c rfl <| Le.c rfl <| Le.e) ⟨by omega, by simp⟩ ?_
 rintro i ⟨hb, hr⟩
 refine CW.seq ?_
 refine CW.k XK 18 1 [0,1,5,9] rfl ?_
 (conv=>whnf);refine ⟨rfl,?_⟩
 refine CW.cond rfl (fun h1 => ?_) (fun h1 => ?_)
 ·skip
  have hii : i < a.length := by have := h1; simp at this; first | exact this | omega | (simp; done) | (simp; omega)
  obtain ⟨ei, hei⟩ : ∃ e, a[i]? = some e := ⟨_, List.getElem?_eq_getElem hii⟩
  have hdi := drop_get hei
  refine CW.skip ?_
  refine CW.keep 18 [0,1,5] rfl ?_;(conv=>whnf);refine ⟨?_⟩
  refine CW.seq ?_
  refine CW.block ?_
  refine CW.seq ?_
  refine CW.region ?_
  refine RW.k XK 18 2 rfl ?_
  (conv=>whnf);refine ⟨rfl,?_⟩
  refine RW.v rfl (V.indexS rfl rfl rfl rfl rfl rfl cI.len hei) ?_
  refine RW.k XK 18 3 rfl ?_
  (conv=>whnf);refine ⟨rfl,?_⟩
  refine RW.nil ?_
  refine CW.keep 18 [0,1,5,17] rfl ?_;(conv=>whnf);refine ⟨?_⟩
  refine CW.cond rfl (fun h2 => ?_) (fun h2 => ?_)
  ·skip
   refine CW.k XK 18 1 [4] rfl ?_
   (conv=>whnf);refine ⟨rfl,?_⟩
   refine CW.ret ?_
   exact Post.one (RV.b rfl (by exact (hasI_at hei h2).symm)) (AOs.r (AOs.r AOs.e))
  ·skip
   refine CW.skip ?_
   refine CW.keep 18 [0,1,5] rfl ?_;(conv=>whnf);refine ⟨?_⟩
   refine CW.region ?_
   refine RW.k XK 18 1 rfl ?_
   (conv=>whnf);refine ⟨rfl,?_⟩
   refine RW.v rfl (V.inc rfl rfl rfl hii hl0) ?_
   refine RW.k XK 18 1 rfl ?_
   (conv=>whnf);refine ⟨rfl,?_⟩
   refine RW.nil ?_
   exact ⟨i + 1, by omega, ⟨by omega, any_snoc hr hei h2⟩, rfl, Le.c rfl <| Le.c rfl <| Le.c rfl <| Le.e⟩
 ·skip
  have hii : a.length ≤ i := by have := h1; simp at this; first | exact this | omega | (simp; done) | (simp; omega)
  have hdi : a.drop i = [] := List.drop_eq_nil_of_le hii
  refine CW.exit ?_
  refine CW.keep 18 [] rfl ?_;(conv=>whnf);refine ⟨?_⟩
  refine CW.k XK 18 1 [4] rfl ?_
  (conv=>whnf);refine ⟨rfl,?_⟩
  refine CW.ret ?_
  exact Post.one (RV.b rfl (by exact (hasI_no hr hii).symm)) (AOs.r (AOs.r AOs.e))
set_option maxHeartbeats 4000000 in
theorem spec_Most_fn (a : List Int) (l : List Int) : Eng.Fn E.P 124 [.one (.r (sl 1 cI a)), .one (.r (sl 1 cI l))] (.one (.one (.w (.v (.bool (most a l)))))) [.one (.r (sl 1 cI a)), .one (.r (sl 1 cI l))] := by
 refine Eng.Fn.intro (E := E) (rvs := [.tmp 4]) Try.func124 rfl rfl rfl (by simp [outSlots, moved, rvSlot, sl]) ?_
 intro B g bo
 refine CW.bound (x := .tmp 0) (n := a.length) (AsT.r) (fun hl0 => ?_)
 refine CW.bound (x := .tmp 1) (n := l.length) (AsT.r) (fun hl1 => ?_)
 refine CW.keep 30 [0,1] rfl ?_;(conv=>whnf);refine ⟨?_⟩
 refine CW.k XK 30 2 [0,1,5] rfl ?_
 (conv=>whnf);refine ⟨rfl,?_⟩
 refine CW.seq ?_
 refine CW.k XK 30 1 [0,1,5,6] rfl ?_
 (conv=>whnf);refine ⟨rfl,?_⟩
 refine CW.block ?_
 refine CW.loopI 30 (fun (zz : Nat × Int) => match zz with | (i, c) => [(0, .r (sl 1 cI a)), (1, .r (sl 1 cI l)), (5, I c), (6, I (i : Int))]) (fun (zz : Nat × Int) => match zz with | (i, c) => i ≤ a.length ∧ mostGo l (a.drop i) c = mostGo l a 0) (fun (zz : Nat × Int) => match zz with | (i, c) => a.length - i) (0, _) rfl (Le.c rfl <| Le.c rfl <| Le.c rfl <| Le.c rfl <| Le.e) ⟨by omega, by simp⟩ ?_
 rintro ⟨i, c⟩ ⟨hb, hr⟩
 refine CW.seq ?_
 refine CW.k XK 30 1 [0,1,5,6,10] rfl ?_
 (conv=>whnf);refine ⟨rfl,?_⟩
 refine CW.cond rfl (fun h1 => ?_) (fun h1 => ?_)
 ·skip
  have hii : i < a.length := by have := h1; simp at this; first | exact this | omega | (simp; done) | (simp; omega)
  obtain ⟨ei, hei⟩ : ∃ e, a[i]? = some e := ⟨_, List.getElem?_eq_getElem hii⟩
  have hdi := drop_get hei
  refine CW.skip ?_
  refine CW.keep 30 [0,1,5,6] rfl ?_;(conv=>whnf);refine ⟨?_⟩
  refine CW.seq ?_
  refine CW.block ?_
  refine CW.seq ?_
  refine CW.region ?_
  refine RW.k XK 30 3 rfl ?_
  (conv=>whnf);refine ⟨rfl,?_⟩
  refine RW.v rfl (V.indexS rfl rfl rfl rfl rfl rfl cI.len hei) ?_
  refine RW.k XK 30 1 rfl ?_
  (conv=>whnf);refine ⟨rfl,?_⟩
  refine RW.call rfl (spec_l05In_fn l ei) rfl (.cons (.one (.r .r)) (.cons (.one (.r .r)) (.nil))) fun g2 => ?_
  refine RW.nil ?_
  refine CW.keep 30 [0,1,5,6,18] rfl ?_;(conv=>whnf);refine ⟨?_⟩
  refine CW.cond rfl (fun h3 => ?_) (fun h3 => ?_)
  ·skip
   refine CW.region ?_
   refine RW.k XK 30 3 rfl ?_
   (conv=>whnf);refine ⟨rfl,?_⟩
   refine RW.nil ?_
   refine CW.keep 30 [0,1,5,6] rfl ?_;(conv=>whnf);refine ⟨?_⟩
   refine CW.region ?_
   refine RW.k XK 30 1 rfl ?_
   (conv=>whnf);refine ⟨rfl,?_⟩
   refine RW.v rfl (V.inc rfl rfl rfl hii hl0) ?_
   refine RW.k XK 30 1 rfl ?_
   (conv=>whnf);refine ⟨rfl,?_⟩
   refine RW.nil ?_
   exact ⟨(i + 1, _), by simp only []; omega, ⟨by omega, by rw [← hr, hdi, mostGo]; simp_all⟩, rfl, Le.c rfl <| Le.c rfl <| Le.c rfl <| Le.c rfl <| Le.e⟩
  ·skip
   refine CW.skip ?_
   refine CW.keep 30 [0,1,5,6] rfl ?_;(conv=>whnf);refine ⟨?_⟩
   refine CW.region ?_
   refine RW.k XK 30 1 rfl ?_
   (conv=>whnf);refine ⟨rfl,?_⟩
   refine RW.v rfl (V.inc rfl rfl rfl hii hl0) ?_
   refine RW.k XK 30 1 rfl ?_
   (conv=>whnf);refine ⟨rfl,?_⟩
   refine RW.nil ?_
   exact ⟨(i + 1, _), by simp only []; omega, ⟨by omega, by rw [← hr, hdi, mostGo]; simp_all⟩, rfl, Le.c rfl <| Le.c rfl <| Le.c rfl <| Le.c rfl <| Le.e⟩
 ·skip
  have hii : a.length ≤ i := by have := h1; simp at this; first | exact this | omega | (simp; done) | (simp; omega)
  have hdi : a.drop i = [] := List.drop_eq_nil_of_le hii
  refine CW.exit ?_
  refine CW.keep 30 [0,5] rfl ?_;(conv=>whnf);refine ⟨?_⟩
  refine CW.seqJ 30 (fun (v4 : Bool) => [(4, Bo v4)]) (fun v4 => v4 = ((confOk a) && decide ((IntKind.i64.wrap (2 * c)) > (a.length : Int)))) ?_ ?_
  ·refine CW.region ?_
   refine RW.k XK 30 1 rfl ?_
   (conv=>whnf);refine ⟨rfl,?_⟩
   refine RW.call rfl (spec_ConfOk_fn a) rfl (.cons (.one (.r .r)) (.nil)) fun g5 => ?_
   refine RW.k XK 30 1 rfl ?_
   (conv=>whnf);refine ⟨rfl,?_⟩
   refine RW.gv rfl rfl rfl rfl (fun h6 => V.mv (d := I c) rfl rfl) (fun h6 => ?_) (fun h6 => ?_)
   ·skip
    refine RW.k XK 30 6 rfl ?_
    (conv=>whnf);refine ⟨rfl,?_⟩
    refine RW.nil ?_
    exact ⟨_, by first | rfl | (simp_all; done) | (simp_all; omega) | grind, rfl, Le.of rfl⟩
   ·skip
    refine RW.k XK 30 6 rfl ?_
    (conv=>whnf);refine ⟨rfl,?_⟩
    refine RW.nil ?_
    exact ⟨_, by first | rfl | (simp_all; done) | (simp_all; omega) | grind, rfl, Le.of rfl⟩
  ·intro v4 hv7
   refine CW.ret ?_
   exact Post.one (RV.b rfl (by simp_all [most, mostGo])) (AOs.r (AOs.r AOs.e))
set_option maxHeartbeats 4000000 in
theorem spec_l18Tell_fn (r : l18Run) (m : Message) (hm : r.told.length ≤ 3145728) : Eng.Fn E.P 107 [.ob (l18Run.m r), .agg ((Message.c m).map .w)] (.tup []) [.ob (l18Run.m (⟨r.n, r.told ++ [tellM r.n m]⟩ : l18Run)), .gone] := by
 refine Eng.Fn.intro (E := E) (rvs := []) Try.func107 rfl rfl rfl (by simp [outSlots, moved, rvSlot, sl]) ?_
 intro B g bo
 refine CW.keep 26 [0,1] rfl ?_;(conv=>whnf);refine ⟨?_⟩
 refine CW.seq ?_
 refine CW.region ?_
 refine RW.k XK 26 1 rfl ?_
 (conv=>whnf);intro b1;(conv=>whnf);refine ⟨rfl,?_⟩
 refine RW.keep 26 [0,1,3] rfl ?_;(conv=>whnf);refine ⟨?_⟩
 refine RW.pullA (k := 3) (l := 1) (j := 8) 3 1 8 rfl rfl rfl (by decide) rfl rfl rfl rfl ?_
 refine RW.keep 26 [0,1,3] rfl ?_;(conv=>whnf);refine ⟨?_⟩
 refine RW.pullA (k := 3) (l := 1) (j := 9) 3 1 9 rfl rfl rfl (by decide) rfl rfl rfl rfl ?_
 refine RW.keep 26 [0,3] rfl ?_;(conv=>whnf);refine ⟨?_⟩
 refine RW.nil ?_
 refine CW.keep 26 [0,3] rfl ?_;(conv=>whnf);refine ⟨?_⟩
 refine CW.k XK 26 2 [0,3] rfl ?_
 (conv=>whnf);refine ⟨rfl,?_⟩
 refine CW.anyR2 (fc := []) (L0 := []) 26 (fun (zz : Value × Value) => match zz with | (Xo2_6_1, Xo2_7_1) => [(0, .obj (bo 0) [I r.n.id, I r.n.term_, I r.n.vote, I r.n.role, I r.n.lead, .r (sl 1 cI r.n.conf), I r.n.log.start, I r.n.log.startTerm, .r (sl 3 Entry.c r.n.log.entries), I r.n.commit, I r.n.clock, I r.n.limit, .r (sl 1 cI r.n.votes), .r (sl 4 Peer.c r.n.peers), .w (sl 12 Message.c (r.told ++ ([(⟨m.kind, r.n.id, m.to, r.n.term_, m.index, m.logTerm, m.commit, m.ok, m.entries, m.conf, m.data, m.last⟩ : Message)]))) Xo2_7_1])]) (fun all hall f hf b0 hb K hK => ?_) ?_
 ·skip
  have ro2_7 : ∀ B, ∀ (Xo2_6_1 : Value), ∀ (Xo2_7_1 : Value), RA f E B all 0 (bt 11 2047) ⟨26, [(0, .obj (bo 0) [I r.n.id, I r.n.term_, I r.n.vote, I r.n.role, I r.n.lead, .r (sl 1 cI r.n.conf), I r.n.log.start, I r.n.log.startTerm, .r (sl 3 Entry.c r.n.log.entries), I r.n.commit, I r.n.clock, I r.n.limit, .r (sl 1 cI r.n.votes), .r (sl 4 Peer.c r.n.peers), .w (sl 12 Message.c (r.told ++ ([(⟨m.kind, r.n.id, m.to, r.n.term_, m.index, m.logTerm, m.commit, m.ok, m.entries, m.conf, m.data, m.last⟩ : Message)]))) Xo2_7_1])] ++ b0⟩ K := by
   intro B Xo2_6_1 Xo2_7_1
   exact RA.of2 hall hf hb (RA.finH (Tell.of rfl) (by kernel_rfl) (hK (Xo2_6_1, Xo2_7_1) _ rfl (Le.of rfl)))
  have ro2_6 : ∀ B, ∀ (Xo2_6_1 : Value), ∀ (Xo2_7_1 : Value), RA f E B all 1 (bt 11 1023) ⟨26, [(0, .obj (bo 0) [I r.n.id, I r.n.term_, I r.n.vote, I r.n.role, I r.n.lead, .r (sl 1 cI r.n.conf), I r.n.log.start, I r.n.log.startTerm, .r (sl 3 Entry.c r.n.log.entries), I r.n.commit, I r.n.clock, I r.n.limit, .r (sl 1 cI r.n.votes), .r (sl 4 Peer.c r.n.peers), .u]), (23, .w (sl 12 Message.c (r.told ++ ([(⟨m.kind, r.n.id, m.to, r.n.term_, m.index, m.logTerm, m.commit, m.ok, m.entries, m.conf, m.data, m.last⟩ : Message)]))) Xo2_7_1), (25, .pt 0 (bo 0) 14)] ++ b0⟩ K := by
   intro B Xo2_6_1 Xo2_7_1
   refine RA.of2 hall hf hb (RA.stepH (L := [10]) (Tell.of rfl) (by kernel_rfl) (by simp) (RA.each ?_ (RA.each0)))
   ·skip
    refine RO.store (d := .al 23 none 12 ((r.told ++ ([(⟨m.kind, r.n.id, m.to, r.n.term_, m.index, m.logTerm, m.commit, m.ok, m.entries, m.conf, m.data, m.last⟩ : Message)])).length) Xo2_7_1 0) rfl rfl rfl rfl rfl rfl rfl rfl rfl (Nat.le_of_ble_eq_true rfl) rfl rfl ?_
    refine RA.keep 26 [0,23] rfl ?_;(conv=>whnf);refine ⟨?_⟩
    refine RA.pullT (k := 0) (l := 23) (j := 14) 0 23 14 rfl rfl rfl (by decide) rfl rfl rfl ?_
    refine RA.keep 26 [0] rfl ?_;(conv=>whnf);refine ⟨?_⟩
    exact RA.to2 hall hf hb (ro2_7 B Xo2_6_1 Xo2_7_1) rfl rfl (by kernel_rfl)
  have ro2_5 : ∀ B, ∀ (Xo2_6_1 : Value), RA f E B all 4 (bt 11 127) ⟨26, [(0, .obj (bo 0) [I r.n.id, I r.n.term_, I r.n.vote, I r.n.role, I r.n.lead, .r (sl 1 cI r.n.conf), I r.n.log.start, I r.n.log.startTerm, .r (sl 3 Entry.c r.n.log.entries), I r.n.commit, I r.n.clock, I r.n.limit, .r (sl 1 cI r.n.votes), .r (sl 4 Peer.c r.n.peers), .w (sl 12 Message.c r.told) (g 0 14)]), (16, .pt 0 (bo 0) 0), (20, .al 0 (some 14) 12 r.told.length (g 0 14) 0), (22, .w (sl 12 Message.c ([(⟨m.kind, r.n.id, m.to, r.n.term_, m.index, m.logTerm, m.commit, m.ok, m.entries, m.conf, m.data, m.last⟩ : Message)])) Xo2_6_1)] ++ b0⟩ K := by
   intro B Xo2_6_1
   refine RA.of2 hall hf hb (RA.stepH (L := [7]) (Tell.of rfl) (by kernel_rfl) (by simp) (RA.each ?_ (RA.each0)))
   ·skip
    refine RO.takeO 20 0 14 (by decide) rfl rfl rfl ?_
    refine RO.appendSS (c := Message.c) (l1 := r.told) (l2 := [(⟨m.kind, r.n.id, m.to, r.n.term_, m.index, m.logTerm, m.commit, m.ok, m.entries, m.conf, m.data, m.last⟩ : Message)]) rfl rfl rfl rfl rfl rfl rfl rfl rfl rfl rfl rfl (by decide) (by decide) (by decide) (Nat.le_of_ble_eq_true rfl) Message.len (fun _ => rfl) rfl (by simp only [maxLen, List.length_append, List.length_map, List.length_take, List.length_singleton]; omega) (by simp only [maxLen, List.length_append, List.length_map, List.length_take, List.length_singleton]; omega) fun Xo2_7_1 => ?_
    refine RA.fr XK 26 1 [8,9] (bt 11 1023) rfl rfl (by kernel_rfl) (Tell.of rfl) ?_
    (conv=>whnf);refine ⟨rfl,fun B=>?_⟩
    exact RA.to2 hall hf hb (ro2_6 B Xo2_6_1 Xo2_7_1) rfl rfl (by kernel_rfl)
  have ro2_4 : ∀ B, ∀ (Xo2_6_1 : Value), RA f E B all 5 (bt 11 111) ⟨26, [(0, .obj (bo 0) [I r.n.id, I r.n.term_, I r.n.vote, I r.n.role, I r.n.lead, .r (sl 1 cI r.n.conf), I r.n.log.start, I r.n.log.startTerm, .r (sl 3 Entry.c r.n.log.entries), I r.n.commit, I r.n.clock, I r.n.limit, .r (sl 1 cI r.n.votes), .r (sl 4 Peer.c r.n.peers), .w (sl 12 Message.c r.told) (g 0 14)]), (16, .pt 0 (bo 0) 0), (19, .pt 0 (bo 0) 14), (22, .w (sl 12 Message.c ([(⟨m.kind, r.n.id, m.to, r.n.term_, m.index, m.logTerm, m.commit, m.ok, m.entries, m.conf, m.data, m.last⟩ : Message)])) Xo2_6_1)] ++ b0⟩ K := by
   intro B Xo2_6_1
   refine RA.of2 hall hf hb (RA.stepH (L := [4]) (Tell.of rfl) (by kernel_rfl) (by simp) (RA.each ?_ (RA.each0)))
   ·skip
    refine RO.v rfl rfl (V.loadPrim (d := .al 0 (some 14) 12 r.told.length (g 0 14) 0) rfl rfl (.inr ⟨_, rfl⟩) rfl rfl rfl) rfl ?_
    exact RA.to2 hall hf hb (ro2_5 B Xo2_6_1) rfl rfl (by kernel_rfl)
  have ro2_3 : ∀ B, RA f E B all 5 (bt 11 63) ⟨26, [(0, .obj (bo 0) [I r.n.id, I r.n.term_, I r.n.vote, I r.n.role, I r.n.lead, .r (sl 1 cI r.n.conf), I r.n.log.start, I r.n.log.startTerm, .r (sl 3 Entry.c r.n.log.entries), I r.n.commit, I r.n.clock, I r.n.limit, .r (sl 1 cI r.n.votes), .r (sl 4 Peer.c r.n.peers), .w (sl 12 Message.c r.told) (g 0 14)]), (3, .obj b1 [I m.kind, I r.n.id, I m.to, I r.n.term_, I m.index, I m.logTerm, I m.commit, Bo m.ok, .w (sl 3 Entry.c m.entries) (g 1 8), .w (sl 1 cI m.conf) (g 1 9), S m.data, Bo m.last]), (16, .pt 0 (bo 0) 0), (20, .al 0 (some 14) 12 r.told.length (g 0 14) 0), (21, .agg [I m.kind, I r.n.id, I m.to, I r.n.term_, I m.index, I m.logTerm, I m.commit, Bo m.ok, .al 3 (some 8) 3 m.entries.length (g 1 8) 0, .al 3 (some 9) 1 m.conf.length (g 1 9) 0, S m.data, Bo m.last])] ++ b0⟩ K := by
   intro B
   refine RA.of2 hall hf hb (RA.stepH (L := [6]) (Tell.of rfl) (by kernel_rfl) (by simp) (RA.each ?_ (RA.each0)))
   ·skip
    refine RO.takeAgg 21 3 (by decide) rfl rfl rfl ?_
    refine RO.build1O (c := Message.c) (v := (⟨m.kind, r.n.id, m.to, r.n.term_, m.index, m.logTerm, m.commit, m.ok, m.entries, m.conf, m.data, m.last⟩ : Message)) rfl rfl rfl rfl rfl rfl rfl rfl rfl (DW.v (DW.v (DW.v (DW.v (DW.v (DW.v (DW.v (DW.v (DW.w (DW.w (DW.v (DW.v DW.e)))))))))))) Message.len (by decide) (by decide) (by decide) (Nat.le_of_ble_eq_true rfl) fun Xo2_6_1 => ?_
    exact RA.to2 hall hf hb (ro2_5 B Xo2_6_1) rfl rfl (by kernel_rfl)
  have ro2_2 : ∀ B, RA f E B all 6 (bt 11 47) ⟨26, [(0, .obj (bo 0) [I r.n.id, I r.n.term_, I r.n.vote, I r.n.role, I r.n.lead, .r (sl 1 cI r.n.conf), I r.n.log.start, I r.n.log.startTerm, .r (sl 3 Entry.c r.n.log.entries), I r.n.commit, I r.n.clock, I r.n.limit, .r (sl 1 cI r.n.votes), .r (sl 4 Peer.c r.n.peers), .w (sl 12 Message.c r.told) (g 0 14)]), (3, .obj b1 [I m.kind, I r.n.id, I m.to, I r.n.term_, I m.index, I m.logTerm, I m.commit, Bo m.ok, .w (sl 3 Entry.c m.entries) (g 1 8), .w (sl 1 cI m.conf) (g 1 9), S m.data, Bo m.last]), (16, .pt 0 (bo 0) 0), (19, .pt 0 (bo 0) 14), (21, .agg [I m.kind, I r.n.id, I m.to, I r.n.term_, I m.index, I m.logTerm, I m.commit, Bo m.ok, .al 3 (some 8) 3 m.entries.length (g 1 8) 0, .al 3 (some 9) 1 m.conf.length (g 1 9) 0, S m.data, Bo m.last])] ++ b0⟩ K := by
   intro B
   refine RA.of2 hall hf hb (RA.stepH (L := [4, 6]) (Tell.of rfl) (by kernel_rfl) (by simp) (RA.each ?_ (RA.each ?_ (RA.each0))))
   ·skip
    refine RO.v rfl rfl (V.loadPrim (d := .al 0 (some 14) 12 r.told.length (g 0 14) 0) rfl rfl (.inr ⟨_, rfl⟩) rfl rfl rfl) rfl ?_
    exact RA.to2 hall hf hb (ro2_3 B) rfl rfl (by kernel_rfl)
   ·skip
    refine RO.takeAgg 21 3 (by decide) rfl rfl rfl ?_
    refine RO.build1O (c := Message.c) (v := (⟨m.kind, r.n.id, m.to, r.n.term_, m.index, m.logTerm, m.commit, m.ok, m.entries, m.conf, m.data, m.last⟩ : Message)) rfl rfl rfl rfl rfl rfl rfl rfl rfl (DW.v (DW.v (DW.v (DW.v (DW.v (DW.v (DW.v (DW.v (DW.w (DW.w (DW.v (DW.v DW.e)))))))))))) Message.len (by decide) (by decide) (by decide) (Nat.le_of_ble_eq_true rfl) fun Xo2_6_1 => ?_
    exact RA.to2 hall hf hb (ro2_4 B Xo2_6_1) rfl rfl (by kernel_rfl)
  have ro2_1 : ∀ B, RA f E B all 6 (bt 11 31) ⟨26, [(0, .obj (bo 0) [I r.n.id, I r.n.term_, I r.n.vote, I r.n.role, I r.n.lead, .r (sl 1 cI r.n.conf), I r.n.log.start, I r.n.log.startTerm, .r (sl 3 Entry.c r.n.log.entries), I r.n.commit, I r.n.clock, I r.n.limit, .r (sl 1 cI r.n.votes), .r (sl 4 Peer.c r.n.peers), .w (sl 12 Message.c r.told) (g 0 14)]), (3, .obj b1 [I m.kind, I r.n.id, I m.to, I r.n.term_, I m.index, I m.logTerm, I m.commit, Bo m.ok, .w (sl 3 Entry.c m.entries) (g 1 8), .w (sl 1 cI m.conf) (g 1 9), S m.data, Bo m.last]), (16, .pt 0 (bo 0) 0), (20, .al 0 (some 14) 12 r.told.length (g 0 14) 0)] ++ b0⟩ K := by
   intro B
   refine RA.of2 hall hf hb (RA.stepH (L := [5]) (Tell.of rfl) (by kernel_rfl) (by simp) (RA.each ?_ (RA.each0)))
   ·skip
    refine RO.v rfl rfl (V.loadAgg rfl rfl rfl rfl rfl (Nat.le_of_ble_eq_true rfl)) rfl ?_
    exact RA.to2 hall hf hb (ro2_3 B) rfl rfl (by kernel_rfl)
  have ro2_0 : ∀ B, RA f E B all 7 (bt 11 15) ⟨26, [(0, .obj (bo 0) [I r.n.id, I r.n.term_, I r.n.vote, I r.n.role, I r.n.lead, .r (sl 1 cI r.n.conf), I r.n.log.start, I r.n.log.startTerm, .r (sl 3 Entry.c r.n.log.entries), I r.n.commit, I r.n.clock, I r.n.limit, .r (sl 1 cI r.n.votes), .r (sl 4 Peer.c r.n.peers), .w (sl 12 Message.c r.told) (g 0 14)]), (3, .obj b1 [I m.kind, I r.n.id, I m.to, I r.n.term_, I m.index, I m.logTerm, I m.commit, Bo m.ok, .w (sl 3 Entry.c m.entries) (g 1 8), .w (sl 1 cI m.conf) (g 1 9), S m.data, Bo m.last]), (16, .pt 0 (bo 0) 0), (19, .pt 0 (bo 0) 14)] ++ b0⟩ K := by
   intro B
   refine RA.of2 hall hf hb (RA.stepH (L := [4, 5]) (Tell.of rfl) (by kernel_rfl) (by simp) (RA.each ?_ (RA.each ?_ (RA.each0))))
   ·skip
    refine RO.v rfl rfl (V.loadPrim (d := .al 0 (some 14) 12 r.told.length (g 0 14) 0) rfl rfl (.inr ⟨_, rfl⟩) rfl rfl rfl) rfl ?_
    exact RA.to2 hall hf hb (ro2_1 B) rfl rfl (by kernel_rfl)
   ·skip
    refine RO.v rfl rfl (V.loadAgg rfl rfl rfl rfl rfl (Nat.le_of_ble_eq_true rfl)) rfl ?_
    exact RA.to2 hall hf hb (ro2_2 B) rfl rfl (by kernel_rfl)
  refine RA.start (by kernel_rfl) (by kernel_rfl) (m := 11) (ls' := (bt 11 0)) ?_
  refine RA.fr XK 26 7 [0,1,2,3] (bt 11 15) rfl rfl (by kernel_rfl) (Tell.of rfl) ?_
  (conv=>whnf);refine ⟨rfl,fun B=>?_⟩
  exact RA.to2 hall hf hb (ro2_0 B) rfl rfl (by kernel_rfl)
 ·rintro ⟨Xo2_6_1, Xo2_7_1⟩
  exact Post.tup (by decide) RVs.e (AOs.obE (f := fun e => l18Run.m e) (e' := (⟨r.n, (r.told ++ ([(⟨m.kind, r.n.id, m.to, r.n.term_, m.index, m.logTerm, m.commit, m.ok, m.entries, m.conf, m.data, m.last⟩ : Message)]))⟩ : l18Run)) rfl (DT.r (DT.r (DT.r (DT.r (DT.r (DT.r (DT.r (DT.r (DT.r (DT.r (DT.r (DT.r (DT.r (DT.r (DT.w DT.e))))))))))))))) (by rfl) (AOs.gn AOs.e))
set_option maxHeartbeats 4000000 in
theorem spec_l18Send_fn (r : l18Run) (p : Peer) (hl : logB r.n.log) (hp : peerB r.n.log p) (hc : r.n.conf.length ≤ 1048576) (hm : r.told.length ≤ 3145728) : Eng.Fn E.P 126 [.ob (l18Run.m r), .agg ((Peer.c p).map .r)] (.tup []) [.ob (l18Run.m (⟨r.n, r.told ++ [sendN r.n p]⟩ : l18Run)), .agg ((Peer.c p).map .r)] := by
 refine Eng.Fn.intro (E := E) (rvs := []) Try.func126 rfl rfl rfl (by simp [outSlots, moved, rvSlot, sl]) ?_
 intro B g bo
 refine CW.keep 83 [0,1] rfl ?_;(conv=>whnf);refine ⟨?_⟩
 have hl0 : r.n.log.entries.length ≤ maxLen := by have := hl.2.2; simp only [maxLen]; omega
 refine CW.seq ?_
 refine CW.region ?_
 refine RW.k XK 83 1 rfl ?_
 (conv=>whnf);intro b1;(conv=>whnf);refine ⟨rfl,?_⟩
 refine RW.freezeB (ts := (Peer.c p)) 3 rfl (DRd.r (DRd.r (DRd.r (DRd.r DRd.e)))) ?_
 refine RW.nil ?_
 refine CW.keep 83 [0,3] rfl ?_;(conv=>whnf);refine ⟨?_⟩
 refine CW.seq ?_
 refine CW.region ?_
 refine RW.k XK 83 7 rfl ?_
 (conv=>whnf);intro b2;(conv=>whnf);refine ⟨rfl,?_⟩
 refine RW.freezeB (ts := (Log.c r.n.log)) 4 rfl (DRd.r (DRd.r (DRd.r DRd.e))) ?_
 refine RW.nil ?_
 refine CW.keep 83 [0,3,4] rfl ?_;(conv=>whnf);refine ⟨?_⟩
 refine CW.seq ?_
 refine CW.k XK 83 1 [0,3,4,16] rfl ?_
 (conv=>whnf);refine ⟨rfl,?_⟩
 refine CW.cond rfl (fun h3 => ?_) (fun h3 => ?_)
 ·skip
  refine CW.anyJ2 (fc := []) (L0 := []) 83 (fun (zz : Value × Value × (Nat → Value)) => match zz with | (Xo4_13_1, Xo4_7_1, qo4_17_1) => [(0, .obj (bo 0) [I r.n.id, I r.n.term_, I r.n.vote, I r.n.role, I r.n.lead, .r (sl 1 cI r.n.conf), I r.n.log.start, I r.n.log.startTerm, .r (sl 3 Entry.c r.n.log.entries), I r.n.commit, I r.n.clock, I r.n.limit, .r (sl 1 cI r.n.votes), .r (sl 4 Peer.c r.n.peers), .w (sl 12 Message.c (r.told ++ [tellM r.n (⟨5, 0, p.id, 0, r.n.log.start, r.n.log.startTerm, p.sent, false, [], (([] : List Int) ++ r.n.conf), ⟨#[]⟩, false⟩ : Message)])) (qo4_17_1 14)])]) (fun all hall f hf b0 hb K hK => ?_) ?_
  ·skip
   have ro4_5 : ∀ B, ∀ (Xo4_13_1 : Value), ∀ (Xo4_7_1 : Value), ∀ (qo4_17_1 : Nat → Value), RA f E B all 0 (bt 18 262143) ⟨83, [(0, .obj (bo 0) [I r.n.id, I r.n.term_, I r.n.vote, I r.n.role, I r.n.lead, .r (sl 1 cI r.n.conf), I r.n.log.start, I r.n.log.startTerm, .r (sl 3 Entry.c r.n.log.entries), I r.n.commit, I r.n.clock, I r.n.limit, .r (sl 1 cI r.n.votes), .r (sl 4 Peer.c r.n.peers), .w (sl 12 Message.c (r.told ++ [tellM r.n (⟨5, 0, p.id, 0, r.n.log.start, r.n.log.startTerm, p.sent, false, [], (([] : List Int) ++ r.n.conf), ⟨#[]⟩, false⟩ : Message)])) (qo4_17_1 14)])] ++ b0⟩ K := by
    intro B Xo4_13_1 Xo4_7_1 qo4_17_1
    exact RA.of2 hall hf hb (RA.finH (Tell.of rfl) (by kernel_rfl) (hK (Xo4_13_1, Xo4_7_1, qo4_17_1) _ rfl (Le.of rfl)))
   have ro4_4 : ∀ B, ∀ (Xo4_13_1 : Value), ∀ (Xo4_7_1 : Value), RA f E B all 1 (bt 18 131071) ⟨83, [(0, .obj (bo 0) [I r.n.id, I r.n.term_, I r.n.vote, I r.n.role, I r.n.lead, .r (sl 1 cI r.n.conf), I r.n.log.start, I r.n.log.startTerm, .r (sl 3 Entry.c r.n.log.entries), I r.n.commit, I r.n.clock, I r.n.limit, .r (sl 1 cI r.n.votes), .r (sl 4 Peer.c r.n.peers), .w (sl 12 Message.c r.told) (g 0 14)]), (17, .pt 0 (bo 0) 0), (30, .w (sl 1 cI (([] : List Int) ++ r.n.conf)) Xo4_13_1), (33, .agg [I 5, I 0, I p.id, I 0, I r.n.log.start, I r.n.log.startTerm, I p.sent, Bo false, .r (.v (.slice none 0 0)), .al 30 none 1 ((([] : List Int) ++ r.n.conf).length) Xo4_13_1 0, S (⟨#[]⟩), Bo false])] ++ b0⟩ K := by
    intro B Xo4_13_1 Xo4_7_1
    refine RA.of2 hall hf hb (RA.stepH (L := [17]) (Tell.of rfl) (by kernel_rfl) (by simp) (RA.each ?_ (RA.each0)))
    ·skip
     refine RO.pullG (k := 33) (l := 30) (j := 9) (by decide) rfl rfl rfl ?_
     refine RO.callT (k := 0) (q := 33) (spec_l18Tell_fn r (⟨5, 0, p.id, 0, r.n.log.start, r.n.log.startTerm, p.sent, false, [], (([] : List Int) ++ r.n.conf), ⟨#[]⟩, false⟩ : Message) hm) rfl rfl rfl rfl (by decide) (by decide) rfl rfl (DT.r (DT.r (DT.r (DT.r (DT.r (DT.r (DT.r (DT.r (DT.r (DT.r (DT.r (DT.r (DT.r (DT.r (DT.w DT.e))))))))))))))) rfl (Nat.le_of_ble_eq_true rfl) (Tk.agg ⟨_, (Hand.v (Hand.v (Hand.v (Hand.v (Hand.v (Hand.v (Hand.v (Hand.v (Hand.n (Hand.w (Hand.v (Hand.v Hand.e))))))))))))⟩) fun qo4_17_1 => ?_
     exact RA.to2 hall hf hb (ro4_5 B Xo4_13_1 Xo4_7_1 qo4_17_1) rfl rfl (by kernel_rfl)
   have ro4_3 : ∀ B, ∀ (Xo4_7_1 : Value), RA f E B all 3 (bt 18 57343) ⟨83, [(0, .obj (bo 0) [I r.n.id, I r.n.term_, I r.n.vote, I r.n.role, I r.n.lead, .r (sl 1 cI r.n.conf), I r.n.log.start, I r.n.log.startTerm, .r (sl 3 Entry.c r.n.log.entries), I r.n.commit, I r.n.clock, I r.n.limit, .r (sl 1 cI r.n.votes), .r (sl 4 Peer.c r.n.peers), .w (sl 12 Message.c r.told) (g 0 14)]), (17, .pt 0 (bo 0) 0), (19, I p.id), (21, I r.n.log.start), (23, I r.n.log.startTerm), (24, .w (sl 1 cI ([] : List Int)) Xo4_7_1), (29, .r (sl 1 cI r.n.conf)), (32, I p.sent)] ++ b0⟩ K := by
    intro B Xo4_7_1
    refine RA.of2 hall hf hb (RA.stepH (L := [13]) (Tell.of rfl) (by kernel_rfl) (by simp) (RA.each ?_ (RA.each0)))
    ·skip
     refine RO.appendSR (c := cI) (l1 := ([] : List Int)) (l2 := r.n.conf) rfl rfl rfl rfl rfl rfl rfl rfl rfl rfl .r (by decide) (Nat.le_of_ble_eq_true rfl) cI.len (fun _ => rfl) rfl (by simp only [maxLen, List.length_append, List.length_nil, List.length_take, List.length_singleton]; omega) (by simp only [maxLen, List.length_append, List.length_nil, List.length_take, List.length_singleton]; omega) fun Xo4_13_1 => ?_
     refine RA.fr XK 83 1 [16] (bt 18 131071) rfl rfl (by kernel_rfl) (Tell.of rfl) ?_
     (conv=>whnf);refine ⟨rfl,fun B=>?_⟩
     exact RA.to2 hall hf hb (ro4_4 B Xo4_13_1 Xo4_7_1) rfl rfl (by kernel_rfl)
   have ro4_2 : ∀ B, RA f E B all 4 (bt 18 57215) ⟨83, [(0, .obj (bo 0) [I r.n.id, I r.n.term_, I r.n.vote, I r.n.role, I r.n.lead, .r (sl 1 cI r.n.conf), I r.n.log.start, I r.n.log.startTerm, .r (sl 3 Entry.c r.n.log.entries), I r.n.commit, I r.n.clock, I r.n.limit, .r (sl 1 cI r.n.votes), .r (sl 4 Peer.c r.n.peers), .w (sl 12 Message.c r.told) (g 0 14)]), (17, .pt 0 (bo 0) 0), (19, I p.id), (21, I r.n.log.start), (23, I r.n.log.startTerm), (29, .r (sl 1 cI r.n.conf)), (32, I p.sent)] ++ b0⟩ K := by
    intro B
    refine RA.of2 hall hf hb (RA.stepH (L := [7]) (Tell.of rfl) (by kernel_rfl) (by simp) (RA.each ?_ (RA.each0)))
    ·skip
     refine RO.build0 cI rfl rfl rfl rfl rfl rfl rfl fun Xo4_7_1 => ?_
     exact RA.to2 hall hf hb (ro4_3 B Xo4_7_1) rfl rfl (by kernel_rfl)
   have ro4_1 : ∀ B, ∀ (Xo4_7_1 : Value), RA f E B all 4 (bt 18 53247) ⟨83, [(0, .obj (bo 0) [I r.n.id, I r.n.term_, I r.n.vote, I r.n.role, I r.n.lead, .r (sl 1 cI r.n.conf), I r.n.log.start, I r.n.log.startTerm, .r (sl 3 Entry.c r.n.log.entries), I r.n.commit, I r.n.clock, I r.n.limit, .r (sl 1 cI r.n.votes), .r (sl 4 Peer.c r.n.peers), .w (sl 12 Message.c r.told) (g 0 14)]), (17, .pt 0 (bo 0) 0), (19, I p.id), (21, I r.n.log.start), (23, I r.n.log.startTerm), (24, .w (sl 1 cI ([] : List Int)) Xo4_7_1), (28, .pt 0 (bo 0) 5), (32, I p.sent)] ++ b0⟩ K := by
    intro B Xo4_7_1
    refine RA.of2 hall hf hb (RA.stepH (L := [12]) (Tell.of rfl) (by kernel_rfl) (by simp) (RA.each ?_ (RA.each0)))
    ·skip
     refine RO.v rfl rfl (V.loadPrim (d := .r (sl 1 cI r.n.conf)) rfl rfl (.inr ⟨_, rfl⟩) rfl rfl rfl) rfl ?_
     exact RA.to2 hall hf hb (ro4_3 B Xo4_7_1) rfl rfl (by kernel_rfl)
   have ro4_0 : ∀ B, RA f E B all 5 (bt 18 53119) ⟨83, [(0, .obj (bo 0) [I r.n.id, I r.n.term_, I r.n.vote, I r.n.role, I r.n.lead, .r (sl 1 cI r.n.conf), I r.n.log.start, I r.n.log.startTerm, .r (sl 3 Entry.c r.n.log.entries), I r.n.commit, I r.n.clock, I r.n.limit, .r (sl 1 cI r.n.votes), .r (sl 4 Peer.c r.n.peers), .w (sl 12 Message.c r.told) (g 0 14)]), (17, .pt 0 (bo 0) 0), (19, I p.id), (21, I r.n.log.start), (23, I r.n.log.startTerm), (28, .pt 0 (bo 0) 5), (32, I p.sent)] ++ b0⟩ K := by
    intro B
    refine RA.of2 hall hf hb (RA.stepH (L := [7, 12]) (Tell.of rfl) (by kernel_rfl) (by simp) (RA.each ?_ (RA.each ?_ (RA.each0))))
    ·skip
     refine RO.build0 cI rfl rfl rfl rfl rfl rfl rfl fun Xo4_7_1 => ?_
     exact RA.to2 hall hf hb (ro4_1 B Xo4_7_1) rfl rfl (by kernel_rfl)
    ·skip
     refine RO.v rfl rfl (V.loadPrim (d := .r (sl 1 cI r.n.conf)) rfl rfl (.inr ⟨_, rfl⟩) rfl rfl rfl) rfl ?_
     exact RA.to2 hall hf hb (ro4_2 B) rfl rfl (by kernel_rfl)
   refine RA.start (by kernel_rfl) (by kernel_rfl) (m := 18) (ls' := (bt 18 0)) ?_
   refine RA.fr XK 83 5 [0,1,2,3,4,5,6,8,9,10,11,14,15] (bt 18 53119) rfl rfl (by kernel_rfl) (Tell.of rfl) ?_
   (conv=>whnf);refine ⟨rfl,fun B=>?_⟩
   exact RA.to2 hall hf hb (ro4_0 B) rfl rfl (by kernel_rfl)
  ·rintro ⟨Xo4_13_1, Xo4_7_1, qo4_17_1⟩
   refine CW.ret ?_
   exact Post.tup (by decide) RVs.e (AOs.obE (f := fun e => l18Run.m e) (e' := (⟨r.n, r.told ++ [tellM r.n (⟨5, 0, p.id, 0, r.n.log.start, r.n.log.startTerm, p.sent, false, [], (([] : List Int) ++ r.n.conf), ⟨#[]⟩, false⟩ : Message)]⟩ : l18Run)) rfl (DT.r (DT.r (DT.r (DT.r (DT.r (DT.r (DT.r (DT.r (DT.r (DT.r (DT.r (DT.r (DT.r (DT.r (DT.w DT.e))))))))))))))) (by rw [List.nil_append, send_low h3]) (AOs.a rfl AOs.e))
 ·skip
  have hk0 := send_k0 hl hp h3
  refine CW.skip ?_
  refine CW.keep 83 [0,3,4] rfl ?_;(conv=>whnf);refine ⟨?_⟩
  refine CW.anyJ2 (fc := []) (L0 := [(0, .obj (bo 0) [I r.n.id, I r.n.term_, I r.n.vote, I r.n.role, I r.n.lead, .r (sl 1 cI r.n.conf), I r.n.log.start, I r.n.log.startTerm, .r (sl 3 Entry.c r.n.log.entries), I r.n.commit, I r.n.clock, I r.n.limit, .r (sl 1 cI r.n.votes), .r (sl 4 Peer.c r.n.peers), .w (sl 12 Message.c r.told) (g 0 14)]), (3, .rp (Peer.c p)), (4, .rp (Log.c r.n.log))]) 83 (fun (zz : Nat × (Nat → Nat → Value)) => match zz with | (bo5_16_1, go5_9_1) => [(5, .obj bo5_16_1 [I 3, I 0, I p.id, I 0, I (IntKind.i64.wrap (p.next - 1)), I (logTerm r.n.log (IntKind.i64.wrap (p.next - 1))), I r.n.commit, Bo false, .r (.v (.slice none 0 0)), .r (.v (.slice none 0 0)), S (⟨#[]⟩), Bo false])]) (fun all hall f hf b0 hb K hK => ?_) ?_
  ·skip
   have ro5_8 : ∀ B, ∀ (bo5_16_1 : Nat), ∀ (go5_9_1 : Nat → Nat → Value), RA f E B all 0 (bt 18 262143) ⟨83, [(5, .obj bo5_16_1 [I 3, I 0, I p.id, I 0, I (IntKind.i64.wrap (p.next - 1)), I (logTerm r.n.log (IntKind.i64.wrap (p.next - 1))), I r.n.commit, Bo false, .r (.v (.slice none 0 0)), .r (.v (.slice none 0 0)), S (⟨#[]⟩), Bo false])] ++ b0⟩ K := by
    intro B bo5_16_1 go5_9_1
    exact RA.of2 hall hf hb (RA.finH (Tell.of rfl) (by kernel_rfl) (hK (bo5_16_1, go5_9_1) _ rfl (Le.of rfl)))
   have ro5_7 : ∀ B, ∀ (bo5_16_1 : Nat), ∀ (go5_9_1 : Nat → Nat → Value), RA f E B all 1 (bt 18 131071) ⟨83, [(5, .obj bo5_16_1 [I 0, I 0, I 0, I 0, I 0, I 0, I 0, Bo false, .r (.v (.slice none 0 0)), .r (.v (.slice none 0 0)), S (⟨#[]⟩), Bo false]), (50, .agg [I 3, I 0, I p.id, I 0, I (IntKind.i64.wrap (p.next - 1)), I (logTerm r.n.log (IntKind.i64.wrap (p.next - 1))), I r.n.commit, Bo false, .r (.v (.slice none 0 0)), .r (.v (.slice none 0 0)), S (⟨#[]⟩), Bo false])] ++ b0⟩ K := by
    intro B bo5_16_1 go5_9_1
    refine RA.of2 hall hf hb (RA.stepH (L := [17]) (Tell.of rfl) (by kernel_rfl) (by simp) (RA.each ?_ (RA.each0)))
    ·skip
     refine RO.storeAgg (es := [I 3, I 0, I p.id, I 0, I (IntKind.i64.wrap (p.next - 1)), I (logTerm r.n.log (IntKind.i64.wrap (p.next - 1))), I r.n.commit, Bo false, .r (.v (.slice none 0 0)), .r (.v (.slice none 0 0)), S (⟨#[]⟩), Bo false]) rfl rfl rfl rfl rfl rfl rfl rfl rfl rfl (Nat.le_of_ble_eq_true rfl) rfl ?_
     exact RA.to2 hall hf hb (ro5_8 B bo5_16_1 go5_9_1) rfl rfl (by kernel_rfl)
   have ro5_6 : ∀ B, ∀ (go5_9_1 : Nat → Nat → Value), RA f E B all 2 (bt 18 65535) ⟨83, [(50, .agg [I 3, I 0, I p.id, I 0, I (IntKind.i64.wrap (p.next - 1)), I (logTerm r.n.log (IntKind.i64.wrap (p.next - 1))), I r.n.commit, Bo false, .r (.v (.slice none 0 0)), .r (.v (.slice none 0 0)), S (⟨#[]⟩), Bo false])] ++ b0⟩ K := by
    intro B go5_9_1
    refine RA.of2 hall hf hb (RA.stepH (L := [16]) (Tell.of rfl) (by kernel_rfl) (by simp) (RA.each ?_ (RA.each0)))
    ·skip
     refine RO.alloc (ds := [I 0, I 0, I 0, I 0, I 0, I 0, I 0, Bo false, .r (.v (.slice none 0 0)), .r (.v (.slice none 0 0)), S (⟨#[]⟩), Bo false]) rfl rfl rfl rfl rfl rfl fun bo5_16_1 => ?_
     exact RA.to2 hall hf hb (ro5_7 B bo5_16_1 go5_9_1) rfl rfl (by kernel_rfl)
   have ro5_5 : ∀ B, ∀ (bo5_16_1 : Nat), RA f E B all 3 (bt 18 97791) ⟨83, [(5, .obj bo5_16_1 [I 0, I 0, I 0, I 0, I 0, I 0, I 0, Bo false, .r (.v (.slice none 0 0)), .r (.v (.slice none 0 0)), S (⟨#[]⟩), Bo false]), (36, I p.id), (39, I (IntKind.i64.wrap (p.next - 1))), (40, .agg ((Log.c r.n.log).map .r)), (43, I (IntKind.i64.wrap (p.next - 1))), (49, I r.n.commit)] ++ b0⟩ K := by
    intro B bo5_16_1
    refine RA.of2 hall hf hb (RA.stepH (L := [9]) (Tell.of rfl) (by kernel_rfl) (by simp) (RA.each ?_ (RA.each0)))
    ·skip
     refine RO.call rfl rfl (spec_LogTerm_fn r.n.log (IntKind.i64.wrap (p.next - 1)) hl (wrap_le _)) rfl (.cons (.agg (.cons (.r .r) (.cons (.r .r) (.cons (.r .r) (.nil))))) (.cons (.one (.r .r)) (.nil))) rfl fun go5_9_1 => ?_
     refine RA.fr XK 83 1 [15] (bt 18 131071) rfl rfl (by kernel_rfl) (Tell.of rfl) ?_
     (conv=>whnf);refine ⟨rfl,fun B=>?_⟩
     exact RA.to2 hall hf hb (ro5_7 B bo5_16_1 go5_9_1) rfl rfl (by kernel_rfl)
   have ro5_4 : ∀ B, ∀ (bo5_16_1 : Nat), ∀ (go5_9_1 : Nat → Nat → Value), RA f E B all 3 (bt 18 81919) ⟨83, [(5, .obj bo5_16_1 [I 0, I 0, I 0, I 0, I 0, I 0, I 0, Bo false, .r (.v (.slice none 0 0)), .r (.v (.slice none 0 0)), S (⟨#[]⟩), Bo false]), (36, I p.id), (39, I (IntKind.i64.wrap (p.next - 1))), (44, I (logTerm r.n.log (IntKind.i64.wrap (p.next - 1)))), (48, .pt 0 (bo 0) 9)] ++ b0⟩ K := by
    intro B bo5_16_1 go5_9_1
    refine RA.of2 hall hf hb (RA.stepH (L := [14]) (Tell.of rfl) (by kernel_rfl) (by simp) (RA.each ?_ (RA.each0)))
    ·skip
     refine RO.v rfl rfl (V.loadPrim (d := I r.n.commit) rfl rfl (.inl rfl) rfl rfl rfl) rfl ?_
     refine RA.fr XK 83 1 [15] (bt 18 131071) rfl rfl (by kernel_rfl) (Tell.of rfl) ?_
     (conv=>whnf);refine ⟨rfl,fun B=>?_⟩
     exact RA.to2 hall hf hb (ro5_7 B bo5_16_1 go5_9_1) rfl rfl (by kernel_rfl)
   have ro5_3 : ∀ B, ∀ (bo5_16_1 : Nat), RA f E B all 4 (bt 18 81407) ⟨83, [(5, .obj bo5_16_1 [I 0, I 0, I 0, I 0, I 0, I 0, I 0, Bo false, .r (.v (.slice none 0 0)), .r (.v (.slice none 0 0)), S (⟨#[]⟩), Bo false]), (36, I p.id), (39, I (IntKind.i64.wrap (p.next - 1))), (40, .agg ((Log.c r.n.log).map .r)), (43, I (IntKind.i64.wrap (p.next - 1))), (48, .pt 0 (bo 0) 9)] ++ b0⟩ K := by
    intro B bo5_16_1
    refine RA.of2 hall hf hb (RA.stepH (L := [9, 14]) (Tell.of rfl) (by kernel_rfl) (by simp) (RA.each ?_ (RA.each ?_ (RA.each0))))
    ·skip
     refine RO.call rfl rfl (spec_LogTerm_fn r.n.log (IntKind.i64.wrap (p.next - 1)) hl (wrap_le _)) rfl (.cons (.agg (.cons (.r .r) (.cons (.r .r) (.cons (.r .r) (.nil))))) (.cons (.one (.r .r)) (.nil))) rfl fun go5_9_1 => ?_
     exact RA.to2 hall hf hb (ro5_4 B bo5_16_1 go5_9_1) rfl rfl (by kernel_rfl)
    ·skip
     refine RO.v rfl rfl (V.loadPrim (d := I r.n.commit) rfl rfl (.inl rfl) rfl rfl rfl) rfl ?_
     exact RA.to2 hall hf hb (ro5_5 B bo5_16_1) rfl rfl (by kernel_rfl)
   have ro5_2 : ∀ B, RA f E B all 4 (bt 18 32255) ⟨83, [(36, I p.id), (39, I (IntKind.i64.wrap (p.next - 1))), (40, .agg ((Log.c r.n.log).map .r)), (43, I (IntKind.i64.wrap (p.next - 1))), (49, I r.n.commit)] ++ b0⟩ K := by
    intro B
    refine RA.of2 hall hf hb (RA.stepH (L := [9, 16]) (Tell.of rfl) (by kernel_rfl) (by simp) (RA.each ?_ (RA.each ?_ (RA.each0))))
    ·skip
     refine RO.call rfl rfl (spec_LogTerm_fn r.n.log (IntKind.i64.wrap (p.next - 1)) hl (wrap_le _)) rfl (.cons (.agg (.cons (.r .r) (.cons (.r .r) (.cons (.r .r) (.nil))))) (.cons (.one (.r .r)) (.nil))) rfl fun go5_9_1 => ?_
     refine RA.fr XK 83 2 [15] (bt 18 65535) rfl rfl (by kernel_rfl) (Tell.of rfl) ?_
     (conv=>whnf);refine ⟨rfl,fun B=>?_⟩
     exact RA.to2 hall hf hb (ro5_6 B go5_9_1) rfl rfl (by kernel_rfl)
    ·skip
     refine RO.alloc (ds := [I 0, I 0, I 0, I 0, I 0, I 0, I 0, Bo false, .r (.v (.slice none 0 0)), .r (.v (.slice none 0 0)), S (⟨#[]⟩), Bo false]) rfl rfl rfl rfl rfl rfl fun bo5_16_1 => ?_
     exact RA.to2 hall hf hb (ro5_5 B bo5_16_1) rfl rfl (by kernel_rfl)
   have ro5_1 : ∀ B, ∀ (go5_9_1 : Nat → Nat → Value), RA f E B all 4 (bt 18 16383) ⟨83, [(36, I p.id), (39, I (IntKind.i64.wrap (p.next - 1))), (44, I (logTerm r.n.log (IntKind.i64.wrap (p.next - 1)))), (48, .pt 0 (bo 0) 9)] ++ b0⟩ K := by
    intro B go5_9_1
    refine RA.of2 hall hf hb (RA.stepH (L := [14, 16]) (Tell.of rfl) (by kernel_rfl) (by simp) (RA.each ?_ (RA.each ?_ (RA.each0))))
    ·skip
     refine RO.v rfl rfl (V.loadPrim (d := I r.n.commit) rfl rfl (.inl rfl) rfl rfl rfl) rfl ?_
     refine RA.fr XK 83 2 [15] (bt 18 65535) rfl rfl (by kernel_rfl) (Tell.of rfl) ?_
     (conv=>whnf);refine ⟨rfl,fun B=>?_⟩
     exact RA.to2 hall hf hb (ro5_6 B go5_9_1) rfl rfl (by kernel_rfl)
    ·skip
     refine RO.alloc (ds := [I 0, I 0, I 0, I 0, I 0, I 0, I 0, Bo false, .r (.v (.slice none 0 0)), .r (.v (.slice none 0 0)), S (⟨#[]⟩), Bo false]) rfl rfl rfl rfl rfl rfl fun bo5_16_1 => ?_
     exact RA.to2 hall hf hb (ro5_4 B bo5_16_1 go5_9_1) rfl rfl (by kernel_rfl)
   have ro5_0 : ∀ B, RA f E B all 5 (bt 18 15871) ⟨83, [(36, I p.id), (39, I (IntKind.i64.wrap (p.next - 1))), (40, .agg ((Log.c r.n.log).map .r)), (43, I (IntKind.i64.wrap (p.next - 1))), (48, .pt 0 (bo 0) 9)] ++ b0⟩ K := by
    intro B
    refine RA.of2 hall hf hb (RA.stepH (L := [9, 14, 16]) (Tell.of rfl) (by kernel_rfl) (by simp) (RA.each ?_ (RA.each ?_ (RA.each ?_ (RA.each0)))))
    ·skip
     refine RO.call rfl rfl (spec_LogTerm_fn r.n.log (IntKind.i64.wrap (p.next - 1)) hl (wrap_le _)) rfl (.cons (.agg (.cons (.r .r) (.cons (.r .r) (.cons (.r .r) (.nil))))) (.cons (.one (.r .r)) (.nil))) rfl fun go5_9_1 => ?_
     exact RA.to2 hall hf hb (ro5_1 B go5_9_1) rfl rfl (by kernel_rfl)
    ·skip
     refine RO.v rfl rfl (V.loadPrim (d := I r.n.commit) rfl rfl (.inl rfl) rfl rfl rfl) rfl ?_
     exact RA.to2 hall hf hb (ro5_2 B) rfl rfl (by kernel_rfl)
    ·skip
     refine RO.alloc (ds := [I 0, I 0, I 0, I 0, I 0, I 0, I 0, Bo false, .r (.v (.slice none 0 0)), .r (.v (.slice none 0 0)), S (⟨#[]⟩), Bo false]) rfl rfl rfl rfl rfl rfl fun bo5_16_1 => ?_
     exact RA.to2 hall hf hb (ro5_3 B bo5_16_1) rfl rfl (by kernel_rfl)
   refine RA.start (by kernel_rfl) (by kernel_rfl) (m := 18) (ls' := (bt 18 0)) ?_
   refine RA.fr XK 83 5 [0,1,2,3,4,5,6,7,8,10,11,12,13] (bt 18 15871) rfl rfl (by kernel_rfl) (Tell.of rfl) ?_
   (conv=>whnf);refine ⟨rfl,fun B=>?_⟩
   exact RA.to2 hall hf hb (ro5_0 B) rfl rfl (by kernel_rfl)
  ·rintro ⟨bo5_16_1, go5_9_1⟩
   refine CW.seq ?_
   refine CW.k XK 83 1 [0,4,5,6] rfl ?_
   (conv=>whnf);refine ⟨rfl,?_⟩
   refine CW.block ?_
   refine CW.nilCell 5 8 3 Entry.c rfl rfl ?_
   refine CW.loopI 83 (fun (zz : Nat × Value) => match zz with | (k, X) => [(0, .obj (bo 0) [I r.n.id, I r.n.term_, I r.n.vote, I r.n.role, I r.n.lead, .r (sl 1 cI r.n.conf), I r.n.log.start, I r.n.log.startTerm, .r (sl 3 Entry.c r.n.log.entries), I r.n.commit, I r.n.clock, I r.n.limit, .r (sl 1 cI r.n.votes), .r (sl 4 Peer.c r.n.peers), .w (sl 12 Message.c r.told) (g 0 14)]), (4, .rp (Log.c r.n.log)), (5, .obj bo5_16_1 [I 3, I 0, I p.id, I 0, I (IntKind.i64.wrap (p.next - 1)), I (logTerm r.n.log (IntKind.i64.wrap (p.next - 1))), I r.n.commit, Bo false, .w (sl 3 Entry.c ((sendL r.n p).take (k - sendK r.n p))) X, .r (.v (.slice none 0 0)), S (⟨#[]⟩), Bo false]), (6, I (k : Int))]) (fun (zz : Nat × Value) => match zz with | (k, X) => sendK r.n p ≤ k ∧ k ≤ r.n.log.entries.length ∧ k ≤ sendK r.n p + 4) (fun (zz : Nat × Value) => match zz with | (k, X) => r.n.log.entries.length - k) (sendK r.n p, _) rfl (Le.c rfl <| Le.c rfl <| Le.c (congrArg (fun l_ => D.obj bo5_16_1 [I 3, I 0, I p.id, I 0, I (IntKind.i64.wrap (p.next - 1)), I (logTerm r.n.log (IntKind.i64.wrap (p.next - 1))), I r.n.commit, Bo false, .w (sl 3 Entry.c l_) (.slice none 0 0), .r (.v (.slice none 0 0)), S (⟨#[]⟩), Bo false]) (by rw [Nat.sub_self]; rfl)) <| Le.c (congrArg I hk0.1) <| Le.e) ⟨by omega, by omega, by omega⟩ ?_
   rintro ⟨k, X⟩ ⟨hb0, hb, hj4⟩
   refine CW.seq ?_
   refine CW.seqJ 83 (fun (v6 : Bool) => [(0, .obj (bo 0) [I r.n.id, I r.n.term_, I r.n.vote, I r.n.role, I r.n.lead, .r (sl 1 cI r.n.conf), I r.n.log.start, I r.n.log.startTerm, .r (sl 3 Entry.c r.n.log.entries), I r.n.commit, I r.n.clock, I r.n.limit, .r (sl 1 cI r.n.votes), .r (sl 4 Peer.c r.n.peers), .w (sl 12 Message.c r.told) (g 0 14)]), (4, .rp (Log.c r.n.log)), (5, .obj bo5_16_1 [I 3, I 0, I p.id, I 0, I (IntKind.i64.wrap (p.next - 1)), I (logTerm r.n.log (IntKind.i64.wrap (p.next - 1))), I r.n.commit, Bo false, .w (sl 3 Entry.c ((sendL r.n p).take (k - sendK r.n p))) X, .r (.v (.slice none 0 0)), S (⟨#[]⟩), Bo false]), (6, I (k : Int)), (67, Bo v6)]) (fun v6 => v6 = (decide ((k : Int) < (r.n.log.entries.length : Int)) && decide ((((sendL r.n p).take (k - sendK r.n p)).length : Int) < 4))) ?_ ?_
   ·refine CW.region ?_
    refine RW.k XK 83 6 rfl ?_
    (conv=>whnf);refine ⟨rfl,?_⟩
    refine RW.gv rfl rfl rfl rfl (fun h7 => V.field rfl rfl rfl rfl (by decide) rfl) (fun h7 => ?_) (fun h7 => ?_)
    ·skip
     refine RW.k XK 83 4 rfl ?_
     (conv=>whnf);refine ⟨rfl,?_⟩
     refine RW.nil ?_
     exact ⟨_, by first | rfl | (simp_all; done) | (simp_all; omega) | grind, rfl, Le.of rfl⟩
    ·skip
     refine RW.k XK 83 4 rfl ?_
     (conv=>whnf);refine ⟨rfl,?_⟩
     refine RW.nil ?_
     exact ⟨_, by first | rfl | (simp_all; done) | (simp_all; omega) | grind, rfl, Le.of rfl⟩
   ·intro v6 hv8
    refine CW.cond rfl (fun h9 => ?_) (fun h9 => ?_)
    ·skip
     have hll : ((sendL r.n p).take (k - sendK r.n p)).length = k - sendK r.n p := by rw [List.length_take]; omega
     have hjj := hv8.symm.trans h9
     rw [hll] at hjj
     obtain ⟨ek, hek⟩ : ∃ e, r.n.log.entries[k]? = some e := ⟨_, List.getElem?_eq_getElem (by simp at hjj; omega)⟩
     have hkl : k < r.n.log.entries.length ∧ k - sendK r.n p < 4 := by simp at hjj; omega
     refine CW.skip ?_
     refine CW.keep 83 [0,4,5,6] rfl ?_;(conv=>whnf);refine ⟨?_⟩
     refine CW.seq ?_
     refine CW.block ?_
     refine CW.anyR2 (fc := []) (L0 := [(0, .obj (bo 0) [I r.n.id, I r.n.term_, I r.n.vote, I r.n.role, I r.n.lead, .r (sl 1 cI r.n.conf), I r.n.log.start, I r.n.log.startTerm, .r (sl 3 Entry.c r.n.log.entries), I r.n.commit, I r.n.clock, I r.n.limit, .r (sl 1 cI r.n.votes), .r (sl 4 Peer.c r.n.peers), .w (sl 12 Message.c r.told) (g 0 14)]), (4, .rp (Log.c r.n.log)), (6, I (k : Int))]) 83 (fun (zz : Value × Value) => match zz with | (Xo10_7_1, Xo10_8_1) => [(5, .obj bo5_16_1 [I 3, I 0, I p.id, I 0, I (IntKind.i64.wrap (p.next - 1)), I (logTerm r.n.log (IntKind.i64.wrap (p.next - 1))), I r.n.commit, Bo false, .w (sl 3 Entry.c (((sendL r.n p).take (k - sendK r.n p)) ++ ([ek]))) Xo10_8_1, .r (.v (.slice none 0 0)), S (⟨#[]⟩), Bo false])]) (fun all hall f hf b0 hb K hK => ?_) ?_
     ·skip
      have ro10_5 : ∀ B, ∀ (Xo10_7_1 : Value), ∀ (Xo10_8_1 : Value), RA f E B all 0 (bt 11 2047) ⟨83, [(5, .obj bo5_16_1 [I 3, I 0, I p.id, I 0, I (IntKind.i64.wrap (p.next - 1)), I (logTerm r.n.log (IntKind.i64.wrap (p.next - 1))), I r.n.commit, Bo false, .w (sl 3 Entry.c (((sendL r.n p).take (k - sendK r.n p)) ++ ([ek]))) Xo10_8_1, .r (.v (.slice none 0 0)), S (⟨#[]⟩), Bo false])] ++ b0⟩ K := by
       intro B Xo10_7_1 Xo10_8_1
       exact RA.of2 hall hf hb (RA.finH (Tell.of rfl) (by kernel_rfl) (hK (Xo10_7_1, Xo10_8_1) _ rfl (Le.of rfl)))
      have ro10_4 : ∀ B, ∀ (Xo10_7_1 : Value), ∀ (Xo10_8_1 : Value), RA f E B all 1 (bt 11 1023) ⟨83, [(5, .obj bo5_16_1 [I 3, I 0, I p.id, I 0, I (IntKind.i64.wrap (p.next - 1)), I (logTerm r.n.log (IntKind.i64.wrap (p.next - 1))), I r.n.commit, Bo false, .u, .r (.v (.slice none 0 0)), S (⟨#[]⟩), Bo false]), (78, .w (sl 3 Entry.c (((sendL r.n p).take (k - sendK r.n p)) ++ ([ek]))) Xo10_8_1), (79, .pt 5 bo5_16_1 8)] ++ b0⟩ K := by
       intro B Xo10_7_1 Xo10_8_1
       refine RA.of2 hall hf hb (RA.stepH (L := [10]) (Tell.of rfl) (by kernel_rfl) (by simp) (RA.each ?_ (RA.each0)))
       ·skip
        refine RO.store (d := .al 78 none 3 ((((sendL r.n p).take (k - sendK r.n p)) ++ ([ek])).length) Xo10_8_1 0) rfl rfl rfl rfl rfl rfl rfl rfl rfl (Nat.le_of_ble_eq_true rfl) rfl rfl ?_
        refine RA.keep 83 [0,4,5,6,78] rfl ?_;(conv=>whnf);refine ⟨?_⟩
        refine RA.pullT (k := 5) (l := 78) (j := 8) 5 78 8 rfl rfl rfl (by decide) rfl rfl rfl ?_
        refine RA.keep 83 [0,4,5,6] rfl ?_;(conv=>whnf);refine ⟨?_⟩
        exact RA.to2 hall hf hb (ro10_5 B Xo10_7_1 Xo10_8_1) rfl rfl (by kernel_rfl)
      have ro10_3 : ∀ B, ∀ (Xo10_7_1 : Value), RA f E B all 3 (bt 11 255) ⟨83, [(5, .obj bo5_16_1 [I 3, I 0, I p.id, I 0, I (IntKind.i64.wrap (p.next - 1)), I (logTerm r.n.log (IntKind.i64.wrap (p.next - 1))), I r.n.commit, Bo false, .w (sl 3 Entry.c ((sendL r.n p).take (k - sendK r.n p))) X, .r (.v (.slice none 0 0)), S (⟨#[]⟩), Bo false]), (71, .al 5 (some 8) 3 (((sendL r.n p).take (k - sendK r.n p)).length) X 0), (77, .w (sl 3 Entry.c ([ek])) Xo10_7_1)] ++ b0⟩ K := by
       intro B Xo10_7_1
       refine RA.of2 hall hf hb (RA.stepH (L := [8]) (Tell.of rfl) (by kernel_rfl) (by simp) (RA.each ?_ (RA.each0)))
       ·skip
        refine RO.takeO 71 5 8 (by decide) rfl rfl rfl ?_
        refine RO.appendSR (c := Entry.c) (l1 := ((sendL r.n p).take (k - sendK r.n p))) (l2 := [ek]) rfl rfl rfl rfl rfl rfl rfl rfl rfl rfl (.al (k := none) (i := 77) (sz := 3) (V := Xo10_7_1) rfl rfl nofun) (by decide) (Nat.le_of_ble_eq_true rfl) Entry.len (fun _ => rfl) rfl (by simp only [maxLen, List.length_append, List.length_nil, List.length_take, List.length_singleton]; omega) (by simp only [maxLen, List.length_append, List.length_nil, List.length_take, List.length_singleton]; omega) fun Xo10_8_1 => ?_
        refine RA.fr XK 83 1 [9] (bt 11 1023) rfl rfl (by kernel_rfl) (Tell.of rfl) ?_
        (conv=>whnf);refine ⟨rfl,fun B=>?_⟩
        exact RA.to2 hall hf hb (ro10_4 B Xo10_7_1 Xo10_8_1) rfl rfl (by kernel_rfl)
      have ro10_2 : ∀ B, ∀ (Xo10_7_1 : Value), RA f E B all 4 (bt 11 253) ⟨83, [(5, .obj bo5_16_1 [I 3, I 0, I p.id, I 0, I (IntKind.i64.wrap (p.next - 1)), I (logTerm r.n.log (IntKind.i64.wrap (p.next - 1))), I r.n.commit, Bo false, .w (sl 3 Entry.c ((sendL r.n p).take (k - sendK r.n p))) X, .r (.v (.slice none 0 0)), S (⟨#[]⟩), Bo false]), (70, .pt 5 bo5_16_1 8), (77, .w (sl 3 Entry.c ([ek])) Xo10_7_1)] ++ b0⟩ K := by
       intro B Xo10_7_1
       refine RA.of2 hall hf hb (RA.stepH (L := [1]) (Tell.of rfl) (by kernel_rfl) (by simp) (RA.each ?_ (RA.each0)))
       ·skip
        refine RO.v rfl rfl (V.loadPrim (d := .al 5 (some 8) 3 (((sendL r.n p).take (k - sendK r.n p)).length) X 0) rfl rfl (.inr ⟨_, rfl⟩) rfl rfl rfl) rfl ?_
        exact RA.to2 hall hf hb (ro10_3 B Xo10_7_1) rfl rfl (by kernel_rfl)
      have ro10_1 : ∀ B, RA f E B all 4 (bt 11 127) ⟨83, [(5, .obj bo5_16_1 [I 3, I 0, I p.id, I 0, I (IntKind.i64.wrap (p.next - 1)), I (logTerm r.n.log (IntKind.i64.wrap (p.next - 1))), I r.n.commit, Bo false, .w (sl 3 Entry.c ((sendL r.n p).take (k - sendK r.n p))) X, .r (.v (.slice none 0 0)), S (⟨#[]⟩), Bo false]), (71, .al 5 (some 8) 3 (((sendL r.n p).take (k - sendK r.n p)).length) X 0), (76, .agg ((Entry.c ek).map .r))] ++ b0⟩ K := by
       intro B
       refine RA.of2 hall hf hb (RA.stepH (L := [7]) (Tell.of rfl) (by kernel_rfl) (by simp) (RA.each ?_ (RA.each0)))
       ·skip
        refine RO.build1 (c := Entry.c) (v := ek) rfl rfl rfl rfl rfl rfl rfl rfl (DW.v (DW.v (DW.v DW.e))) Entry.len (by decide) (by decide) fun Xo10_7_1 => ?_
        exact RA.to2 hall hf hb (ro10_3 B Xo10_7_1) rfl rfl (by kernel_rfl)
      have ro10_0 : ∀ B, RA f E B all 5 (bt 11 125) ⟨83, [(5, .obj bo5_16_1 [I 3, I 0, I p.id, I 0, I (IntKind.i64.wrap (p.next - 1)), I (logTerm r.n.log (IntKind.i64.wrap (p.next - 1))), I r.n.commit, Bo false, .w (sl 3 Entry.c ((sendL r.n p).take (k - sendK r.n p))) X, .r (.v (.slice none 0 0)), S (⟨#[]⟩), Bo false]), (70, .pt 5 bo5_16_1 8), (76, .agg ((Entry.c ek).map .r))] ++ b0⟩ K := by
       intro B
       refine RA.of2 hall hf hb (RA.stepH (L := [1, 7]) (Tell.of rfl) (by kernel_rfl) (by simp) (RA.each ?_ (RA.each ?_ (RA.each0))))
       ·skip
        refine RO.v rfl rfl (V.loadPrim (d := .al 5 (some 8) 3 (((sendL r.n p).take (k - sendK r.n p)).length) X 0) rfl rfl (.inr ⟨_, rfl⟩) rfl rfl rfl) rfl ?_
        exact RA.to2 hall hf hb (ro10_1 B) rfl rfl (by kernel_rfl)
       ·skip
        refine RO.build1 (c := Entry.c) (v := ek) rfl rfl rfl rfl rfl rfl rfl rfl (DW.v (DW.v (DW.v DW.e))) Entry.len (by decide) (by decide) fun Xo10_7_1 => ?_
        exact RA.to2 hall hf hb (ro10_2 B Xo10_7_1) rfl rfl (by kernel_rfl)
      refine RA.start (by kernel_rfl) (by kernel_rfl) (m := 11) (ls' := (bt 11 0)) ?_
      refine RA.fr XK 83 7 [0,2,3,4] (bt 11 29) rfl rfl (by kernel_rfl) (Tell.of rfl) ?_
      (conv=>whnf);refine ⟨rfl,fun B=>?_⟩
      refine RA.first (i := 5) (ls' := (bt 11 61)) (Tell.of rfl) (by kernel_rfl) rfl rfl rfl (VF.p (V.indexS rfl rfl rfl rfl rfl rfl Entry.len hek)) ?_
      refine RA.fr XK 83 5 [6] (bt 11 125) rfl rfl (by kernel_rfl) (Tell.of rfl) ?_
      (conv=>whnf);refine ⟨rfl,fun B=>?_⟩
      exact RA.to2 hall hf hb (ro10_0 B) rfl rfl (by kernel_rfl)
     ·rintro ⟨Xo10_7_1, Xo10_8_1⟩
      refine CW.keep 83 [0,4,5,6] rfl ?_;(conv=>whnf);refine ⟨?_⟩
      refine CW.region ?_
      refine RW.k XK 83 1 rfl ?_
      (conv=>whnf);refine ⟨rfl,?_⟩
      refine RW.v rfl (V.inc rfl rfl rfl hkl.1 hl0) ?_
      refine RW.k XK 83 1 rfl ?_
      (conv=>whnf);refine ⟨rfl,?_⟩
      refine RW.nil ?_
      exact ⟨(k + 1, _), by show r.n.log.entries.length - (k + 1) < r.n.log.entries.length - k; omega, ⟨by omega, by omega, by omega⟩, rfl, Le.c rfl <| Le.c rfl <| Le.c (congrArg (fun l_ => D.obj bo5_16_1 [I 3, I 0, I p.id, I 0, I (IntKind.i64.wrap (p.next - 1)), I (logTerm r.n.log (IntKind.i64.wrap (p.next - 1))), I r.n.commit, Bo false, .w (sl 3 Entry.c l_) Xo10_8_1, .r (.v (.slice none 0 0)), S (⟨#[]⟩), Bo false]) (by rw [show k + 1 - sendK r.n p = (k - sendK r.n p) + 1 from by omega, take_snoc (show (sendL r.n p)[k - sendK r.n p]? = some ek from by rw [List.getElem?_drop, show sendK r.n p + (k - sendK r.n p) = k from by omega]; exact hek)])) <| Le.c rfl <| Le.e⟩
    ·skip
     have hll : ((sendL r.n p).take (k - sendK r.n p)).length = k - sendK r.n p := by rw [List.length_take]; omega
     have hjj := hv8.symm.trans h9
     rw [hll] at hjj
     have hkk : k - sendK r.n p = min 4 (sendL r.n p).length := by simp at hjj; omega
     refine CW.exit ?_
     refine CW.keep 83 [0,5] rfl ?_;(conv=>whnf);refine ⟨?_⟩
     refine CW.region ?_
     refine RW.k XK 83 2 rfl ?_
     (conv=>whnf);refine ⟨rfl,?_⟩
     refine RW.callT (k := 0) (q := 5) (spec_l18Tell_fn r (⟨3, 0, p.id, 0, (IntKind.i64.wrap (p.next - 1)), (logTerm r.n.log (IntKind.i64.wrap (p.next - 1))), r.n.commit, false, ((sendL r.n p).take (k - sendK r.n p)), [], ⟨#[]⟩, false⟩ : Message) hm) rfl rfl (by decide) (by decide) rfl rfl (DT.r (DT.r (DT.r (DT.r (DT.r (DT.r (DT.r (DT.r (DT.r (DT.r (DT.r (DT.r (DT.r (DT.r (DT.w DT.e))))))))))))))) rfl (Nat.le_of_ble_eq_true rfl) (Tk.obj ⟨_, (Hand.v (Hand.v (Hand.v (Hand.v (Hand.v (Hand.v (Hand.v (Hand.v (Hand.w (Hand.n (Hand.v (Hand.v Hand.e))))))))))))⟩) fun q11 => ?_
     refine RW.nil ?_
     exact Post.tup (by decide) RVs.e (AOs.obE (f := fun e => l18Run.m e) (e' := (⟨r.n, r.told ++ [tellM r.n (⟨3, 0, p.id, 0, (IntKind.i64.wrap (p.next - 1)), (logTerm r.n.log (IntKind.i64.wrap (p.next - 1))), r.n.commit, false, ((sendL r.n p).take (k - sendK r.n p)), [], ⟨#[]⟩, false⟩ : Message)]⟩ : l18Run)) rfl (DT.r (DT.r (DT.r (DT.r (DT.r (DT.r (DT.r (DT.r (DT.r (DT.r (DT.r (DT.r (DT.r (DT.r (DT.w DT.e))))))))))))))) (by rw [send_up h3 hkk]) (AOs.a rfl AOs.e))
set_option maxHeartbeats 4000000 in
theorem spec_l18SendAll_fn (r : l18Run) (hl : logB r.n.log) (hp : ∀ p ∈ r.n.peers, peerB r.n.log p) (hc : r.n.conf.length ≤ 1048576) (hm : r.n.peers.length ≤ 1048576) (ht : r.told.length ≤ 1048576) : Eng.Fn E.P 95 [.ob (l18Run.m r)] (.tup []) [.ob (l18Run.m (⟨r.n, r.told ++ r.n.peers.map (sendN r.n)⟩ : l18Run))] := by
 refine Eng.Fn.intro (E := E) (rvs := []) Try.func95 rfl rfl rfl (by simp [outSlots, moved, rvSlot, sl]) ?_
 intro B g bo
 refine CW.keep 23 [0] rfl ?_;(conv=>whnf);refine ⟨?_⟩
 refine CW.k XK 23 1 [0,2] rfl ?_
 (conv=>whnf);refine ⟨rfl,?_⟩
 refine CW.block ?_
 refine CW.loopI 23 (fun (zz : Nat × Value) => match zz with | (i, X) => [(0, .obj (bo 0) [I r.n.id, I r.n.term_, I r.n.vote, I r.n.role, I r.n.lead, .r (sl 1 cI r.n.conf), I r.n.log.start, I r.n.log.startTerm, .r (sl 3 Entry.c r.n.log.entries), I r.n.commit, I r.n.clock, I r.n.limit, .r (sl 1 cI r.n.votes), .r (sl 4 Peer.c r.n.peers), .w (sl 12 Message.c (r.told ++ (r.n.peers.take i).map (sendN r.n))) X]), (2, I (i : Int))]) (fun (zz : Nat × Value) => match zz with | (i, X) => i ≤ r.n.peers.length) (fun (zz : Nat × Value) => match zz with | (i, X) => r.n.peers.length - i) (0, _) rfl (Le.c (congrArg (fun l_ => D.obj (bo 0) [I r.n.id, I r.n.term_, I r.n.vote, I r.n.role, I r.n.lead, .r (sl 1 cI r.n.conf), I r.n.log.start, I r.n.log.startTerm, .r (sl 3 Entry.c r.n.log.entries), I r.n.commit, I r.n.clock, I r.n.limit, .r (sl 1 cI r.n.votes), .r (sl 4 Peer.c r.n.peers), .w (sl 12 Message.c l_) (g 0 14)]) (by simp)) <| Le.c rfl <| Le.e) (by omega) ?_
 rintro ⟨i, X⟩ hb
 have hl0 : r.n.peers.length ≤ maxLen := by simp only [maxLen]; omega
 refine CW.seq ?_
 refine CW.k XK 23 1 [0,2,10] rfl ?_
 (conv=>whnf);refine ⟨rfl,?_⟩
 refine CW.cond rfl (fun h1 => ?_) (fun h1 => ?_)
 ·skip
  have hii : i < r.n.peers.length := by have := h1; simp at this; first | exact this | omega | (simp; done) | (simp; omega)
  obtain ⟨ei, hei⟩ : ∃ e, r.n.peers[i]? = some e := ⟨_, List.getElem?_eq_getElem hii⟩
  have hdi := drop_get hei
  refine CW.skip ?_
  refine CW.keep 23 [0,2] rfl ?_;(conv=>whnf);refine ⟨?_⟩
  refine CW.seq ?_
  refine CW.block ?_
  refine CW.region ?_
  refine RW.k XK 23 7 rfl ?_
  (conv=>whnf);refine ⟨rfl,?_⟩
  refine RW.v rfl (V.indexS rfl rfl rfl rfl rfl rfl Peer.len hei) ?_
  refine RW.k XK 23 1 rfl ?_
  (conv=>whnf);refine ⟨rfl,?_⟩
  refine RW.callP (k := 0) (spec_l18Send_fn (⟨r.n, (r.told ++ (r.n.peers.take i).map (sendN r.n))⟩ : l18Run) ei hl (hp ei (List.mem_of_getElem? hei)) hc (by simp only [List.length_append, List.length_map, List.length_take]; omega)) rfl rfl (Nat.le_of_ble_eq_true rfl) (by decide) rfl (DT.r (DT.r (DT.r (DT.r (DT.r (DT.r (DT.r (DT.r (DT.r (DT.r (DT.r (DT.r (DT.r (DT.r (DT.w DT.e))))))))))))))) (AsPs.here rfl (.cons (.agg (.cons (.r .r) (.cons (.r .r) (.cons (.r .r) (.cons (.r .r) (.nil)))))) (.nil))) fun g2 q3 => ?_
  refine RW.nil ?_
  refine CW.keep 23 [0,2] rfl ?_;(conv=>whnf);refine ⟨?_⟩
  refine CW.region ?_
  refine RW.k XK 23 1 rfl ?_
  (conv=>whnf);refine ⟨rfl,?_⟩
  refine RW.v rfl (V.inc rfl rfl rfl hii hl0) ?_
  refine RW.k XK 23 1 rfl ?_
  (conv=>whnf);refine ⟨rfl,?_⟩
  refine RW.nil ?_
  exact ⟨(i + 1, _), by simp only []; omega, (by omega), rfl, Le.c (congrArg (fun l_ => D.obj (bo 0) [I r.n.id, I r.n.term_, I r.n.vote, I r.n.role, I r.n.lead, .r (sl 1 cI r.n.conf), I r.n.log.start, I r.n.log.startTerm, .r (sl 3 Entry.c r.n.log.entries), I r.n.commit, I r.n.clock, I r.n.limit, .r (sl 1 cI r.n.votes), .r (sl 4 Peer.c r.n.peers), .w (sl 12 Message.c l_) (q3 14)]) (by rw [take_snoc hei, List.map_append, List.append_assoc]; rfl)) <| Le.c rfl <| Le.e⟩
 ·skip
  have hii : r.n.peers.length ≤ i := by have := h1; simp at this; first | exact this | omega | (simp; done) | (simp; omega)
  have hdi : r.n.peers.drop i = [] := List.drop_eq_nil_of_le hii
  refine CW.exit ?_
  exact Post.tup (by decide) RVs.e (AOs.obE (f := fun e => l18Run.m e) (e' := (⟨r.n, (r.told ++ (r.n.peers.take i).map (sendN r.n))⟩ : l18Run)) rfl (DT.r (DT.r (DT.r (DT.r (DT.r (DT.r (DT.r (DT.r (DT.r (DT.r (DT.r (DT.r (DT.r (DT.r (DT.w DT.e))))))))))))))) (by rw [List.take_of_length_le hii]) AOs.e)
set_option maxHeartbeats 4000000 in
theorem spec_l18Follow_fn (r : l18Run) (l : Int) : Eng.Fn E.P 125 [.ob (l18Run.m r), .one (.r (.v (.int .i64 l)))] (.tup []) [.ob (l18Run.m (⟨followN r.n l, r.told⟩ : l18Run)), .one (.r (.v (.int .i64 l)))] := by
 refine Eng.Fn.intro (E := E) (rvs := []) Try.func125 rfl rfl rfl (by simp [outSlots, moved, rvSlot, sl]) ?_
 intro B g bo
 refine CW.keep 23 [0,1] rfl ?_;(conv=>whnf);refine ⟨?_⟩
 refine CW.k XK 23 2 [0] rfl ?_
 (conv=>whnf);refine ⟨rfl,?_⟩
 refine CW.seq ?_
 refine CW.region ?_
 refine RW.k XK 23 1 rfl ?_
 (conv=>whnf);refine ⟨rfl,?_⟩
 refine RW.build0 cI rfl rfl rfl rfl rfl fun X1 => ?_
 refine RW.k XK 23 4 rfl ?_
 (conv=>whnf);refine ⟨rfl,?_⟩
 refine RW.keep 23 [0,14] rfl ?_;(conv=>whnf);refine ⟨?_⟩
 refine RW.pullT (k := 0) (l := 14) (j := 12) 0 14 12 rfl rfl rfl (by decide) rfl rfl rfl ?_
 refine RW.keep 23 [0] rfl ?_;(conv=>whnf);refine ⟨?_⟩
 refine RW.nil ?_
 refine CW.keep 23 [0] rfl ?_;(conv=>whnf);refine ⟨?_⟩
 refine CW.region ?_
 refine RW.k XK 23 1 rfl ?_
 (conv=>whnf);refine ⟨rfl,?_⟩
 refine RW.build0 Peer.c rfl rfl rfl rfl rfl fun X2 => ?_
 refine RW.k XK 23 4 rfl ?_
 (conv=>whnf);refine ⟨rfl,?_⟩
 refine RW.keep 23 [0,19] rfl ?_;(conv=>whnf);refine ⟨?_⟩
 refine RW.pullT (k := 0) (l := 19) (j := 13) 0 19 13 rfl rfl rfl (by decide) rfl rfl rfl ?_
 refine RW.keep 23 [0] rfl ?_;(conv=>whnf);refine ⟨?_⟩
 refine RW.freezeM (k := 0) [false, false, false, false, false, false, false, false, false, false, false, false, true, true, false] rfl (ds' := [I r.n.id, I r.n.term_, I r.n.vote, I 0, I l, .r (sl 1 cI r.n.conf), I r.n.log.start, I r.n.log.startTerm, .r (sl 3 Entry.c r.n.log.entries), I r.n.commit, I r.n.clock, I r.n.limit, .r (sl 1 cI ([] : List Int)), .r (sl 4 Peer.c ([] : List Peer)), .w (sl 12 Message.c r.told) (g 0 14)]) rfl ?_
 refine RW.nil ?_
 exact Post.tup (by decide) RVs.e (AOs.obE (f := fun e => l18Run.m e) (e' := (⟨(⟨r.n.id, r.n.term_, r.n.vote, 0, l, r.n.conf, r.n.log, r.n.commit, r.n.clock, r.n.limit, ([] : List Int), ([] : List Peer)⟩ : Node), r.told⟩ : l18Run)) rfl (DT.r (DT.r (DT.r (DT.r (DT.r (DT.r (DT.r (DT.r (DT.r (DT.r (DT.r (DT.r (DT.r (DT.r (DT.w DT.e))))))))))))))) (by rfl) (AOs.r AOs.e))
set_option maxHeartbeats 4000000 in
theorem spec_l18Room_fn (n : Node) (hl : logB n.log) : Eng.Fn E.P 89 [.agg ((Node.c n).map .r)] (.one (.one (.w (.v (.bool (room n.log)))))) [.agg ((Node.c n).map .r)] := by
 refine Eng.Fn.intro (E := E) (rvs := [.tmp 2]) Try.func89 rfl rfl rfl (by simp [outSlots, moved, rvSlot, sl]) ?_
 intro B g bo
 refine CW.keep 14 [0] rfl ?_;(conv=>whnf);refine ⟨?_⟩
 refine CW.seq ?_
 refine CW.region ?_
 refine RW.k XK 14 1 rfl ?_
 (conv=>whnf);intro b1;(conv=>whnf);refine ⟨rfl,?_⟩
 refine RW.freezeB (ts := (Node.c n)) 1 rfl (DRd.r (DRd.r (DRd.r (DRd.r (DRd.r (DRd.r (DRd.r (DRd.r (DRd.r (DRd.r (DRd.r (DRd.r (DRd.r (DRd.r DRd.e)))))))))))))) ?_
 refine RW.k XK 14 1 rfl ?_
 (conv=>whnf);refine ⟨rfl,?_⟩
 refine RW.nil ?_
 refine CW.keep 14 [1] rfl ?_;(conv=>whnf);refine ⟨?_⟩
 refine CW.seqJ 14 (fun (v2 : Bool) => [(2, Bo v2)]) (fun v2 => v2 = (decide ((n.log.entries.length : Int) < 60) && decide ((IntKind.i64.wrap (n.log.start + (n.log.entries.length : Int))) < 1000000))) ?_ ?_
 ·refine CW.region ?_
  refine RW.k XK 14 6 rfl ?_
  (conv=>whnf);refine ⟨rfl,?_⟩
  refine RW.gv rfl rfl rfl rfl (fun h3 => V.fieldR rfl rfl rfl rfl (by decide) rfl (Nat.le_of_ble_eq_true rfl)) (fun h3 => ?_) (fun h3 => ?_)
  ·skip
   refine RW.k XK 14 1 rfl ?_
   (conv=>whnf);refine ⟨rfl,?_⟩
   refine RW.gcall rfl rfl rfl rfl (spec_l06Last_fn n.log) rfl (.cons (.agg (.cons (.r .r) (.cons (.r .r) (.cons (.r .r) (.nil))))) (.nil)) fun g4 => ?_
   refine RW.k XK 14 3 rfl ?_
   (conv=>whnf);refine ⟨rfl,?_⟩
   refine RW.nil ?_
   exact ⟨_, by first | rfl | (simp_all; done) | (simp_all; omega) | grind, rfl, Le.of rfl⟩
  ·skip
   refine RW.k XK 14 5 rfl ?_
   (conv=>whnf);refine ⟨rfl,?_⟩
   refine RW.nil ?_
   exact ⟨_, by first | rfl | (simp_all; done) | (simp_all; omega) | grind, rfl, Le.of rfl⟩
 ·intro v2 hv5
  refine CW.ret ?_
  exact Post.one (RV.b rfl (by obtain ⟨l1, l2, l3⟩ := id hl; rw [hv5, room, logLast_1 hl, show IntKind.i64.wrap (n.log.start + (n.log.entries.length : Int)) = n.log.start + (n.log.entries.length : Int) from by rw [IntKind.wrap_i64]; omega])) (AOs.a rfl AOs.e)
set_option maxHeartbeats 4000000 in
theorem spec_l18ConfIndex_fn (n : Node) (hl : logB n.log) : Eng.Fn E.P 91 [.agg ((Node.c n).map .r)] (.one (.one (.w (.v (.int .i64 (confIx n.log n.log.entries.length)))))) [.agg ((Node.c n).map .r)] := by
 refine Eng.Fn.intro (E := E) (rvs := [.tmp 2]) Try.func91 rfl rfl rfl (by simp [outSlots, moved, rvSlot, sl]) ?_
 intro B g bo
 refine CW.keep 31 [0] rfl ?_;(conv=>whnf);refine ⟨?_⟩
 have hl0 : n.log.entries.length ≤ maxLen := by have := hl.2.2; simp only [maxLen]; omega
 refine CW.seq ?_
 refine CW.region ?_
 refine RW.k XK 31 1 rfl ?_
 (conv=>whnf);intro b1;(conv=>whnf);refine ⟨rfl,?_⟩
 refine RW.freezeB (ts := (Node.c n)) 1 rfl (DRd.r (DRd.r (DRd.r (DRd.r (DRd.r (DRd.r (DRd.r (DRd.r (DRd.r (DRd.r (DRd.r (DRd.r (DRd.r (DRd.r DRd.e)))))))))))))) ?_
 refine RW.k XK 31 1 rfl ?_
 (conv=>whnf);refine ⟨rfl,?_⟩
 refine RW.nil ?_
 refine CW.keep 31 [1] rfl ?_;(conv=>whnf);refine ⟨?_⟩
 refine CW.k XK 31 1 [1,3] rfl ?_
 (conv=>whnf);refine ⟨rfl,?_⟩
 refine CW.seq ?_
 refine CW.k XK 31 1 [1,3,4] rfl ?_
 (conv=>whnf);refine ⟨rfl,?_⟩
 refine CW.block ?_
 refine CW.loopI 31 (fun (i : Nat) => [(1, .rp (Node.c n)), (3, I (confIx n.log i)), (4, I (i : Int))]) (fun (i : Nat) => i ≤ n.log.entries.length) (fun (i : Nat) => n.log.entries.length - i) 0 rfl (Le.c rfl <| Le.c rfl <| Le.c rfl <| Le.e) (by omega) ?_
 rintro i hb
 refine CW.seq ?_
 refine CW.k XK 31 1 [1,3,4,13] rfl ?_
 (conv=>whnf);refine ⟨rfl,?_⟩
 refine CW.cond rfl (fun h2 => ?_) (fun h2 => ?_)
 ·skip
  have hii : i < n.log.entries.length := by have := h2; simp at this; first | exact this | omega | (simp; done) | (simp; omega)
  obtain ⟨ei, hei⟩ : ∃ e, n.log.entries[i]? = some e := ⟨_, List.getElem?_eq_getElem hii⟩
  have hdi := drop_get hei
  refine CW.skip ?_
  refine CW.keep 31 [1,3,4] rfl ?_;(conv=>whnf);refine ⟨?_⟩
  refine CW.seq ?_
  refine CW.block ?_
  refine CW.seq ?_
  refine CW.region ?_
  refine RW.k XK 31 4 rfl ?_
  (conv=>whnf);refine ⟨rfl,?_⟩
  refine RW.v rfl (V.indexS rfl rfl rfl rfl rfl rfl Entry.len hei) ?_
  refine RW.k XK 31 3 rfl ?_
  (conv=>whnf);refine ⟨rfl,?_⟩
  refine RW.nil ?_
  refine CW.keep 31 [1,3,4,23] rfl ?_;(conv=>whnf);refine ⟨?_⟩
  refine CW.cond rfl (fun h3 => ?_) (fun h3 => ?_)
  ·skip
   have hkd : (ei.kind == 2) = true := h3
   refine CW.region ?_
   refine RW.k XK 31 7 rfl ?_
   (conv=>whnf);refine ⟨rfl,?_⟩
   refine RW.nil ?_
   refine CW.keep 31 [1,3,4] rfl ?_;(conv=>whnf);refine ⟨?_⟩
   refine CW.region ?_
   refine RW.k XK 31 1 rfl ?_
   (conv=>whnf);refine ⟨rfl,?_⟩
   refine RW.v rfl (V.inc rfl rfl rfl hii hl0) ?_
   refine RW.k XK 31 1 rfl ?_
   (conv=>whnf);refine ⟨rfl,?_⟩
   refine RW.nil ?_
   exact ⟨i + 1, by omega, (by omega), rfl, Le.c rfl <| Le.c (congrArg I (by first | exact confIx_yes hei hkd | exact confIx_no hei hkd)) <| Le.c rfl <| Le.e⟩
  ·skip
   have hkd : (ei.kind == 2) = false := h3
   refine CW.skip ?_
   refine CW.keep 31 [1,3,4] rfl ?_;(conv=>whnf);refine ⟨?_⟩
   refine CW.region ?_
   refine RW.k XK 31 1 rfl ?_
   (conv=>whnf);refine ⟨rfl,?_⟩
   refine RW.v rfl (V.inc rfl rfl rfl hii hl0) ?_
   refine RW.k XK 31 1 rfl ?_
   (conv=>whnf);refine ⟨rfl,?_⟩
   refine RW.nil ?_
   exact ⟨i + 1, by omega, (by omega), rfl, Le.c rfl <| Le.c (congrArg I (by first | exact confIx_yes hei hkd | exact confIx_no hei hkd)) <| Le.c rfl <| Le.e⟩
 ·skip
  have hii : n.log.entries.length ≤ i := by have := h2; simp at this; first | exact this | omega | (simp; done) | (simp; omega)
  have hdi : n.log.entries.drop i = [] := List.drop_eq_nil_of_le hii
  refine CW.exit ?_
  refine CW.keep 31 [3] rfl ?_;(conv=>whnf);refine ⟨?_⟩
  refine CW.k XK 31 1 [2] rfl ?_
  (conv=>whnf);refine ⟨rfl,?_⟩
  refine CW.ret ?_
  exact Post.one (RV.i rfl (by rw [show i = n.log.entries.length from by omega])) (AOs.a rfl AOs.e)
end Go.Proofs.Ytbiocicogminlaa.Y
