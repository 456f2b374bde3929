import Derived.Test.YtmhnehgpmndiiaaWMessagesA
namespace Go.Proofs.Ytmhnehgpmndiiaa.Y
open Go Go.RowKit Go.Eng Go.Proofs
set_option maxRecDepth 10000
set_option maxHeartbeats 4000000 in
theorem impl_ReadEntry_fn (t : ByteArray) (ht : t.size ≤ 1048576) : Eng.Fn E.P 28 [.one (.r (.v (.string t)))] (.tup [.one (.w (.v (.int .i64 ((rdEnt t).1)))), .agg ((Entry.c ((rdEnt t).2.1)).map .w), .one (.w (.v (.bool ((rdEnt t).2.2))))]) [.one (.r (.v (.string t)))] := by
 refine Eng.Fn.intro (E := E) (rvs := [.tmp 2, .cell 3 44, .tmp 4]) Try.func28 rfl rfl rfl (by simp [outSlots, moved, rvSlot, sl]) ?_
 intro B g bo
 refine CW.keep 46 [0] rfl ?_;(conv=>whnf);refine ⟨?_⟩
 refine CW.k XK 46 3 [3,5,6,11] rfl ?_
 (conv=>whnf);intro b1;(conv=>whnf);intro b2;(conv=>whnf);intro b3;(conv=>whnf);refine ⟨rfl,?_⟩
 refine CW.seq ?_
 refine CW.region ?_
 refine RW.k XK 46 1 rfl ?_
 (conv=>whnf);refine ⟨rfl,?_⟩
 refine RW.callP (k := 11) (__impl_scan__one_fn (⟨t, 0, false⟩ : scan) (scan.ok0 ht)) rfl rfl (Nat.le_of_ble_eq_true rfl) (by decide) rfl (DT.r (DT.r (DT.r DT.e))) (AsPs.here rfl (.nil)) fun g4 q5 => ?_
 refine RW.k XK 46 1 rfl ?_
 (conv=>whnf);refine ⟨rfl,?_⟩
 refine RW.nil ?_
 refine CW.keep 46 [3,5,6,7,11] rfl ?_;(conv=>whnf);refine ⟨?_⟩
 refine CW.seq ?_
 refine CW.region ?_
 refine RW.k XK 46 1 rfl ?_
 (conv=>whnf);refine ⟨rfl,?_⟩
 refine RW.callP (k := 11) (__impl_scan__number_fn (oneS (⟨t, 0, false⟩ : scan)) (oneS_ok (scan.ok0 ht))) rfl rfl (Nat.le_of_ble_eq_true rfl) (by decide) rfl (DT.r (DT.r (DT.r DT.e))) (AsPs.here rfl (.nil)) fun g6 q7 => ?_
 refine RW.k XK 46 1 rfl ?_
 (conv=>whnf);refine ⟨rfl,?_⟩
 refine RW.nil ?_
 refine CW.keep 46 [3,5,6,7,8,11] rfl ?_;(conv=>whnf);refine ⟨?_⟩
 refine CW.seq ?_
 refine CW.region ?_
 refine RW.k XK 46 1 rfl ?_
 (conv=>whnf);refine ⟨rfl,?_⟩
 refine RW.callP (k := 11) (__impl_scan__number_fn (numS (oneS (⟨t, 0, false⟩ : scan))) (numS_ok (oneS_ok (scan.ok0 ht)))) rfl rfl (Nat.le_of_ble_eq_true rfl) (by decide) rfl (DT.r (DT.r (DT.r DT.e))) (AsPs.here rfl (.nil)) fun g8 q9 => ?_
 refine RW.k XK 46 2 rfl ?_
 (conv=>whnf);refine ⟨rfl,?_⟩
 refine RW.nil ?_
 refine CW.keep 46 [3,5,6,7,8,11] rfl ?_;(conv=>whnf);refine ⟨?_⟩
 refine CW.seq ?_
 refine CW.region ?_
 refine RW.k XK 46 1 rfl ?_
 (conv=>whnf);refine ⟨rfl,?_⟩
 refine RW.callP (k := 11) (__impl_scan__one_fn (numS (numS (oneS (⟨t, 0, false⟩ : scan)))) (numS_ok (numS_ok (oneS_ok (scan.ok0 ht))))) rfl rfl (Nat.le_of_ble_eq_true rfl) (by decide) rfl (DT.r (DT.r (DT.r DT.e))) (AsPs.here rfl (.nil)) fun g10 q11 => ?_
 refine RW.k XK 46 2 rfl ?_
 (conv=>whnf);refine ⟨rfl,?_⟩
 refine RW.nil ?_
 refine CW.keep 46 [3,5,6,7,8,11] rfl ?_;(conv=>whnf);refine ⟨?_⟩
 refine CW.seq ?_
 refine CW.region ?_
 refine RW.k XK 46 1 rfl ?_
 (conv=>whnf);refine ⟨rfl,?_⟩
 refine RW.callP (k := 11) (__impl_scan__rest_fn (oneS (numS (numS (oneS (⟨t, 0, false⟩ : scan))))) (oneS_ok (numS_ok (numS_ok (oneS_ok (scan.ok0 ht)))))) rfl rfl (Nat.le_of_ble_eq_true rfl) (by decide) rfl (DT.r (DT.r (DT.r DT.e))) (AsPs.here rfl (.nil)) fun g12 q13 => ?_
 refine RW.k XK 46 2 rfl ?_
 (conv=>whnf);refine ⟨rfl,?_⟩
 refine RW.nil ?_
 refine CW.keep 46 [3,5,6,7,8,11] rfl ?_;(conv=>whnf);refine ⟨?_⟩
 refine CW.seq ?_
 refine CW.seqJ 46 (fun (v14 : Bool) => [(3, .obj b1 [I 0, I 0, S (⟨#[]⟩)]), (6, .obj b3 [I (numV (numS (oneS (⟨t, 0, false⟩ : scan)))), I (oneV (numS (numS (oneS (⟨t, 0, false⟩ : scan))))), S (rsV (oneS (numS (numS (oneS (⟨t, 0, false⟩ : scan))))))]), (8, I (numV (oneS (⟨t, 0, false⟩ : scan)))), (42, Bo v14)]) (fun v14 => v14 = ((((!(doneB (rsS (oneS (numS (numS (oneS (⟨t, 0, false⟩ : scan)))))))) || ((oneV (⟨t, 0, false⟩ : scan)) != 69)) || (!(entOk (⟨(numV (numS (oneS (⟨t, 0, false⟩ : scan)))), (oneV (numS (numS (oneS (⟨t, 0, false⟩ : scan))))), (rsV (oneS (numS (numS (oneS (⟨t, 0, false⟩ : scan))))))⟩ : Entry)))) || (!(inR (numV (oneS (⟨t, 0, false⟩ : scan))) 1 1000000)))) ?_ ?_
 ·refine CW.region ?_
  refine RW.k XK 46 1 rfl ?_
  (conv=>whnf);refine ⟨rfl,?_⟩
  refine RW.callOwn rfl (__impl_scan__done_fn (rsS (oneS (numS (numS (oneS (⟨t, 0, false⟩ : scan))))))) rfl (.cons (.one (.r (.pt rfl rfl (DRd.r (DRd.r (DRd.r DRd.e))) nofun))) (.nil)) rfl fun g15 => ?_
  refine RW.k XK 46 2 rfl ?_
  (conv=>whnf);refine ⟨rfl,?_⟩
  refine RW.gv rfl rfl rfl rfl (fun h16 => V.mv (d := I (oneV (⟨t, 0, false⟩ : scan))) rfl rfl) (fun h16 => ?_) (fun h16 => ?_)
  ·skip
   refine RW.k XK 46 3 rfl ?_
   (conv=>whnf);refine ⟨rfl,?_⟩
   refine RW.gv rfl rfl rfl rfl (fun h17 => V.loadAgg rfl rfl rfl rfl rfl (Nat.le_of_ble_eq_true rfl)) (fun h17 => ?_) (fun h17 => ?_)
   ·skip
    refine RW.gcall rfl rfl rfl rfl (impl_EntryOk_fn (⟨(numV (numS (oneS (⟨t, 0, false⟩ : scan)))), (oneV (numS (numS (oneS (⟨t, 0, false⟩ : scan))))), (rsV (oneS (numS (numS (oneS (⟨t, 0, false⟩ : scan))))))⟩ : Entry) (rsV_size (oneS_ok (numS_ok (numS_ok (oneS_ok (scan.ok0 ht))))))) rfl (.cons (.agg (.cons (.r .r) (.cons (.r .r) (.cons (.r .r) (.nil))))) (.nil)) fun g18 => ?_
    refine RW.k XK 46 3 rfl ?_
    (conv=>whnf);refine ⟨rfl,?_⟩
    refine RW.gv rfl rfl rfl rfl (fun h19 => V.mv (d := I (numV (oneS (⟨t, 0, false⟩ : scan)))) rfl rfl) (fun h19 => ?_) (fun h19 => ?_)
    ·skip
     refine RW.gcall rfl rfl rfl rfl (impl_within_fn (numV (oneS (⟨t, 0, false⟩ : scan))) 1 1000000) rfl (.cons (.one (.r .r)) (.cons (.one (.r .r)) (.cons (.one (.r .r)) (.nil)))) fun g20 => ?_
     refine RW.k XK 46 2 rfl ?_
     (conv=>whnf);refine ⟨rfl,?_⟩
     refine RW.nil ?_
     exact ⟨_, by first | rfl | (simp_all; done) | (simp_all; omega) | grind, rfl, Le.of rfl⟩
    ·skip
     refine RW.k XK 46 3 rfl ?_
     (conv=>whnf);refine ⟨rfl,?_⟩
     refine RW.nil ?_
     exact ⟨_, by first | rfl | (simp_all; done) | (simp_all; omega) | grind, rfl, Le.of rfl⟩
   ·skip
    refine RW.k XK 46 8 rfl ?_
    (conv=>whnf);refine ⟨rfl,?_⟩
    refine RW.nil ?_
    exact ⟨_, by first | rfl | (simp_all; done) | (simp_all; omega) | grind, rfl, Le.of rfl⟩
  ·skip
   refine RW.k XK 46 12 rfl ?_
   (conv=>whnf);refine ⟨rfl,?_⟩
   refine RW.nil ?_
   exact ⟨_, by first | rfl | (simp_all; done) | (simp_all; omega) | grind, rfl, Le.of rfl⟩
 ·intro v14 hv21
  refine CW.cond rfl (fun h22 => ?_) (fun h22 => ?_)
  ·skip
   have hvv := hv21.symm.trans h22
   refine CW.k XK 46 1 [2,3,4] rfl ?_
   (conv=>whnf);refine ⟨rfl,?_⟩
   refine CW.ret ?_
   exact Post.tup (by decide) (RVs.c (RV.i rfl (by rw [rdEnt_no hvv] <;> rfl)) (RVs.c (RV.c (f := fun e => (Entry.c e).map .w) (e' := (⟨0, 0, ⟨#[]⟩⟩ : Entry)) rfl rfl rfl rfl (DT.v (DT.v (DT.v DT.e))) (by rw [rdEnt_no hvv] <;> rfl)) (RVs.c (RV.b rfl (by rw [rdEnt_no hvv] <;> rfl)) RVs.e))) (AOs.r AOs.e)
  ·skip
   have hvv := hv21.symm.trans h22
   refine CW.skip ?_
   refine CW.keep 46 [3,6,8] rfl ?_;(conv=>whnf);refine ⟨?_⟩
   refine CW.anyJ2 (fc := [(6, b3, [.int .i64 (numV (numS (oneS (⟨t, 0, false⟩ : scan)))), .int .i64 (oneV (numS (numS (oneS (⟨t, 0, false⟩ : scan))))), .string (rsV (oneS (numS (numS (oneS (⟨t, 0, false⟩ : scan))))))])]) (L0 := [(6, .obj b3 [I (numV (numS (oneS (⟨t, 0, false⟩ : scan)))), I (oneV (numS (numS (oneS (⟨t, 0, false⟩ : scan))))), S (rsV (oneS (numS (numS (oneS (⟨t, 0, false⟩ : scan))))))])]) 46 (fun (_ : Unit) => [(2, I (numV (oneS (⟨t, 0, false⟩ : scan)))), (3, .obj b1 [I (numV (numS (oneS (⟨t, 0, false⟩ : scan)))), I (oneV (numS (numS (oneS (⟨t, 0, false⟩ : scan))))), S (rsV (oneS (numS (numS (oneS (⟨t, 0, false⟩ : scan))))))]), (4, Bo true)]) (fun all hall f hf b0 hb K hK => ?_) ?_
   ·skip
    have ro23_1 : ∀ B, RA f E B all 0 (bt 5 31) ⟨46, [(2, I (numV (oneS (⟨t, 0, false⟩ : scan)))), (3, .obj b1 [I (numV (numS (oneS (⟨t, 0, false⟩ : scan)))), I (oneV (numS (numS (oneS (⟨t, 0, false⟩ : scan))))), S (rsV (oneS (numS (numS (oneS (⟨t, 0, false⟩ : scan))))))]), (4, Bo true)] ++ b0⟩ K := by
     intro B
     exact RA.of2 hall hf hb (RA.finH (Tell.of rfl) (by kernel_rfl) (hK () _ rfl (Le.of rfl)))
    have ro23_0 : ∀ B, RA f E B all 2 (bt 5 7) ⟨46, [(2, I (numV (oneS (⟨t, 0, false⟩ : scan)))), (3, .obj b1 [I 0, I 0, S (⟨#[]⟩)]), (45, .agg [I (numV (numS (oneS (⟨t, 0, false⟩ : scan)))), I (oneV (numS (numS (oneS (⟨t, 0, false⟩ : scan))))), S (rsV (oneS (numS (numS (oneS (⟨t, 0, false⟩ : scan))))))])] ++ b0⟩ K := by
     intro B
     refine RA.of2 hall hf hb (RA.stepH (L := [3]) (Tell.of rfl) (by kernel_rfl) (by simp) (RA.each ?_ (RA.each0)))
     ·skip
      refine RO.storeAgg (es := [I (numV (numS (oneS (⟨t, 0, false⟩ : scan)))), I (oneV (numS (numS (oneS (⟨t, 0, false⟩ : scan))))), S (rsV (oneS (numS (numS (oneS (⟨t, 0, false⟩ : scan))))))]) rfl rfl rfl rfl rfl rfl rfl rfl rfl rfl (Nat.le_of_ble_eq_true rfl) rfl ?_
      refine RA.fr XK 46 0 [4] (bt 5 31) rfl rfl (by kernel_rfl) (Tell.of rfl) ?_
      (conv=>whnf);refine ⟨rfl,fun B=>?_⟩
      exact RA.to2 hall hf hb (ro23_1 B) rfl rfl (by kernel_rfl)
    refine RA.start (by kernel_rfl) (by kernel_rfl) (m := 5) (ls' := (bt 5 0)) ?_
    refine RA.fr XK 46 2 [0,1,2] (bt 5 7) rfl rfl (by kernel_rfl) (Tell.of rfl) ?_
    (conv=>whnf);refine ⟨rfl,fun B=>?_⟩
    exact RA.to2 hall hf hb (ro23_0 B) rfl rfl (by kernel_rfl)
   ·rintro _
    refine CW.ret ?_
    exact Post.tup (by decide) (RVs.c (RV.i rfl (by rw [rdEnt_yes hvv] <;> rfl)) (RVs.c (RV.c (f := fun e => (Entry.c e).map .w) (e' := (⟨(numV (numS (oneS (⟨t, 0, false⟩ : scan)))), (oneV (numS (numS (oneS (⟨t, 0, false⟩ : scan))))), (rsV (oneS (numS (numS (oneS (⟨t, 0, false⟩ : scan))))))⟩ : Entry)) rfl rfl rfl rfl (DT.v (DT.v (DT.v DT.e))) (by rw [rdEnt_yes hvv] <;> rfl)) (RVs.c (RV.b rfl (by rw [rdEnt_yes hvv] <;> rfl)) RVs.e))) (AOs.r AOs.e)
set_option maxHeartbeats 4000000 in
theorem spec_l05Take_fn (c : l05Cur) (n : Int) (hc : c.sc.ok) (hn : 0 ≤ n) : Eng.Fn E.P 17 [.ob ((l05Cur.c c).map .r), .one (.r (.v (.int .i64 n)))] (.one (.one (.w (.v (.string (tkW c n)))))) [.ob ((l05Cur.c (tkC c n)).map .r), .one (.r (.v (.int .i64 n)))] := by
 refine Eng.Fn.intro (E := E) (rvs := [.tmp 4]) Try.func17 rfl rfl rfl (by simp [outSlots, moved, rvSlot, sl]) ?_
 intro B g bo
 refine CW.keep 50 [0,1] rfl ?_;(conv=>whnf);refine ⟨?_⟩
 refine CW.k XK 50 1 [0,1] rfl ?_
 (conv=>whnf);refine ⟨rfl,?_⟩
 refine CW.seq ?_
 refine CW.seqJ 50 (fun (v1 : Bool) => [(0, .obj (bo 0) ((l05Cur.c c).map .r)), (1, I n), (22, Bo v1)]) (fun v1 => v1 = (c.bad || decide (n > (IntKind.i64.wrap ((c.text.size : Int) - c.at_))))) ?_ ?_
 ·refine CW.drawn (by kernel_rfl) ?_
  refine RQ.k XK 50 5 rfl ?_
  (conv=>whnf);refine ⟨rfl,?_⟩
  refine RQ.gv rfl rfl rfl rfl (fun h2 => V.mv (d := I n) rfl rfl) (fun h2 => ?_) (fun h2 => ?_)
  ·skip
   refine RQ.k XK 50 12 rfl ?_
   (conv=>whnf);refine ⟨rfl,?_⟩
   refine RQ.nil ?_
   exact ⟨_, by first | rfl | (simp_all; done) | (simp_all; omega) | grind, rfl, Le.of rfl⟩
  ·skip
   refine RQ.k XK 50 12 rfl ?_
   (conv=>whnf);refine ⟨rfl,?_⟩
   refine RQ.nil ?_
   exact ⟨_, by first | rfl | (simp_all; done) | (simp_all; omega) | grind, rfl, Le.of rfl⟩
 ·intro v1 hv3
  refine CW.cond rfl (fun h4 => ?_) (fun h4 => ?_)
  ·skip
   have hvv := (tkB_w (s := c.sc) hc).symm.trans (hv3.symm.trans h4)
   refine CW.k XK 50 2 [0,4] rfl ?_
   (conv=>whnf);refine ⟨rfl,?_⟩
   refine CW.ret ?_
   exact Post.one (RV.s rfl (by simp only [tkW]; rw [tkV, if_pos hvv])) (AOs.obE (f := fun e => (l05Cur.c e).map .r) (e' := (⟨c.text, c.at_, true⟩ : l05Cur)) rfl (DT.r (DT.r (DT.r DT.e))) (by simp only [tkC]; rw [tkS, if_pos hvv] <;> rfl) (AOs.r AOs.e))
  ·skip
   have hvv := (tkB_w (s := c.sc) hc).symm.trans (hv3.symm.trans h4)
   have hin := tk_in hc hn hvv
   refine CW.skip ?_
   refine CW.keep 50 [0,1] rfl ?_;(conv=>whnf);refine ⟨?_⟩
   refine CW.k XK 50 1 [0,1] rfl ?_
   (conv=>whnf);refine ⟨rfl,?_⟩
   refine CW.seq ?_
   refine CW.drawn (by kernel_rfl) ?_
   refine RQ.k XK 50 14 rfl ?_
   (conv=>whnf);refine ⟨rfl,?_⟩
   refine RQ.v rfl (V.strSlice (l := (IntKind.i64.wrap ((IntKind.i64.wrap (c.at_ + n)) - n))) (h := (IntKind.i64.wrap (c.at_ + n))) rfl (by kernel_rfl) rfl (.inr ⟨_, _, rfl, rfl⟩) (.inr ⟨_, _, rfl, rfl⟩) (tk_sl hc hn hvv)) ?_
   refine RQ.k XK 50 1 rfl ?_
   (conv=>whnf);refine ⟨rfl,?_⟩
   refine RQ.nil ?_
   refine CW.keep 50 [0,4] rfl ?_;(conv=>whnf);refine ⟨?_⟩
   refine CW.ret ?_
   exact Post.one (RV.s rfl (by exact tkW_go hc hn hvv)) (AOs.obE (f := fun e => (l05Cur.c e).map .r) (e' := (⟨c.text, (IntKind.i64.wrap (c.at_ + n)), c.bad⟩ : l05Cur)) rfl (DT.r (DT.r (DT.r DT.e))) (by exact tkC_go hc hn hvv) (AOs.r AOs.e))
set_option maxHeartbeats 4000000 in
theorem spec_l05Var_fn (c : l05Cur) (hs : c.sc.ok) : Eng.Fn E.P 18 [.ob ((l05Cur.c c).map .r)] (.one (.one (.w (.v (.int .i64 (numW c)))))) [.ob ((l05Cur.c (numC c)).map .r)] := by
 refine Eng.Fn.intro (E := E) (rvs := [.tmp 2]) Try.func18 rfl rfl rfl (by simp [outSlots, moved, rvSlot, sl]) ?_
 intro B g bo
 refine CW.keep 35 [0] rfl ?_;(conv=>whnf);refine ⟨?_⟩
 refine CW.k XK 35 1 [0] rfl ?_
 (conv=>whnf);refine ⟨rfl,?_⟩
 refine CW.anyJ2 (fc := [(0, (bo 0), [.string c.text, .int .i64 c.at_, .bool c.bad])]) (L0 := [(0, .obj (bo 0) ((l05Cur.c c).map .r))]) 35 (fun (go1_8_1 : (Nat → Nat → Value)) => [(3, I ((rdVar c.text c.at_).1)), (4, I ((rdVar c.text c.at_).2.1)), (5, Bo ((rdVar c.text c.at_).2.2))]) (fun all hall f hf b0 hb K hK => ?_) ?_
 ·skip
  have ro1_9 : ∀ B, ∀ (go1_8_1 : Nat → Nat → Value), RA f E B all 0 (bt 16 65535) ⟨35, [(3, I ((rdVar c.text c.at_).1)), (4, I ((rdVar c.text c.at_).2.1)), (5, Bo ((rdVar c.text c.at_).2.2))] ++ b0⟩ K := by
   intro B go1_8_1
   exact RA.of2 hall hf hb (RA.finH (Tell.of rfl) (by kernel_rfl) (hK go1_8_1 _ rfl (Le.of rfl)))
  have ro1_8 : ∀ B, ∀ (go1_8_1 : Nat → Nat → Value), RA f E B all 2 (bt 16 28671) ⟨35, [(3, I ((rdVar c.text c.at_).1)), (4, I ((rdVar c.text c.at_).2.1)), (6, .tup [.u, .u, Bo ((rdVar c.text c.at_).2.2)])] ++ b0⟩ K := by
   intro B go1_8_1
   refine RA.of2 hall hf hb (RA.stepH (L := [12]) (Tell.of rfl) (by kernel_rfl) (by simp) (RA.each ?_ (RA.each0)))
   ·skip
    refine RO.extract (d := Bo ((rdVar c.text c.at_).2.2)) rfl rfl rfl rfl rfl (by decide) (Nat.le_of_ble_eq_true rfl) rfl rfl ?_
    refine RA.fr XK 35 0 [15] (bt 16 65535) rfl rfl (by kernel_rfl) (Tell.of rfl) ?_
    (conv=>whnf);refine ⟨rfl,fun B=>?_⟩
    exact RA.to2 hall hf hb (ro1_9 B go1_8_1) rfl rfl (by kernel_rfl)
  have ro1_7 : ∀ B, ∀ (go1_8_1 : Nat → Nat → Value), RA f E B all 3 (bt 16 14335) ⟨35, [(3, I ((rdVar c.text c.at_).1)), (6, .tup [.u, I ((rdVar c.text c.at_).2.1), .u]), (18, Bo ((rdVar c.text c.at_).2.2))] ++ b0⟩ K := by
   intro B go1_8_1
   refine RA.of2 hall hf hb (RA.stepH (L := [11]) (Tell.of rfl) (by kernel_rfl) (by simp) (RA.each ?_ (RA.each0)))
   ·skip
    refine RO.extract (d := I ((rdVar c.text c.at_).2.1)) rfl rfl rfl rfl rfl (by decide) (Nat.le_of_ble_eq_true rfl) rfl rfl ?_
    refine RA.fr XK 35 0 [14,15] (bt 16 65535) rfl rfl (by kernel_rfl) (Tell.of rfl) ?_
    (conv=>whnf);refine ⟨rfl,fun B=>?_⟩
    exact RA.to2 hall hf hb (ro1_9 B go1_8_1) rfl rfl (by kernel_rfl)
  have ro1_6 : ∀ B, ∀ (go1_8_1 : Nat → Nat → Value), RA f E B all 4 (bt 16 7167) ⟨35, [(6, .tup [I ((rdVar c.text c.at_).1), .u, .u]), (17, I ((rdVar c.text c.at_).2.1)), (18, Bo ((rdVar c.text c.at_).2.2))] ++ b0⟩ K := by
   intro B go1_8_1
   refine RA.of2 hall hf hb (RA.stepH (L := [10]) (Tell.of rfl) (by kernel_rfl) (by simp) (RA.each ?_ (RA.each0)))
   ·skip
    refine RO.extract (d := I ((rdVar c.text c.at_).1)) rfl rfl rfl rfl rfl (by decide) (Nat.le_of_ble_eq_true rfl) rfl rfl ?_
    refine RA.fr XK 35 0 [13,14,15] (bt 16 65535) rfl rfl (by kernel_rfl) (Tell.of rfl) ?_
    (conv=>whnf);refine ⟨rfl,fun B=>?_⟩
    exact RA.to2 hall hf hb (ro1_9 B go1_8_1) rfl rfl (by kernel_rfl)
  have ro1_5 : ∀ B, ∀ (go1_8_1 : Nat → Nat → Value), RA f E B all 4 (bt 16 10239) ⟨35, [(3, I ((rdVar c.text c.at_).1)), (6, .tup [.u, I ((rdVar c.text c.at_).2.1), Bo ((rdVar c.text c.at_).2.2)])] ++ b0⟩ K := by
   intro B go1_8_1
   refine RA.of2 hall hf hb (RA.stepH (L := [11, 12]) (Tell.of rfl) (by kernel_rfl) (by simp) (RA.each ?_ (RA.each ?_ (RA.each0))))
   ·skip
    refine RO.extract (d := I ((rdVar c.text c.at_).2.1)) rfl rfl rfl rfl rfl (by decide) (Nat.le_of_ble_eq_true rfl) rfl rfl ?_
    refine RA.fr XK 35 2 [14] (bt 16 28671) rfl rfl (by kernel_rfl) (Tell.of rfl) ?_
    (conv=>whnf);refine ⟨rfl,fun B=>?_⟩
    exact RA.to2 hall hf hb (ro1_8 B go1_8_1) rfl rfl (by kernel_rfl)
   ·skip
    refine RO.extract (d := Bo ((rdVar c.text c.at_).2.2)) rfl rfl rfl rfl rfl (by decide) (Nat.le_of_ble_eq_true rfl) rfl rfl ?_
    exact RA.to2 hall hf hb (ro1_7 B go1_8_1) rfl rfl (by kernel_rfl)
  have ro1_4 : ∀ B, ∀ (go1_8_1 : Nat → Nat → Value), RA f E B all 5 (bt 16 5119) ⟨35, [(6, .tup [I ((rdVar c.text c.at_).1), I ((rdVar c.text c.at_).2.1), .u]), (18, Bo ((rdVar c.text c.at_).2.2))] ++ b0⟩ K := by
   intro B go1_8_1
   refine RA.of2 hall hf hb (RA.stepH (L := [10, 11]) (Tell.of rfl) (by kernel_rfl) (by simp) (RA.each ?_ (RA.each ?_ (RA.each0))))
   ·skip
    refine RO.extract (d := I ((rdVar c.text c.at_).1)) rfl rfl rfl rfl rfl (by decide) (Nat.le_of_ble_eq_true rfl) rfl rfl ?_
    refine RA.fr XK 35 3 [13] (bt 16 14335) rfl rfl (by kernel_rfl) (Tell.of rfl) ?_
    (conv=>whnf);refine ⟨rfl,fun B=>?_⟩
    exact RA.to2 hall hf hb (ro1_7 B go1_8_1) rfl rfl (by kernel_rfl)
   ·skip
    refine RO.extract (d := I ((rdVar c.text c.at_).2.1)) rfl rfl rfl rfl rfl (by decide) (Nat.le_of_ble_eq_true rfl) rfl rfl ?_
    exact RA.to2 hall hf hb (ro1_6 B go1_8_1) rfl rfl (by kernel_rfl)
  have ro1_3 : ∀ B, ∀ (go1_8_1 : Nat → Nat → Value), RA f E B all 5 (bt 16 3071) ⟨35, [(6, .tup [I ((rdVar c.text c.at_).1), .u, Bo ((rdVar c.text c.at_).2.2)]), (17, I ((rdVar c.text c.at_).2.1))] ++ b0⟩ K := by
   intro B go1_8_1
   refine RA.of2 hall hf hb (RA.stepH (L := [10, 12]) (Tell.of rfl) (by kernel_rfl) (by simp) (RA.each ?_ (RA.each ?_ (RA.each0))))
   ·skip
    refine RO.extract (d := I ((rdVar c.text c.at_).1)) rfl rfl rfl rfl rfl (by decide) (Nat.le_of_ble_eq_true rfl) rfl rfl ?_
    refine RA.fr XK 35 2 [13,14] (bt 16 28671) rfl rfl (by kernel_rfl) (Tell.of rfl) ?_
    (conv=>whnf);refine ⟨rfl,fun B=>?_⟩
    exact RA.to2 hall hf hb (ro1_8 B go1_8_1) rfl rfl (by kernel_rfl)
   ·skip
    refine RO.extract (d := Bo ((rdVar c.text c.at_).2.2)) rfl rfl rfl rfl rfl (by decide) (Nat.le_of_ble_eq_true rfl) rfl rfl ?_
    exact RA.to2 hall hf hb (ro1_6 B go1_8_1) rfl rfl (by kernel_rfl)
  have ro1_2 : ∀ B, ∀ (go1_8_1 : Nat → Nat → Value), RA f E B all 6 (bt 16 1023) ⟨35, [(6, .tup [I ((rdVar c.text c.at_).1), I ((rdVar c.text c.at_).2.1), Bo ((rdVar c.text c.at_).2.2)])] ++ b0⟩ K := by
   intro B go1_8_1
   refine RA.of2 hall hf hb (RA.stepH (L := [10, 11, 12]) (Tell.of rfl) (by kernel_rfl) (by simp) (RA.each ?_ (RA.each ?_ (RA.each ?_ (RA.each0)))))
   ·skip
    refine RO.extract (d := I ((rdVar c.text c.at_).1)) rfl rfl rfl rfl rfl (by decide) (Nat.le_of_ble_eq_true rfl) rfl rfl ?_
    refine RA.fr XK 35 4 [13] (bt 16 10239) rfl rfl (by kernel_rfl) (Tell.of rfl) ?_
    (conv=>whnf);refine ⟨rfl,fun B=>?_⟩
    exact RA.to2 hall hf hb (ro1_5 B go1_8_1) rfl rfl (by kernel_rfl)
   ·skip
    refine RO.extract (d := I ((rdVar c.text c.at_).2.1)) rfl rfl rfl rfl rfl (by decide) (Nat.le_of_ble_eq_true rfl) rfl rfl ?_
    exact RA.to2 hall hf hb (ro1_3 B go1_8_1) rfl rfl (by kernel_rfl)
   ·skip
    refine RO.extract (d := Bo ((rdVar c.text c.at_).2.2)) rfl rfl rfl rfl rfl (by decide) (Nat.le_of_ble_eq_true rfl) rfl rfl ?_
    exact RA.to2 hall hf hb (ro1_4 B go1_8_1) rfl rfl (by kernel_rfl)
  have ro1_1 : ∀ B, ∀ (go1_8_1 : Nat → Nat → Value), RA f E B all 7 (bt 16 511) ⟨35, [(15, .tup [I ((rdVar c.text c.at_).1), I ((rdVar c.text c.at_).2.1), Bo ((rdVar c.text c.at_).2.2)])] ++ b0⟩ K := by
   intro B go1_8_1
   refine RA.of2 hall hf hb (RA.stepH (L := [9]) (Tell.of rfl) (by kernel_rfl) (by simp) (RA.each ?_ (RA.each0)))
   ·skip
    refine RO.moveMove rfl rfl rfl rfl rfl (by decide) (Nat.le_of_ble_eq_true rfl) (Nat.le_of_ble_eq_true rfl) ?_
    exact RA.to2 hall hf hb (ro1_2 B go1_8_1) rfl rfl (by kernel_rfl)
  have ro1_0 : ∀ B, RA f E B all 8 (bt 16 255) ⟨35, [(10, S c.text), (14, I c.at_)] ++ b0⟩ K := by
   intro B
   refine RA.of2 hall hf hb (RA.stepH (L := [8]) (Tell.of rfl) (by kernel_rfl) (by simp) (RA.each ?_ (RA.each0)))
   ·skip
    refine RO.call rfl rfl (spec_ReadVar_fn c.text c.at_ hs.2.2) rfl (.cons (.one (.r .r)) (.cons (.one (.r .r)) (.nil))) rfl fun go1_8_1 => ?_
    exact RA.to2 hall hf hb (ro1_1 B go1_8_1) rfl rfl (by kernel_rfl)
  refine RA.start (by kernel_rfl) (by kernel_rfl) (m := 16) (ls' := (bt 16 0)) ?_
  refine RA.fr XK 35 8 [0,1,2,3,4,5,6,7] (bt 16 255) rfl rfl (by kernel_rfl) (Tell.of rfl) ?_
  (conv=>whnf);refine ⟨rfl,fun B=>?_⟩
  exact RA.to2 hall hf hb (ro1_0 B) rfl rfl (by kernel_rfl)
 ·rintro go1_8_1
  refine CW.seq ?_
  refine CW.seqJ 35 (fun (v2 : Bool) => [(0, .obj (bo 0) ((l05Cur.c c).map .r)), (3, I ((rdVar c.text c.at_).1)), (4, I ((rdVar c.text c.at_).2.1)), (26, Bo v2)]) (fun v2 => v2 = (c.bad || (!((rdVar c.text c.at_).2.2)))) ?_ ?_
  ·refine CW.region ?_
   refine RW.k XK 35 5 rfl ?_
   (conv=>whnf);refine ⟨rfl,?_⟩
   refine RW.gv rfl rfl rfl rfl (fun h3 => V.mv (d := Bo ((rdVar c.text c.at_).2.2)) rfl rfl) (fun h3 => ?_) (fun h3 => ?_)
   ·skip
    refine RW.k XK 35 2 rfl ?_
    (conv=>whnf);refine ⟨rfl,?_⟩
    refine RW.nil ?_
    exact ⟨_, by first | rfl | (simp_all; done) | (simp_all; omega) | grind, rfl, Le.of rfl⟩
   ·skip
    refine RW.k XK 35 2 rfl ?_
    (conv=>whnf);refine ⟨rfl,?_⟩
    refine RW.nil ?_
    exact ⟨_, by first | rfl | (simp_all; done) | (simp_all; omega) | grind, rfl, Le.of rfl⟩
  ·intro v2 hv4
   refine CW.cond rfl (fun h5 => ?_) (fun h5 => ?_)
   ·skip
    have hvv := hv4.symm.trans h5
    refine CW.k XK 35 2 [0,2] rfl ?_
    (conv=>whnf);refine ⟨rfl,?_⟩
    refine CW.ret ?_
    exact Post.one (RV.i rfl (by simp only [numW, numV, numS, l05Cur.sc]; rw [scNum, if_pos hvv])) (AOs.obE (f := fun e => (l05Cur.c e).map .r) (e' := (⟨c.text, c.at_, true⟩ : l05Cur)) rfl (DT.r (DT.r (DT.r DT.e))) (by simp only [numC, numV, numS, l05Cur.sc]; rw [scNum, if_pos hvv]) AOs.e)
   ·skip
    have hvv := hv4.symm.trans h5
    refine CW.skip ?_
    refine CW.keep 35 [0,3,4] rfl ?_;(conv=>whnf);refine ⟨?_⟩
    refine CW.k XK 35 2 [0,2] rfl ?_
    (conv=>whnf);refine ⟨rfl,?_⟩
    refine CW.ret ?_
    exact Post.one (RV.i rfl (by simp only [numW, numV, numS, l05Cur.sc]; rw [scNum, if_neg (by rw [hvv]; simp)])) (AOs.obE (f := fun e => (l05Cur.c e).map .r) (e' := (⟨c.text, ((rdVar c.text c.at_).2.1), c.bad⟩ : l05Cur)) rfl (DT.r (DT.r (DT.r DT.e))) (by simp only [numC, numV, numS, l05Cur.sc]; rw [scNum, if_neg (by rw [hvv]; simp), (Bool.or_eq_false_iff.1 hvv).1]) AOs.e)
set_option maxHeartbeats 4000000 in
theorem spec_l05ReadShort_fn (c : l05Cur) (hc : c.sc.ok) : Eng.Fn E.P 20 [.ob ((l05Cur.c c).map .r)] (.one (.one (.w (.v (.string (rshW c)))))) [.ob ((l05Cur.c (rshC c)).map .r)] := by
 refine Eng.Fn.intro (E := E) (rvs := [.tmp 2]) Try.func20 rfl rfl rfl (by simp [outSlots, moved, rvSlot, sl]) ?_
 intro B g bo
 refine CW.keep 9 [0] rfl ?_;(conv=>whnf);refine ⟨?_⟩
 refine CW.k XK 9 1 [0] rfl ?_
 (conv=>whnf);refine ⟨rfl,?_⟩
 refine CW.seq ?_
 refine CW.region ?_
 refine RW.k XK 9 1 rfl ?_
 (conv=>whnf);refine ⟨rfl,?_⟩
 refine RW.callP (k := 0) (spec_l05Var_fn c hc) rfl rfl (Nat.le_of_ble_eq_true rfl) (by decide) rfl (DT.r (DT.r (DT.r DT.e))) (AsPs.here rfl (.nil)) fun g1 q2 => ?_
 refine RW.k XK 9 1 rfl ?_
 (conv=>whnf);refine ⟨rfl,?_⟩
 refine RW.nil ?_
 refine CW.keep 9 [0,3] rfl ?_;(conv=>whnf);refine ⟨?_⟩
 refine CW.seq ?_
 refine CW.region ?_
 refine RW.k XK 9 2 rfl ?_
 (conv=>whnf);refine ⟨rfl,?_⟩
 refine RW.callP (k := 0) (spec_l05Take_fn (numC c) (numW c) (numC_ok hc) (numW_pos c)) rfl rfl (Nat.le_of_ble_eq_true rfl) (by decide) rfl (DT.r (DT.r (DT.r DT.e))) (AsPs.here rfl (.cons (.one (.r .r)) (.nil))) fun g3 q4 => ?_
 refine RW.k XK 9 1 rfl ?_
 (conv=>whnf);refine ⟨rfl,?_⟩
 refine RW.nil ?_
 refine CW.keep 9 [0,2] rfl ?_;(conv=>whnf);refine ⟨?_⟩
 refine CW.ret ?_
 exact Post.one (RV.s rfl (by rfl)) (AOs.obE (f := fun e => (l05Cur.c e).map .r) (e' := (tkC (numC c) (numW c))) rfl (DT.r (DT.r (DT.r DT.e))) (by rfl) AOs.e)
set_option maxHeartbeats 4000000 in
theorem spec_l17Flag_fn (b : Bool) : Eng.Fn E.P 57 [.one (.r (.v (.bool b)))] (.one (.one (.w (.v (.string (flagS b)))))) [.one (.r (.v (.bool b)))] := by
 refine Eng.Fn.intro (E := E) (rvs := [.tmp 2]) Try.func57 rfl rfl rfl (by simp [outSlots, moved, rvSlot, sl]) ?_
 intro B g bo
 refine CW.keep 4 [0] rfl ?_;(conv=>whnf);refine ⟨?_⟩
 refine CW.k XK 4 1 [0] rfl ?_
 (conv=>whnf);refine ⟨rfl,?_⟩
 refine CW.seq ?_
 refine CW.k XK 4 1 [3] rfl ?_
 (conv=>whnf);refine ⟨rfl,?_⟩
 refine CW.cond rfl (fun h1 => ?_) (fun h1 => ?_)
 ·skip
  refine CW.k XK 4 1 [2] rfl ?_
  (conv=>whnf);refine ⟨rfl,?_⟩
  refine CW.ret ?_
  exact Post.one (RV.s rfl (by simp_all [flagS])) (AOs.r AOs.e)
 ·skip
  refine CW.skip ?_
  refine CW.keep 4 [] rfl ?_;(conv=>whnf);refine ⟨?_⟩
  refine CW.k XK 4 1 [2] rfl ?_
  (conv=>whnf);refine ⟨rfl,?_⟩
  refine CW.ret ?_
  exact Post.one (RV.s rfl (by simp_all [flagS])) (AOs.r AOs.e)
set_option maxHeartbeats 4000000 in
theorem spec_l05Short_fn (s : ByteArray) (hs : s.size ≤ 1048576) : Eng.Fn E.P 58 [.one (.r (.v (.string s)))] (.one (.one (.w (.v (.string (shB s)))))) [.one (.r (.v (.string s)))] := by
 refine Eng.Fn.intro (E := E) (rvs := [.tmp 2]) Try.func58 rfl rfl rfl (by simp [outSlots, moved, rvSlot, sl]) ?_
 intro B g bo
 refine CW.keep 8 [0] rfl ?_;(conv=>whnf);refine ⟨?_⟩
 refine CW.k XK 8 1 [0] rfl ?_
 (conv=>whnf);refine ⟨rfl,?_⟩
 refine CW.seq ?_
 refine CW.region ?_
 refine RW.k XK 8 2 rfl ?_
 (conv=>whnf);refine ⟨rfl,?_⟩
 refine RW.call rfl (spec_l01Var_fn (s.size : Int) ⟨by omega, by omega⟩) rfl (.cons (.one (.r .r)) (.nil)) fun g1 => ?_
 refine RW.k XK 8 1 rfl ?_
 (conv=>whnf);refine ⟨rfl,?_⟩
 refine RW.v rfl (V.cat rfl rfl rfl (by have h9 := varB_len9 (n := s.size) (by omega); simp only [maxLen, Int.toNat_natCast]; omega)) ?_
 refine RW.k XK 8 1 rfl ?_
 (conv=>whnf);refine ⟨rfl,?_⟩
 refine RW.nil ?_
 refine CW.keep 8 [2] rfl ?_;(conv=>whnf);refine ⟨?_⟩
 refine CW.ret ?_
 exact Post.one (RV.s rfl (by rfl)) (AOs.r AOs.e)
set_option maxHeartbeats 4000000 in
theorem spec_EntryText_fn (i : Int) (e : Entry) (hok : okToEntry e) : Eng.Fn E.P 55 [.one (.r (.v (.int .i64 i))), .agg ((Entry.c e).map .r)] (.tup [.one (.w (.v (.string ((entT i e).1)))), .one (.w (.v (.bool ((entT i e).2))))]) [.one (.r (.v (.int .i64 i))), .agg ((Entry.c e).map .r)] := by
 refine Eng.Fn.intro (E := E) (rvs := [.tmp 4, .tmp 5]) Try.func55 rfl rfl rfl (by simp [outSlots, moved, rvSlot, sl]) ?_
 intro B g bo
 refine CW.keep 30 [0,1] rfl ?_;(conv=>whnf);refine ⟨?_⟩
 refine CW.seq ?_
 refine CW.region ?_
 refine RW.k XK 30 1 rfl ?_
 (conv=>whnf);intro b1;(conv=>whnf);refine ⟨rfl,?_⟩
 refine RW.freezeB (ts := (Entry.c e)) 3 rfl (DRd.r (DRd.r (DRd.r DRd.e))) ?_
 refine RW.k XK 30 2 rfl ?_
 (conv=>whnf);refine ⟨rfl,?_⟩
 refine RW.nil ?_
 refine CW.keep 30 [0,3] rfl ?_;(conv=>whnf);refine ⟨?_⟩
 refine CW.seq ?_
 refine CW.seqJ 30 (fun (v2 : Bool) => [(0, I i), (3, .rp (Entry.c e)), (13, Bo v2)]) (fun v2 => v2 = ((!(entOk e)) || (!(inR i 1 1000000)))) ?_ ?_
 ·refine CW.region ?_
  refine RW.k XK 30 1 rfl ?_
  (conv=>whnf);refine ⟨rfl,?_⟩
  refine RW.call rfl (spec_EntryOk_fn e hok) rfl (.cons (.agg (.cons (.r .r) (.cons (.r .r) (.cons (.r .r) (.nil))))) (.nil)) fun g3 => ?_
  refine RW.k XK 30 2 rfl ?_
  (conv=>whnf);refine ⟨rfl,?_⟩
  refine RW.gv rfl rfl rfl rfl (fun h4 => V.mv (d := I i) rfl rfl) (fun h4 => ?_) (fun h4 => ?_)
  ·skip
   refine RW.gcall rfl rfl rfl rfl (spec_l01In_fn i 1 1000000) rfl (.cons (.one (.r .r)) (.cons (.one (.r .r)) (.cons (.one (.r .r)) (.nil)))) fun g5 => ?_
   refine RW.k XK 30 2 rfl ?_
   (conv=>whnf);refine ⟨rfl,?_⟩
   refine RW.nil ?_
   exact ⟨_, by first | rfl | (simp_all; done) | (simp_all; omega) | grind, rfl, Le.of rfl⟩
  ·skip
   refine RW.k XK 30 3 rfl ?_
   (conv=>whnf);refine ⟨rfl,?_⟩
   refine RW.nil ?_
   exact ⟨_, by first | rfl | (simp_all; done) | (simp_all; omega) | grind, rfl, Le.of rfl⟩
 ·intro v2 hv6
  refine CW.cond rfl (fun h7 => ?_) (fun h7 => ?_)
  ·skip
   have hvv := hv6.symm.trans h7
   refine CW.k XK 30 1 [4,5] rfl ?_
   (conv=>whnf);refine ⟨rfl,?_⟩
   refine CW.ret ?_
   exact Post.tup (by decide) (RVs.c (RV.s rfl (by rw [entT_no hvv] <;> rfl)) (RVs.c (RV.b rfl (by rw [entT_no hvv] <;> rfl)) RVs.e)) (AOs.r (AOs.a rfl AOs.e))
  ·skip
   have hvv := hv6.symm.trans h7
   obtain ⟨hy, heo, hi1, hi2⟩ := entT_yes hvv
   have hen := EntIn.of heo
   have het := hen.t
   have hed := hen.d
   have hie : 0 ≤ i ∧ i ≤ 9223372036854775807 := ⟨by omega, by omega⟩
   have hte : 0 ≤ e.term_ ∧ e.term_ ≤ 9223372036854775807 := ⟨by omega, by omega⟩
   have z1 := varB_len9 (n := i.toNat) (by omega)
   have z2 := varB_len9 (n := e.term_.toNat) (by omega)
   refine CW.skip ?_
   refine CW.keep 30 [0,3] rfl ?_;(conv=>whnf);refine ⟨?_⟩
   refine CW.anyJ2 (fc := []) (L0 := []) 30 (fun (zz : Value × (Nat → Nat → Value) × (Nat → Nat → Value)) => match zz with | (Xo8_10_1, go8_1_1, go8_5_1) => [(4, S (((((⟨#[69]⟩ : ByteArray) ++ (varB i.toNat)) ++ (varB e.term_.toNat)) ++ (bytesOf ([(IntKind.u8.wrap e.kind)]))) ++ e.data)), (5, Bo true)]) (fun all hall f hf b0 hb K hK => ?_) ?_
   ·skip
    have ro8_8 : ∀ B, ∀ (Xo8_10_1 : Value), ∀ (go8_1_1 : Nat → Nat → Value), ∀ (go8_5_1 : Nat → Nat → Value), RA f E B all 0 (bt 18 262143) ⟨30, [(4, S (((((⟨#[69]⟩ : ByteArray) ++ (varB i.toNat)) ++ (varB e.term_.toNat)) ++ (bytesOf ([(IntKind.u8.wrap e.kind)]))) ++ e.data)), (5, Bo true)] ++ b0⟩ K := by
     intro B Xo8_10_1 go8_1_1 go8_5_1
     exact RA.of2 hall hf hb (RA.finH (Tell.of rfl) (by kernel_rfl) (hK (Xo8_10_1, go8_1_1, go8_5_1) _ rfl (Le.of rfl)))
    have ro8_7 : ∀ B, ∀ (Xo8_10_1 : Value), ∀ (go8_1_1 : Nat → Nat → Value), ∀ (go8_5_1 : Nat → Nat → Value), RA f E B all 5 (bt 18 26623) ⟨30, [(20, S (((⟨#[69]⟩ : ByteArray) ++ (varB i.toNat)) ++ (varB e.term_.toNat))), (24, .w (sl 1 cU ([(IntKind.u8.wrap e.kind)])) Xo8_10_1), (28, S e.data)] ++ b0⟩ K := by
     intro B Xo8_10_1 go8_1_1 go8_5_1
     refine RA.of2 hall hf hb (RA.stepH (L := [11]) (Tell.of rfl) (by kernel_rfl) (by simp) (RA.each ?_ (RA.each0)))
     ·skip
      refine RO.v rfl rfl (V.bytesStr (l := [(IntKind.u8.wrap e.kind)]) rfl rfl rfl (by kernel_rfl) (by kernel_rfl) (.al (k := none) (i := 24) (sz := 1) (V := Xo8_10_1) rfl rfl nofun)) rfl ?_
      refine RA.first (i := 12) (ls' := (bt 18 32767)) (Tell.of rfl) (by kernel_rfl) rfl rfl rfl (VF.p (V.cat rfl rfl rfl (by have z6 : ∀ q : Int, (bytesOf [q]).size = 1 := fun q => rfl; have z7 : (⟨#[69]⟩ : ByteArray).size = 1 := rfl; simp only [ByteArray.size_append, maxLen, z6, z7]; omega))) ?_
      refine RA.first (i := 15) (ls' := (bt 18 65535)) (Tell.of rfl) (by kernel_rfl) rfl rfl rfl (VF.p (V.cat rfl rfl rfl (by have z6 : ∀ q : Int, (bytesOf [q]).size = 1 := fun q => rfl; have z7 : (⟨#[69]⟩ : ByteArray).size = 1 := rfl; simp only [ByteArray.size_append, maxLen, z6, z7]; omega))) ?_
      refine RA.fr XK 30 0 [16,17] (bt 18 262143) rfl rfl (by kernel_rfl) (Tell.of rfl) ?_
      (conv=>whnf);refine ⟨rfl,fun B=>?_⟩
      exact RA.to2 hall hf hb (ro8_8 B Xo8_10_1 go8_1_1 go8_5_1) rfl rfl (by kernel_rfl)
    have ro8_6 : ∀ B, ∀ (Xo8_10_1 : Value), ∀ (go8_1_1 : Nat → Nat → Value), RA f E B all 6 (bt 18 28575) ⟨30, [(16, S ((⟨#[69]⟩ : ByteArray) ++ (varB i.toNat))), (18, I e.term_), (25, S (bytesOf ([(IntKind.u8.wrap e.kind)]))), (28, S e.data)] ++ b0⟩ K := by
     intro B Xo8_10_1 go8_1_1
     refine RA.of2 hall hf hb (RA.stepH (L := [5]) (Tell.of rfl) (by kernel_rfl) (by simp) (RA.each ?_ (RA.each0)))
     ·skip
      refine RO.call rfl rfl (spec_l01Var_fn e.term_ (by first | exact hie | exact hte)) rfl (.cons (.one (.r .r)) (.nil)) rfl fun go8_5_1 => ?_
      refine RA.first (i := 6) (ls' := (bt 18 28671)) (Tell.of rfl) (by kernel_rfl) rfl rfl rfl (VF.p (V.cat rfl rfl rfl (by have z6 : ∀ q : Int, (bytesOf [q]).size = 1 := fun q => rfl; have z7 : (⟨#[69]⟩ : ByteArray).size = 1 := rfl; simp only [ByteArray.size_append, maxLen, z6, z7]; omega))) ?_
      refine RA.first (i := 12) (ls' := (bt 18 32767)) (Tell.of rfl) (by kernel_rfl) rfl rfl rfl (VF.p (V.cat rfl rfl rfl (by have z6 : ∀ q : Int, (bytesOf [q]).size = 1 := fun q => rfl; have z7 : (⟨#[69]⟩ : ByteArray).size = 1 := rfl; simp only [ByteArray.size_append, maxLen, z6, z7]; omega))) ?_
      refine RA.first (i := 15) (ls' := (bt 18 65535)) (Tell.of rfl) (by kernel_rfl) rfl rfl rfl (VF.p (V.cat rfl rfl rfl (by have z6 : ∀ q : Int, (bytesOf [q]).size = 1 := fun q => rfl; have z7 : (⟨#[69]⟩ : ByteArray).size = 1 := rfl; simp only [ByteArray.size_append, maxLen, z6, z7]; omega))) ?_
      refine RA.fr XK 30 0 [16,17] (bt 18 262143) rfl rfl (by kernel_rfl) (Tell.of rfl) ?_
      (conv=>whnf);refine ⟨rfl,fun B=>?_⟩
      exact RA.to2 hall hf hb (ro8_8 B Xo8_10_1 go8_1_1 go8_5_1) rfl rfl (by kernel_rfl)
    have ro8_5 : ∀ B, ∀ (go8_1_1 : Nat → Nat → Value), ∀ (go8_5_1 : Nat → Nat → Value), RA f E B all 6 (bt 18 25599) ⟨30, [(20, S (((⟨#[69]⟩ : ByteArray) ++ (varB i.toNat)) ++ (varB e.term_.toNat))), (23, .r (.v (.int .u8 (IntKind.u8.wrap e.kind)))), (28, S e.data)] ++ b0⟩ K := by
     intro B go8_1_1 go8_5_1
     refine RA.of2 hall hf hb (RA.stepH (L := [10]) (Tell.of rfl) (by kernel_rfl) (by simp) (RA.each ?_ (RA.each0)))
     ·skip
      refine RO.build1c (c := cU) (v := (IntKind.u8.wrap e.kind)) (u := .v (.int .u8 (IntKind.u8.wrap e.kind))) rfl rfl rfl rfl rfl rfl rfl rfl (.inl rfl) rfl rfl fun Xo8_10_1 => ?_
      exact RA.to2 hall hf hb (ro8_7 B Xo8_10_1 go8_1_1 go8_5_1) rfl rfl (by kernel_rfl)
    have ro8_4 : ∀ B, ∀ (Xo8_10_1 : Value), ∀ (go8_1_1 : Nat → Nat → Value), RA f E B all 7 (bt 18 26527) ⟨30, [(16, S ((⟨#[69]⟩ : ByteArray) ++ (varB i.toNat))), (18, I e.term_), (24, .w (sl 1 cU ([(IntKind.u8.wrap e.kind)])) Xo8_10_1), (28, S e.data)] ++ b0⟩ K := by
     intro B Xo8_10_1 go8_1_1
     refine RA.of2 hall hf hb (RA.stepH (L := [5, 11]) (Tell.of rfl) (by kernel_rfl) (by simp) (RA.each ?_ (RA.each ?_ (RA.each0))))
     ·skip
      refine RO.call rfl rfl (spec_l01Var_fn e.term_ (by first | exact hie | exact hte)) rfl (.cons (.one (.r .r)) (.nil)) rfl fun go8_5_1 => ?_
      refine RA.first (i := 6) (ls' := (bt 18 26623)) (Tell.of rfl) (by kernel_rfl) rfl rfl rfl (VF.p (V.cat rfl rfl rfl (by have z6 : ∀ q : Int, (bytesOf [q]).size = 1 := fun q => rfl; have z7 : (⟨#[69]⟩ : ByteArray).size = 1 := rfl; simp only [ByteArray.size_append, maxLen, z6, z7]; omega))) ?_
      exact RA.to2 hall hf hb (ro8_7 B Xo8_10_1 go8_1_1 go8_5_1) rfl rfl (by kernel_rfl)
     ·skip
      refine RO.v rfl rfl (V.bytesStr (l := [(IntKind.u8.wrap e.kind)]) rfl rfl rfl (by kernel_rfl) (by kernel_rfl) (.al (k := none) (i := 24) (sz := 1) (V := Xo8_10_1) rfl rfl nofun)) rfl ?_
      exact RA.to2 hall hf hb (ro8_6 B Xo8_10_1 go8_1_1) rfl rfl (by kernel_rfl)
    have ro8_3 : ∀ B, ∀ (Xo8_10_1 : Value), RA f E B all 8 (bt 18 28569) ⟨30, [(14, I i), (18, I e.term_), (25, S (bytesOf ([(IntKind.u8.wrap e.kind)]))), (28, S e.data)] ++ b0⟩ K := by
     intro B Xo8_10_1
     refine RA.of2 hall hf hb (RA.stepH (L := [1]) (Tell.of rfl) (by kernel_rfl) (by simp) (RA.each ?_ (RA.each0)))
     ·skip
      refine RO.call rfl rfl (spec_l01Var_fn i (by first | exact hie | exact hte)) rfl (.cons (.one (.r .r)) (.nil)) rfl fun go8_1_1 => ?_
      refine RA.first (i := 2) (ls' := (bt 18 28575)) (Tell.of rfl) (by kernel_rfl) rfl rfl rfl (VF.p (V.cat rfl rfl rfl (by have z6 : ∀ q : Int, (bytesOf [q]).size = 1 := fun q => rfl; have z7 : (⟨#[69]⟩ : ByteArray).size = 1 := rfl; simp only [ByteArray.size_append, maxLen, z6, z7]; omega))) ?_
      exact RA.to2 hall hf hb (ro8_6 B Xo8_10_1 go8_1_1) rfl rfl (by kernel_rfl)
    have ro8_2 : ∀ B, ∀ (go8_1_1 : Nat → Nat → Value), RA f E B all 8 (bt 18 25503) ⟨30, [(16, S ((⟨#[69]⟩ : ByteArray) ++ (varB i.toNat))), (18, I e.term_), (23, .r (.v (.int .u8 (IntKind.u8.wrap e.kind)))), (28, S e.data)] ++ b0⟩ K := by
     intro B go8_1_1
     refine RA.of2 hall hf hb (RA.stepH (L := [5, 10]) (Tell.of rfl) (by kernel_rfl) (by simp) (RA.each ?_ (RA.each ?_ (RA.each0))))
     ·skip
      refine RO.call rfl rfl (spec_l01Var_fn e.term_ (by first | exact hie | exact hte)) rfl (.cons (.one (.r .r)) (.nil)) rfl fun go8_5_1 => ?_
      refine RA.first (i := 6) (ls' := (bt 18 25599)) (Tell.of rfl) (by kernel_rfl) rfl rfl rfl (VF.p (V.cat rfl rfl rfl (by have z6 : ∀ q : Int, (bytesOf [q]).size = 1 := fun q => rfl; have z7 : (⟨#[69]⟩ : ByteArray).size = 1 := rfl; simp only [ByteArray.size_append, maxLen, z6, z7]; omega))) ?_
      exact RA.to2 hall hf hb (ro8_5 B go8_1_1 go8_5_1) rfl rfl (by kernel_rfl)
     ·skip
      refine RO.build1c (c := cU) (v := (IntKind.u8.wrap e.kind)) (u := .v (.int .u8 (IntKind.u8.wrap e.kind))) rfl rfl rfl rfl rfl rfl rfl rfl (.inl rfl) rfl rfl fun Xo8_10_1 => ?_
      exact RA.to2 hall hf hb (ro8_4 B Xo8_10_1 go8_1_1) rfl rfl (by kernel_rfl)
    have ro8_1 : ∀ B, ∀ (Xo8_10_1 : Value), RA f E B all 9 (bt 18 26521) ⟨30, [(14, I i), (18, I e.term_), (24, .w (sl 1 cU ([(IntKind.u8.wrap e.kind)])) Xo8_10_1), (28, S e.data)] ++ b0⟩ K := by
     intro B Xo8_10_1
     refine RA.of2 hall hf hb (RA.stepH (L := [1, 11]) (Tell.of rfl) (by kernel_rfl) (by simp) (RA.each ?_ (RA.each ?_ (RA.each0))))
     ·skip
      refine RO.call rfl rfl (spec_l01Var_fn i (by first | exact hie | exact hte)) rfl (.cons (.one (.r .r)) (.nil)) rfl fun go8_1_1 => ?_
      refine RA.first (i := 2) (ls' := (bt 18 26527)) (Tell.of rfl) (by kernel_rfl) rfl rfl rfl (VF.p (V.cat rfl rfl rfl (by have z6 : ∀ q : Int, (bytesOf [q]).size = 1 := fun q => rfl; have z7 : (⟨#[69]⟩ : ByteArray).size = 1 := rfl; simp only [ByteArray.size_append, maxLen, z6, z7]; omega))) ?_
      exact RA.to2 hall hf hb (ro8_4 B Xo8_10_1 go8_1_1) rfl rfl (by kernel_rfl)
     ·skip
      refine RO.v rfl rfl (V.bytesStr (l := [(IntKind.u8.wrap e.kind)]) rfl rfl rfl (by kernel_rfl) (by kernel_rfl) (.al (k := none) (i := 24) (sz := 1) (V := Xo8_10_1) rfl rfl nofun)) rfl ?_
      exact RA.to2 hall hf hb (ro8_3 B Xo8_10_1) rfl rfl (by kernel_rfl)
    have ro8_0 : ∀ B, RA f E B all 10 (bt 18 25497) ⟨30, [(14, I i), (18, I e.term_), (23, .r (.v (.int .u8 (IntKind.u8.wrap e.kind)))), (28, S e.data)] ++ b0⟩ K := by
     intro B
     refine RA.of2 hall hf hb (RA.stepH (L := [1, 10]) (Tell.of rfl) (by kernel_rfl) (by simp) (RA.each ?_ (RA.each ?_ (RA.each0))))
     ·skip
      refine RO.call rfl rfl (spec_l01Var_fn i (by first | exact hie | exact hte)) rfl (.cons (.one (.r .r)) (.nil)) rfl fun go8_1_1 => ?_
      refine RA.first (i := 2) (ls' := (bt 18 25503)) (Tell.of rfl) (by kernel_rfl) rfl rfl rfl (VF.p (V.cat rfl rfl rfl (by have z6 : ∀ q : Int, (bytesOf [q]).size = 1 := fun q => rfl; have z7 : (⟨#[69]⟩ : ByteArray).size = 1 := rfl; simp only [ByteArray.size_append, maxLen, z6, z7]; omega))) ?_
      exact RA.to2 hall hf hb (ro8_2 B go8_1_1) rfl rfl (by kernel_rfl)
     ·skip
      refine RO.build1c (c := cU) (v := (IntKind.u8.wrap e.kind)) (u := .v (.int .u8 (IntKind.u8.wrap e.kind))) rfl rfl rfl rfl rfl rfl rfl rfl (.inl rfl) rfl rfl fun Xo8_10_1 => ?_
      exact RA.to2 hall hf hb (ro8_1 B Xo8_10_1) rfl rfl (by kernel_rfl)
    refine RA.start (by kernel_rfl) (by kernel_rfl) (m := 18) (ls' := (bt 18 0)) ?_
    refine RA.fr XK 30 10 [0,3,4,7,8,9,13,14] (bt 18 25497) rfl rfl (by kernel_rfl) (Tell.of rfl) ?_
    (conv=>whnf);refine ⟨rfl,fun B=>?_⟩
    exact RA.to2 hall hf hb (ro8_0 B) rfl rfl (by kernel_rfl)
   ·rintro ⟨Xo8_10_1, go8_1_1, go8_5_1⟩
    refine CW.ret ?_
    exact Post.tup (by decide) (RVs.c (RV.s rfl (by rw [hy] <;> rfl)) (RVs.c (RV.b rfl (by rw [hy] <;> rfl)) RVs.e)) (AOs.r (AOs.a rfl AOs.e))
set_option maxHeartbeats 4000000 in
theorem spec_ReadEntry_fn (t : ByteArray) (ht : t.size ≤ 1048576) : Eng.Fn E.P 19 [.one (.r (.v (.string t)))] (.tup [.one (.w (.v (.int .i64 ((rdEnt t).1)))), .agg ((Entry.c ((rdEnt t).2.1)).map .w), .one (.w (.v (.bool ((rdEnt t).2.2))))]) [.one (.r (.v (.string t)))] := by
 refine Eng.Fn.intro (E := E) (rvs := [.tmp 2, .cell 3 44, .tmp 4]) Try.func19 rfl rfl rfl (by simp [outSlots, moved, rvSlot, sl]) ?_
 intro B g bo
 refine CW.keep 56 [0] rfl ?_;(conv=>whnf);refine ⟨?_⟩
 have hc0 := c0_ok ht
 have hc1 : (tkC ⟨t, 0, false⟩ 1).sc.ok := tkC_ok hc0 (by omega)
 have hc2 := numC_ok hc1
 have hc3 := numC_ok hc2
 refine CW.k XK 56 2 [0,3,5,13] rfl ?_
 (conv=>whnf);intro b1;(conv=>whnf);intro b2;(conv=>whnf);refine ⟨rfl,?_⟩
 refine CW.seq ?_
 refine CW.region ?_
 refine RW.k XK 56 1 rfl ?_
 (conv=>whnf);refine ⟨rfl,?_⟩
 refine RW.callP (k := 13) (spec_l05Take_fn (⟨t, 0, false⟩ : l05Cur) 1 hc0 (by omega)) rfl rfl (Nat.le_of_ble_eq_true rfl) (by decide) rfl (DT.r (DT.r (DT.r DT.e))) (AsPs.here rfl (.cons (.one (.r .r)) (.nil))) fun g3 q4 => ?_
 refine RW.nil ?_
 refine CW.keep 56 [0,3,5,13] rfl ?_;(conv=>whnf);refine ⟨?_⟩
 refine CW.seq ?_
 refine CW.region ?_
 refine RW.k XK 56 1 rfl ?_
 (conv=>whnf);refine ⟨rfl,?_⟩
 refine RW.callP (k := 13) (spec_l05Var_fn (tkC (⟨t, 0, false⟩ : l05Cur) 1) hc1) rfl rfl (Nat.le_of_ble_eq_true rfl) (by decide) rfl (DT.r (DT.r (DT.r DT.e))) (AsPs.here rfl (.nil)) fun g5 q6 => ?_
 refine RW.k XK 56 1 rfl ?_
 (conv=>whnf);refine ⟨rfl,?_⟩
 refine RW.nil ?_
 refine CW.keep 56 [0,3,5,6,13] rfl ?_;(conv=>whnf);refine ⟨?_⟩
 refine CW.k XK 56 1 [0,3,5,6,7,13] rfl ?_
 (conv=>whnf);intro b7;(conv=>whnf);refine ⟨rfl,?_⟩
 refine CW.seq ?_
 refine CW.region ?_
 refine RW.k XK 56 1 rfl ?_
 (conv=>whnf);refine ⟨rfl,?_⟩
 refine RW.callP (k := 13) (spec_l05Var_fn (numC (tkC (⟨t, 0, false⟩ : l05Cur) 1)) hc2) rfl rfl (Nat.le_of_ble_eq_true rfl) (by decide) rfl (DT.r (DT.r (DT.r DT.e))) (AsPs.here rfl (.nil)) fun g8 q9 => ?_
 refine RW.k XK 56 2 rfl ?_
 (conv=>whnf);refine ⟨rfl,?_⟩
 refine RW.nil ?_
 refine CW.keep 56 [0,3,5,6,7,13] rfl ?_;(conv=>whnf);refine ⟨?_⟩
 refine CW.seq ?_
 refine CW.region ?_
 refine RW.k XK 56 1 rfl ?_
 (conv=>whnf);refine ⟨rfl,?_⟩
 refine RW.callP (k := 13) (spec_l05Take_fn (numC (numC (tkC (⟨t, 0, false⟩ : l05Cur) 1))) 1 hc3 (by omega)) rfl rfl (Nat.le_of_ble_eq_true rfl) (by decide) rfl (DT.r (DT.r (DT.r DT.e))) (AsPs.here rfl (.cons (.one (.r .r)) (.nil))) fun g10 q11 => ?_
 refine RW.k XK 56 1 rfl ?_
 (conv=>whnf);refine ⟨rfl,?_⟩
 refine RW.nil ?_
 refine CW.keep 56 [0,3,5,6,7,8,13] rfl ?_;(conv=>whnf);refine ⟨?_⟩
 refine CW.seq ?_
 refine CW.k XK 56 1 [0,3,5,6,7,8,13,27] rfl ?_
 (conv=>whnf);refine ⟨rfl,?_⟩
 refine CW.cond rfl (fun h12 => ?_) (fun h12 => ?_)
 ·skip
  have hbd : (feC t).bad = true := h12
  refine CW.k XK 56 1 [2,3,4] rfl ?_
  (conv=>whnf);refine ⟨rfl,?_⟩
  refine CW.ret ?_
  exact Post.tup (by decide) (RVs.c (RV.i rfl (by rw [fe_bad ht hbd] <;> rfl)) (RVs.c (RV.c (f := fun e => (Entry.c e).map .w) (e' := (⟨0, 0, ⟨#[]⟩⟩ : Entry)) rfl rfl rfl rfl (DT.v (DT.v (DT.v DT.e))) (by rw [fe_bad ht hbd] <;> rfl)) (RVs.c (RV.b rfl (by rw [fe_bad ht hbd] <;> rfl)) RVs.e))) (AOs.r AOs.e)
 ·skip
  have hbd : (feC t).bad = false := h12
  refine CW.skip ?_
  refine CW.keep 56 [0,3,5,6,7,8,13] rfl ?_;(conv=>whnf);refine ⟨?_⟩
  refine CW.seq ?_
  refine CW.region ?_
  refine RW.k XK 56 1 rfl ?_
  (conv=>whnf);refine ⟨rfl,?_⟩
  refine RW.v rfl (V.idxStr (m := 0) rfl (by kernel_rfl) rfl rfl (fe_lt ht hbd)) ?_
  refine RW.k XK 56 3 rfl ?_
  (conv=>whnf);refine ⟨rfl,?_⟩
  refine RW.nil ?_
  refine CW.keep 56 [0,3,5,6,7,13] rfl ?_;(conv=>whnf);refine ⟨?_⟩
  refine CW.seq ?_
  refine CW.region ?_
  refine RW.k XK 56 5 rfl ?_
  (conv=>whnf);refine ⟨rfl,?_⟩
  refine RW.v rfl (V.strSlice (l := (tkC (numC (numC (tkC (⟨t, 0, false⟩ : l05Cur) 1))) 1).at_) (h := (t.size : Int)) rfl (by kernel_rfl) rfl (.inr ⟨_, _, rfl, rfl⟩) (.inl ⟨rfl, rfl⟩) (fe_sl ht)) ?_
  refine RW.k XK 56 2 rfl ?_
  (conv=>whnf);refine ⟨rfl,?_⟩
  refine RW.nil ?_
  refine CW.keep 56 [0,3,6,7] rfl ?_;(conv=>whnf);refine ⟨?_⟩
  refine CW.seq ?_
  refine CW.region ?_
  refine RW.k XK 56 2 rfl ?_
  (conv=>whnf);refine ⟨rfl,?_⟩
  refine RW.call rfl (spec_EntryText_fn (numW (tkC (⟨t, 0, false⟩ : l05Cur) 1)) (⟨(numW (numC (tkC (⟨t, 0, false⟩ : l05Cur) 1))), (IntKind.i64.wrap (bat (tkW (numC (numC (tkC (⟨t, 0, false⟩ : l05Cur) 1))) 1) 0)), (t.extract ((tkC (numC (numC (tkC (⟨t, 0, false⟩ : l05Cur) 1))) 1).at_).toNat (t.size : Int).toNat)⟩ : Entry) (fe_size ht)) rfl (.cons (.one (.r .r)) (.cons (.agg (.cons (.r .r) (.cons (.r .r) (.cons (.r .r) (.nil))))) (.nil))) fun g13 => ?_
  refine RW.k XK 56 5 rfl ?_
  (conv=>whnf);refine ⟨rfl,?_⟩
  refine RW.nil ?_
  refine CW.keep 56 [0,3,6,7,9,10] rfl ?_;(conv=>whnf);refine ⟨?_⟩
  refine CW.seq ?_
  refine CW.seqJ 56 (fun (v14 : Bool) => [(3, .obj b1 [I 0, I 0, S (⟨#[]⟩)]), (6, I (numW (tkC (⟨t, 0, false⟩ : l05Cur) 1))), (7, .obj b7 [I (numW (numC (tkC (⟨t, 0, false⟩ : l05Cur) 1))), I (IntKind.i64.wrap (bat (tkW (numC (numC (tkC (⟨t, 0, false⟩ : l05Cur) 1))) 1) 0)), S (t.extract ((tkC (numC (numC (tkC (⟨t, 0, false⟩ : l05Cur) 1))) 1).at_).toNat (t.size : Int).toNat)]), (52, Bo v14)]) (fun v14 => v14 = ((!((entT (numW (tkC (⟨t, 0, false⟩ : l05Cur) 1)) (⟨(numW (numC (tkC (⟨t, 0, false⟩ : l05Cur) 1))), (IntKind.i64.wrap (bat (tkW (numC (numC (tkC (⟨t, 0, false⟩ : l05Cur) 1))) 1) 0)), (t.extract ((tkC (numC (numC (tkC (⟨t, 0, false⟩ : l05Cur) 1))) 1).at_).toNat (t.size : Int).toNat)⟩ : Entry)).2)) || (!(((entT (numW (tkC (⟨t, 0, false⟩ : l05Cur) 1)) (⟨(numW (numC (tkC (⟨t, 0, false⟩ : l05Cur) 1))), (IntKind.i64.wrap (bat (tkW (numC (numC (tkC (⟨t, 0, false⟩ : l05Cur) 1))) 1) 0)), (t.extract ((tkC (numC (numC (tkC (⟨t, 0, false⟩ : l05Cur) 1))) 1).at_).toNat (t.size : Int).toNat)⟩ : Entry)).1).toList == t.toList)))) ?_ ?_
  ·refine CW.region ?_
   refine RW.k XK 56 3 rfl ?_
   (conv=>whnf);refine ⟨rfl,?_⟩
   refine RW.gv rfl rfl rfl rfl (fun h15 => V.mv (d := S ((entT (numW (tkC (⟨t, 0, false⟩ : l05Cur) 1)) (⟨(numW (numC (tkC (⟨t, 0, false⟩ : l05Cur) 1))), (IntKind.i64.wrap (bat (tkW (numC (numC (tkC (⟨t, 0, false⟩ : l05Cur) 1))) 1) 0)), (t.extract ((tkC (numC (numC (tkC (⟨t, 0, false⟩ : l05Cur) 1))) 1).at_).toNat (t.size : Int).toNat)⟩ : Entry)).1)) rfl rfl) (fun h15 => ?_) (fun h15 => ?_)
   ·skip
    refine RW.k XK 56 3 rfl ?_
    (conv=>whnf);refine ⟨rfl,?_⟩
    refine RW.nil ?_
    exact ⟨_, by first | rfl | (simp_all; done) | (simp_all; omega) | grind, rfl, Le.of rfl⟩
   ·skip
    refine RW.k XK 56 3 rfl ?_
    (conv=>whnf);refine ⟨rfl,?_⟩
    refine RW.nil ?_
    exact ⟨_, by first | rfl | (simp_all; done) | (simp_all; omega) | grind, rfl, Le.of rfl⟩
  ·intro v14 hv16
   refine CW.cond rfl (fun h17 => ?_) (fun h17 => ?_)
   ·skip
    have hvv := hv16.symm.trans h17
    refine CW.k XK 56 1 [2,3,4] rfl ?_
    (conv=>whnf);refine ⟨rfl,?_⟩
    refine CW.ret ?_
    exact Post.tup (by decide) (RVs.c (RV.i rfl (by rw [fe_no ht hbd hvv] <;> rfl)) (RVs.c (RV.c (f := fun e => (Entry.c e).map .w) (e' := (⟨0, 0, ⟨#[]⟩⟩ : Entry)) rfl rfl rfl rfl (DT.v (DT.v (DT.v DT.e))) (by rw [fe_no ht hbd hvv] <;> rfl)) (RVs.c (RV.b rfl (by rw [fe_no ht hbd hvv] <;> rfl)) RVs.e))) (AOs.r AOs.e)
   ·skip
    have hvv := hv16.symm.trans h17
    refine CW.skip ?_
    refine CW.keep 56 [3,6,7] rfl ?_;(conv=>whnf);refine ⟨?_⟩
    refine CW.anyJ2 (fc := [(7, b7, [.int .i64 (numW (numC (tkC (⟨t, 0, false⟩ : l05Cur) 1))), .int .i64 (IntKind.i64.wrap (bat (tkW (numC (numC (tkC (⟨t, 0, false⟩ : l05Cur) 1))) 1) 0)), .string (t.extract ((tkC (numC (numC (tkC (⟨t, 0, false⟩ : l05Cur) 1))) 1).at_).toNat (t.size : Int).toNat)])]) (L0 := [(7, .obj b7 [I (numW (numC (tkC (⟨t, 0, false⟩ : l05Cur) 1))), I (IntKind.i64.wrap (bat (tkW (numC (numC (tkC (⟨t, 0, false⟩ : l05Cur) 1))) 1) 0)), S (t.extract ((tkC (numC (numC (tkC (⟨t, 0, false⟩ : l05Cur) 1))) 1).at_).toNat (t.size : Int).toNat)])]) 56 (fun (_ : Unit) => [(2, I (numW (tkC (⟨t, 0, false⟩ : l05Cur) 1))), (3, .obj b1 [I (numW (numC (tkC (⟨t, 0, false⟩ : l05Cur) 1))), I (IntKind.i64.wrap (bat (tkW (numC (numC (tkC (⟨t, 0, false⟩ : l05Cur) 1))) 1) 0)), S (t.extract ((tkC (numC (numC (tkC (⟨t, 0, false⟩ : l05Cur) 1))) 1).at_).toNat (t.size : Int).toNat)]), (4, Bo true)]) (fun all hall f hf b0 hb K hK => ?_) ?_
    ·skip
     have ro18_1 : ∀ B, RA f E B all 0 (bt 5 31) ⟨56, [(2, I (numW (tkC (⟨t, 0, false⟩ : l05Cur) 1))), (3, .obj b1 [I (numW (numC (tkC (⟨t, 0, false⟩ : l05Cur) 1))), I (IntKind.i64.wrap (bat (tkW (numC (numC (tkC (⟨t, 0, false⟩ : l05Cur) 1))) 1) 0)), S (t.extract ((tkC (numC (numC (tkC (⟨t, 0, false⟩ : l05Cur) 1))) 1).at_).toNat (t.size : Int).toNat)]), (4, Bo true)] ++ b0⟩ K := by
      intro B
      exact RA.of2 hall hf hb (RA.finH (Tell.of rfl) (by kernel_rfl) (hK () _ rfl (Le.of rfl)))
     have ro18_0 : ∀ B, RA f E B all 2 (bt 5 7) ⟨56, [(2, I (numW (tkC (⟨t, 0, false⟩ : l05Cur) 1))), (3, .obj b1 [I 0, I 0, S (⟨#[]⟩)]), (55, .agg [I (numW (numC (tkC (⟨t, 0, false⟩ : l05Cur) 1))), I (IntKind.i64.wrap (bat (tkW (numC (numC (tkC (⟨t, 0, false⟩ : l05Cur) 1))) 1) 0)), S (t.extract ((tkC (numC (numC (tkC (⟨t, 0, false⟩ : l05Cur) 1))) 1).at_).toNat (t.size : Int).toNat)])] ++ b0⟩ K := by
      intro B
      refine RA.of2 hall hf hb (RA.stepH (L := [3]) (Tell.of rfl) (by kernel_rfl) (by simp) (RA.each ?_ (RA.each0)))
      ·skip
       refine RO.storeAgg (es := [I (numW (numC (tkC (⟨t, 0, false⟩ : l05Cur) 1))), I (IntKind.i64.wrap (bat (tkW (numC (numC (tkC (⟨t, 0, false⟩ : l05Cur) 1))) 1) 0)), S (t.extract ((tkC (numC (numC (tkC (⟨t, 0, false⟩ : l05Cur) 1))) 1).at_).toNat (t.size : Int).toNat)]) rfl rfl rfl rfl rfl rfl rfl rfl rfl rfl (Nat.le_of_ble_eq_true rfl) rfl ?_
       refine RA.fr XK 56 0 [4] (bt 5 31) rfl rfl (by kernel_rfl) (Tell.of rfl) ?_
       (conv=>whnf);refine ⟨rfl,fun B=>?_⟩
       exact RA.to2 hall hf hb (ro18_1 B) rfl rfl (by kernel_rfl)
     refine RA.start (by kernel_rfl) (by kernel_rfl) (m := 5) (ls' := (bt 5 0)) ?_
     refine RA.fr XK 56 2 [0,1,2] (bt 5 7) rfl rfl (by kernel_rfl) (Tell.of rfl) ?_
     (conv=>whnf);refine ⟨rfl,fun B=>?_⟩
     exact RA.to2 hall hf hb (ro18_0 B) rfl rfl (by kernel_rfl)
    ·rintro _
     refine CW.ret ?_
     exact Post.tup (by decide) (RVs.c (RV.i rfl (by rw [fe_yes ht hbd hvv] <;> rfl)) (RVs.c (RV.c (f := fun e => (Entry.c e).map .w) (e' := (⟨(numW (numC (tkC (⟨t, 0, false⟩ : l05Cur) 1))), (IntKind.i64.wrap (bat (tkW (numC (numC (tkC (⟨t, 0, false⟩ : l05Cur) 1))) 1) 0)), (t.extract ((tkC (numC (numC (tkC (⟨t, 0, false⟩ : l05Cur) 1))) 1).at_).toNat (t.size : Int).toNat)⟩ : Entry)) rfl rfl rfl rfl (DT.v (DT.v (DT.v DT.e))) (by rw [fe_yes ht hbd hvv] <;> rfl)) (RVs.c (RV.b rfl (by rw [fe_yes ht hbd hvv] <;> rfl)) RVs.e))) (AOs.r AOs.e)
set_option maxHeartbeats 4000000 in
theorem spec_MessageOk_fn (m : Message) (hok : okToMessage m) : Eng.Fn E.P 13 [.agg ((Message.c m).map .r)] (.one (.one (.w (.v (.bool (msgOk m)))))) [.agg ((Message.c m).map .r)] := by
 refine Eng.Fn.intro (E := E) (rvs := [.tmp 2]) Try.func13 rfl rfl rfl (by simp [outSlots, moved, rvSlot, sl]) ?_
 intro B g bo
 refine CW.keep 134 [0] rfl ?_;(conv=>whnf);refine ⟨?_⟩
 have hl1 : m.entries.length ≤ maxLen := by have := hok.1.1; simp only [maxLen]; omega
 refine CW.seq ?_
 refine CW.region ?_
 refine RW.k XK 134 1 rfl ?_
 (conv=>whnf);intro b1;(conv=>whnf);refine ⟨rfl,?_⟩
 refine RW.freezeB (ts := (Message.c m)) 1 rfl (DRd.r (DRd.r (DRd.r (DRd.r (DRd.r (DRd.r (DRd.r (DRd.r (DRd.r (DRd.r (DRd.r (DRd.r DRd.e)))))))))))) ?_
 refine RW.k XK 134 1 rfl ?_
 (conv=>whnf);refine ⟨rfl,?_⟩
 refine RW.nil ?_
 refine CW.keep 134 [1] rfl ?_;(conv=>whnf);refine ⟨?_⟩
 refine CW.seq ?_
 refine CW.seqJ 134 (fun (v2 : Bool) => [(1, .rp (Message.c m)), (27, Bo v2)]) (fun v2 => v2 = ((((!(inR m.kind 1 6)) || (!(inR m.from_ 1 4))) || (!(inR m.to 1 4))) || (m.from_ == m.to))) ?_ ?_
 ·refine CW.region ?_
  refine RW.k XK 134 2 rfl ?_
  (conv=>whnf);refine ⟨rfl,?_⟩
  refine RW.call rfl (spec_l01In_fn m.kind 1 6) rfl (.cons (.one (.r .r)) (.cons (.one (.r .r)) (.cons (.one (.r .r)) (.nil)))) fun g3 => ?_
  refine RW.k XK 134 2 rfl ?_
  (conv=>whnf);refine ⟨rfl,?_⟩
  refine RW.gv rfl rfl rfl rfl (fun h4 => V.fieldR rfl rfl rfl rfl (by decide) rfl (Nat.le_of_ble_eq_true rfl)) (fun h4 => ?_) (fun h4 => ?_)
  ·skip
   refine RW.k XK 134 1 rfl ?_
   (conv=>whnf);refine ⟨rfl,?_⟩
   refine RW.gcall rfl rfl rfl rfl (spec_l01In_fn m.from_ 1 4) rfl (.cons (.one (.r .r)) (.cons (.one (.r .r)) (.cons (.one (.r .r)) (.nil)))) fun g5 => ?_
   refine RW.k XK 134 3 rfl ?_
   (conv=>whnf);refine ⟨rfl,?_⟩
   refine RW.gv rfl rfl rfl rfl (fun h6 => V.fieldR rfl rfl rfl rfl (by decide) rfl (Nat.le_of_ble_eq_true rfl)) (fun h6 => ?_) (fun h6 => ?_)
   ·skip
    refine RW.k XK 134 1 rfl ?_
    (conv=>whnf);refine ⟨rfl,?_⟩
    refine RW.gcall rfl rfl rfl rfl (spec_l01In_fn m.to 1 4) rfl (.cons (.one (.r .r)) (.cons (.one (.r .r)) (.cons (.one (.r .r)) (.nil)))) fun g7 => ?_
    refine RW.k XK 134 3 rfl ?_
    (conv=>whnf);refine ⟨rfl,?_⟩
    refine RW.gv rfl rfl rfl rfl (fun h8 => V.fieldR rfl rfl rfl rfl (by decide) rfl (Nat.le_of_ble_eq_true rfl)) (fun h8 => ?_) (fun h8 => ?_)
    ·skip
     refine RW.k XK 134 5 rfl ?_
     (conv=>whnf);refine ⟨rfl,?_⟩
     refine RW.nil ?_
     exact ⟨_, by first | rfl | (simp_all; done) | (simp_all; omega) | grind, rfl, Le.of rfl⟩
    ·skip
     refine RW.k XK 134 5 rfl ?_
     (conv=>whnf);refine ⟨rfl,?_⟩
     refine RW.nil ?_
     exact ⟨_, by first | rfl | (simp_all; done) | (simp_all; omega) | grind, rfl, Le.of rfl⟩
   ·skip
    refine RW.k XK 134 11 rfl ?_
    (conv=>whnf);refine ⟨rfl,?_⟩
    refine RW.nil ?_
    exact ⟨_, by first | rfl | (simp_all; done) | (simp_all; omega) | grind, rfl, Le.of rfl⟩
  ·skip
   refine RW.k XK 134 17 rfl ?_
   (conv=>whnf);refine ⟨rfl,?_⟩
   refine RW.nil ?_
   exact ⟨_, by first | rfl | (simp_all; done) | (simp_all; omega) | grind, rfl, Le.of rfl⟩
 ·intro v2 hv9
  refine CW.cond rfl (fun h10 => ?_) (fun h10 => ?_)
  ·skip
   have hq1 : mo1 m = true := hv9.symm.trans h10
   refine CW.k XK 134 1 [2] rfl ?_
   (conv=>whnf);refine ⟨rfl,?_⟩
   refine CW.ret ?_
   exact Post.one (RV.b rfl (by exact (mok1 hq1).symm)) (AOs.a rfl AOs.e)
  ·skip
   have hq1 : mo1 m = false := hv9.symm.trans h10
   refine CW.skip ?_
   refine CW.keep 134 [1] rfl ?_;(conv=>whnf);refine ⟨?_⟩
   refine CW.seq ?_
   refine CW.seqJ 134 (fun (v11 : Bool) => [(1, .rp (Message.c m)), (49, Bo v11)]) (fun v11 => v11 = ((((!(inR m.term_ 0 100000)) || (!(inR m.logTerm 0 100000))) || (!(inR m.index 0 1000000))) || (!(inR m.commit 0 1000000)))) ?_ ?_
   ·refine CW.region ?_
    refine RW.k XK 134 2 rfl ?_
    (conv=>whnf);refine ⟨rfl,?_⟩
    refine RW.call rfl (spec_l01In_fn m.term_ 0 100000) rfl (.cons (.one (.r .r)) (.cons (.one (.r .r)) (.cons (.one (.r .r)) (.nil)))) fun g12 => ?_
    refine RW.k XK 134 2 rfl ?_
    (conv=>whnf);refine ⟨rfl,?_⟩
    refine RW.gv rfl rfl rfl rfl (fun h13 => V.fieldR rfl rfl rfl rfl (by decide) rfl (Nat.le_of_ble_eq_true rfl)) (fun h13 => ?_) (fun h13 => ?_)
    ·skip
     refine RW.k XK 134 1 rfl ?_
     (conv=>whnf);refine ⟨rfl,?_⟩
     refine RW.gcall rfl rfl rfl rfl (spec_l01In_fn m.logTerm 0 100000) rfl (.cons (.one (.r .r)) (.cons (.one (.r .r)) (.cons (.one (.r .r)) (.nil)))) fun g14 => ?_
     refine RW.k XK 134 3 rfl ?_
     (conv=>whnf);refine ⟨rfl,?_⟩
     refine RW.gv rfl rfl rfl rfl (fun h15 => V.fieldR rfl rfl rfl rfl (by decide) rfl (Nat.le_of_ble_eq_true rfl)) (fun h15 => ?_) (fun h15 => ?_)
     ·skip
      refine RW.k XK 134 1 rfl ?_
      (conv=>whnf);refine ⟨rfl,?_⟩
      refine RW.gcall rfl rfl rfl rfl (spec_l01In_fn m.index 0 1000000) rfl (.cons (.one (.r .r)) (.cons (.one (.r .r)) (.cons (.one (.r .r)) (.nil)))) fun g16 => ?_
      refine RW.k XK 134 3 rfl ?_
      (conv=>whnf);refine ⟨rfl,?_⟩
      refine RW.gv rfl rfl rfl rfl (fun h17 => V.fieldR rfl rfl rfl rfl (by decide) rfl (Nat.le_of_ble_eq_true rfl)) (fun h17 => ?_) (fun h17 => ?_)
      ·skip
       refine RW.k XK 134 1 rfl ?_
       (conv=>whnf);refine ⟨rfl,?_⟩
       refine RW.gcall rfl rfl rfl rfl (spec_l01In_fn m.commit 0 1000000) rfl (.cons (.one (.r .r)) (.cons (.one (.r .r)) (.cons (.one (.r .r)) (.nil)))) fun g18 => ?_
       refine RW.k XK 134 2 rfl ?_
       (conv=>whnf);refine ⟨rfl,?_⟩
       refine RW.nil ?_
       exact ⟨_, by first | rfl | (simp_all; done) | (simp_all; omega) | grind, rfl, Le.of rfl⟩
      ·skip
       refine RW.k XK 134 4 rfl ?_
       (conv=>whnf);refine ⟨rfl,?_⟩
       refine RW.nil ?_
       exact ⟨_, by first | rfl | (simp_all; done) | (simp_all; omega) | grind, rfl, Le.of rfl⟩
     ·skip
      refine RW.k XK 134 10 rfl ?_
      (conv=>whnf);refine ⟨rfl,?_⟩
      refine RW.nil ?_
      exact ⟨_, by first | rfl | (simp_all; done) | (simp_all; omega) | grind, rfl, Le.of rfl⟩
    ·skip
     refine RW.k XK 134 16 rfl ?_
     (conv=>whnf);refine ⟨rfl,?_⟩
     refine RW.nil ?_
     exact ⟨_, by first | rfl | (simp_all; done) | (simp_all; omega) | grind, rfl, Le.of rfl⟩
   ·intro v11 hv19
    refine CW.cond rfl (fun h20 => ?_) (fun h20 => ?_)
    ·skip
     have hq2 : mo2 m = true := hv19.symm.trans h20
     refine CW.k XK 134 1 [2] rfl ?_
     (conv=>whnf);refine ⟨rfl,?_⟩
     refine CW.ret ?_
     exact Post.one (RV.b rfl (by exact (mok2 hq1 hq2).symm)) (AOs.a rfl AOs.e)
    ·skip
     have hq2 : mo2 m = false := hv19.symm.trans h20
     refine CW.skip ?_
     refine CW.keep 134 [1] rfl ?_;(conv=>whnf);refine ⟨?_⟩
     refine CW.seq ?_
     refine CW.seqJ 134 (fun (v21 : Bool) => [(1, .rp (Message.c m)), (64, Bo v21)]) (fun v21 => v21 = (decide ((m.entries.length : Int) > 4) || (decide ((m.entries.length : Int) > 0) && (m.kind != 3)))) ?_ ?_
     ·refine CW.region ?_
      refine RW.k XK 134 5 rfl ?_
      (conv=>whnf);refine ⟨rfl,?_⟩
      refine RW.gv rfl rfl rfl rfl (fun h22 => V.fieldR rfl rfl rfl rfl (by decide) rfl (Nat.le_of_ble_eq_true rfl)) (fun h22 => ?_) (fun h22 => ?_)
      ·skip
       refine RW.k XK 134 4 rfl ?_
       (conv=>whnf);refine ⟨rfl,?_⟩
       refine RW.gv rfl rfl rfl rfl (fun h23 => V.fieldR rfl rfl rfl rfl (by decide) rfl (Nat.le_of_ble_eq_true rfl)) (fun h23 => ?_) (fun h23 => ?_)
       ·skip
        refine RW.k XK 134 4 rfl ?_
        (conv=>whnf);refine ⟨rfl,?_⟩
        refine RW.nil ?_
        exact ⟨_, by first | rfl | (simp_all; done) | (simp_all; omega) | grind, rfl, Le.of rfl⟩
       ·skip
        refine RW.k XK 134 4 rfl ?_
        (conv=>whnf);refine ⟨rfl,?_⟩
        refine RW.nil ?_
        exact ⟨_, by first | rfl | (simp_all; done) | (simp_all; omega) | grind, rfl, Le.of rfl⟩
      ·skip
       refine RW.k XK 134 9 rfl ?_
       (conv=>whnf);refine ⟨rfl,?_⟩
       refine RW.nil ?_
       exact ⟨_, by first | rfl | (simp_all; done) | (simp_all; omega) | grind, rfl, Le.of rfl⟩
     ·intro v21 hv24
      refine CW.cond rfl (fun h25 => ?_) (fun h25 => ?_)
      ·skip
       have hq3 : mo3 m = true := hv24.symm.trans h25
       refine CW.k XK 134 1 [2] rfl ?_
       (conv=>whnf);refine ⟨rfl,?_⟩
       refine CW.ret ?_
       exact Post.one (RV.b rfl (by exact (mok3 hq1 hq2 hq3).symm)) (AOs.a rfl AOs.e)
      ·skip
       have hq3 : mo3 m = false := hv24.symm.trans h25
       refine CW.skip ?_
       refine CW.keep 134 [1] rfl ?_;(conv=>whnf);refine ⟨?_⟩
       refine CW.k XK 134 1 [1,3] rfl ?_
       (conv=>whnf);refine ⟨rfl,?_⟩
       refine CW.seq ?_
       refine CW.k XK 134 1 [1,3,4] rfl ?_
       (conv=>whnf);refine ⟨rfl,?_⟩
       refine CW.block ?_
       refine CW.loopI 134 (fun (zz : Nat × Int) => match zz with | (i, u) => [(1, .rp (Message.c m)), (3, I u), (4, I (i : Int))]) (fun (zz : Nat × Int) => match zz with | (i, u) => i ≤ m.entries.length ∧ msgTerms m.term_ u (m.entries.drop i) = msgTerms m.term_ m.logTerm m.entries) (fun (zz : Nat × Int) => match zz with | (i, u) => m.entries.length - i) (0, _) rfl (Le.c rfl <| Le.c rfl <| Le.c rfl <| Le.e) ⟨by omega, rfl⟩ ?_
       rintro ⟨i, u⟩ ⟨hb, hr⟩
       refine CW.seq ?_
       refine CW.k XK 134 1 [1,3,4,71] rfl ?_
       (conv=>whnf);refine ⟨rfl,?_⟩
       refine CW.cond rfl (fun h26 => ?_) (fun h26 => ?_)
       ·skip
        have hii : i < m.entries.length := by have := h26; simp at this; first | exact this | omega | (simp; done) | (simp; omega)
        obtain ⟨ei, hei⟩ : ∃ e, m.entries[i]? = some e := ⟨_, List.getElem?_eq_getElem hii⟩
        have hdi := drop_get hei
        refine CW.skip ?_
        refine CW.keep 134 [1,3,4] rfl ?_;(conv=>whnf);refine ⟨?_⟩
        refine CW.seq ?_
        refine CW.block ?_
        refine CW.seq ?_
        refine CW.seqJ 134 (fun (v27 : Bool) => [(1, .rp (Message.c m)), (4, I (i : Int)), (101, Bo v27)]) (fun v27 => v27 = (((!(entOk ei)) || decide (ei.term_ < u)) || decide (ei.term_ > m.term_))) ?_ ?_
        ·refine CW.drawn (by kernel_rfl) ?_
         refine RQ.k XK 134 3 rfl ?_
         (conv=>whnf);refine ⟨rfl,?_⟩
         refine RQ.v rfl (V.indexS rfl rfl rfl rfl rfl rfl Entry.len hei) ?_
         refine RQ.k XK 134 1 rfl ?_
         (conv=>whnf);refine ⟨rfl,?_⟩
         refine RQ.cons rfl (QOK.call (spec_EntryOk_fn ei (hok.1.2 ei (List.mem_of_getElem? hei))) rfl (.cons (.agg (.cons (.r .r) (.cons (.r .r) (.cons (.r .r) (.nil))))) (.nil)) ?_)
         refine RQ.k XK 134 2 rfl ?_
         (conv=>whnf);refine ⟨rfl,?_⟩
         refine RQ.gv rfl rfl rfl rfl (fun h28 => V.fieldR rfl rfl rfl rfl (by decide) rfl (Nat.le_of_ble_eq_true rfl)) (fun h28 => ?_) (fun h28 => ?_)
         ·skip
          refine RQ.k XK 134 2 rfl ?_
          (conv=>whnf);refine ⟨rfl,?_⟩
          refine RQ.gt rfl rfl rfl rfl (V.indexS rfl rfl rfl rfl rfl rfl Entry.len hei) ?_
          refine RQ.k XK 134 6 rfl ?_
          (conv=>whnf);refine ⟨rfl,?_⟩
          refine RQ.gv rfl rfl rfl rfl (fun h29 => V.fieldR rfl rfl rfl rfl (by decide) rfl (Nat.le_of_ble_eq_true rfl)) (fun h29 => ?_) (fun h29 => ?_)
          ·skip
           refine RQ.k XK 134 2 rfl ?_
           (conv=>whnf);refine ⟨rfl,?_⟩
           refine RQ.gt rfl rfl rfl rfl (V.indexS rfl rfl rfl rfl rfl rfl Entry.len hei) ?_
           refine RQ.k XK 134 6 rfl ?_
           (conv=>whnf);refine ⟨rfl,?_⟩
           refine RQ.nil ?_
           exact ⟨_, by first | rfl | (simp_all; done) | (simp_all; omega) | grind, rfl, Le.of rfl⟩
          ·skip
           refine RQ.k XK 134 9 rfl ?_
           (conv=>whnf);refine ⟨rfl,?_⟩
           refine RQ.nil ?_
           exact ⟨_, by first | rfl | (simp_all; done) | (simp_all; omega) | grind, rfl, Le.of rfl⟩
         ·skip
          refine RQ.k XK 134 19 rfl ?_
          (conv=>whnf);refine ⟨rfl,?_⟩
          refine RQ.nil ?_
          exact ⟨_, by first | rfl | (simp_all; done) | (simp_all; omega) | grind, rfl, Le.of rfl⟩
        ·intro v27 hv30
         refine CW.cond rfl (fun h31 => ?_) (fun h31 => ?_)
         ·skip
          have hww := hv30.symm.trans h31
          have htm : msgTerms m.term_ m.logTerm m.entries = false := by rw [← hr, takeT hei, if_pos hww]
          refine CW.k XK 134 1 [2] rfl ?_
          (conv=>whnf);refine ⟨rfl,?_⟩
          refine CW.ret ?_
          exact Post.one (RV.b rfl (by exact (mokT htm).symm)) (AOs.a rfl AOs.e)
         ·skip
          have hww := hv30.symm.trans h31
          refine CW.skip ?_
          refine CW.keep 134 [1,4] rfl ?_;(conv=>whnf);refine ⟨?_⟩
          refine CW.region ?_
          refine RW.k XK 134 3 rfl ?_
          (conv=>whnf);refine ⟨rfl,?_⟩
          refine RW.v rfl (V.indexS rfl rfl rfl rfl rfl rfl Entry.len hei) ?_
          refine RW.k XK 134 3 rfl ?_
          (conv=>whnf);refine ⟨rfl,?_⟩
          refine RW.nil ?_
          refine CW.keep 134 [1,3,4] rfl ?_;(conv=>whnf);refine ⟨?_⟩
          refine CW.region ?_
          refine RW.k XK 134 1 rfl ?_
          (conv=>whnf);refine ⟨rfl,?_⟩
          refine RW.v rfl (V.inc rfl rfl rfl hii hl1) ?_
          refine RW.k XK 134 1 rfl ?_
          (conv=>whnf);refine ⟨rfl,?_⟩
          refine RW.nil ?_
          exact ⟨(i + 1, ei.term_), by simp only []; omega, ⟨by omega, by rw [← hr, takeT hei, if_neg (by rw [hww]; simp)]⟩, rfl, Le.c rfl <| Le.c rfl <| Le.c rfl <| Le.e⟩
       ·skip
        have hii : m.entries.length ≤ i := by have := h26; simp at this; first | exact this | omega | (simp; done) | (simp; omega)
        have hdi : m.entries.drop i = [] := List.drop_eq_nil_of_le hii
        refine CW.exit ?_
        refine CW.keep 134 [1] rfl ?_;(conv=>whnf);refine ⟨?_⟩
        refine CW.seq ?_
        refine CW.k XK 134 1 [1,110] rfl ?_
        (conv=>whnf);refine ⟨rfl,?_⟩
        refine CW.cond rfl (fun h32 => ?_) (fun h32 => ?_)
        ·skip
         have htm : msgTerms m.term_ m.logTerm m.entries = true := by rw [← hr, List.drop_of_length_le hii]; rfl
         have hk5 := h32
         refine CW.seqJ 134 (fun (v33 : Bool) => [(2, Bo v33)]) (fun v33 => v33 = ((confOk m.conf) && decide ((m.data.size : Int) ≤ 60))) ?_ ?_
         ·refine CW.region ?_
          refine RW.k XK 134 2 rfl ?_
          (conv=>whnf);refine ⟨rfl,?_⟩
          refine RW.call rfl (spec_ConfOk_fn m.conf) rfl (.cons (.one (.r .r)) (.nil)) fun g34 => ?_
          refine RW.k XK 134 1 rfl ?_
          (conv=>whnf);refine ⟨rfl,?_⟩
          refine RW.gv rfl rfl rfl rfl (fun h35 => V.fieldR rfl rfl rfl rfl (by decide) rfl (Nat.le_of_ble_eq_true rfl)) (fun h35 => ?_) (fun h35 => ?_)
          ·skip
           refine RW.k XK 134 5 rfl ?_
           (conv=>whnf);refine ⟨rfl,?_⟩
           refine RW.nil ?_
           exact ⟨_, by first | rfl | (simp_all; done) | (simp_all; omega) | grind, rfl, Le.of rfl⟩
          ·skip
           refine RW.k XK 134 5 rfl ?_
           (conv=>whnf);refine ⟨rfl,?_⟩
           refine RW.nil ?_
           exact ⟨_, by first | rfl | (simp_all; done) | (simp_all; omega) | grind, rfl, Le.of rfl⟩
         ·intro v33 hv36
          refine CW.ret ?_
          exact Post.one (RV.b rfl (by rw [mok4 hq1 hq2 hq3 htm, mo4, if_pos hk5]; assumption)) (AOs.a rfl AOs.e)
        ·skip
         have htm : msgTerms m.term_ m.logTerm m.entries = true := by rw [← hr, List.drop_of_length_le hii]; rfl
         have hk5 := h32
         refine CW.skip ?_
         refine CW.keep 134 [1] rfl ?_;(conv=>whnf);refine ⟨?_⟩
         refine CW.seqJ 134 (fun (v37 : Bool) => [(2, Bo v37)]) (fun v37 => v37 = ((((m.conf.length : Int) == 0) && (m.data.toList == (⟨#[]⟩ : ByteArray).toList)) && (!m.last))) ?_ ?_
         ·refine CW.region ?_
          refine RW.k XK 134 5 rfl ?_
          (conv=>whnf);refine ⟨rfl,?_⟩
          refine RW.gv rfl rfl rfl rfl (fun h38 => V.fieldR rfl rfl rfl rfl (by decide) rfl (Nat.le_of_ble_eq_true rfl)) (fun h38 => ?_) (fun h38 => ?_)
          ·skip
           refine RW.k XK 134 4 rfl ?_
           (conv=>whnf);refine ⟨rfl,?_⟩
           refine RW.gv rfl rfl rfl rfl (fun h39 => V.fieldR rfl rfl rfl rfl (by decide) rfl (Nat.le_of_ble_eq_true rfl)) (fun h39 => ?_) (fun h39 => ?_)
           ·skip
            refine RW.k XK 134 4 rfl ?_
            (conv=>whnf);refine ⟨rfl,?_⟩
            refine RW.nil ?_
            exact ⟨_, by first | rfl | (simp_all; done) | (simp_all; omega) | grind, rfl, Le.of rfl⟩
           ·skip
            refine RW.k XK 134 4 rfl ?_
            (conv=>whnf);refine ⟨rfl,?_⟩
            refine RW.nil ?_
            exact ⟨_, by first | rfl | (simp_all; done) | (simp_all; omega) | grind, rfl, Le.of rfl⟩
          ·skip
           refine RW.k XK 134 9 rfl ?_
           (conv=>whnf);refine ⟨rfl,?_⟩
           refine RW.nil ?_
           exact ⟨_, by first | rfl | (simp_all; done) | (simp_all; omega) | grind, rfl, Le.of rfl⟩
         ·intro v37 hv40
          refine CW.ret ?_
          exact Post.one (RV.b rfl (by rw [mok4 hq1 hq2 hq3 htm, mo4, if_neg (by rw [hk5]; simp)]; assumption)) (AOs.a rfl AOs.e)
set_option maxHeartbeats 4000000 in
theorem impl_MessageOk_fn (m : Message) (hok : okToMessage m) : Eng.Fn E.P 14 [.agg ((Message.c m).map .r)] (.one (.one (.w (.v (.bool (msgOk m)))))) [.agg ((Message.c m).map .r)] := by
 refine Eng.Fn.intro (E := E) (rvs := [.tmp 2]) Try.func14 rfl rfl rfl (by simp [outSlots, moved, rvSlot, sl]) ?_
 intro B g bo
 refine CW.keep 137 [0] rfl ?_;(conv=>whnf);refine ⟨?_⟩
 have hl1 : m.entries.length ≤ maxLen := by have := hok.1.1; simp only [maxLen]; omega
 refine CW.seq ?_
 refine CW.region ?_
 refine RW.k XK 137 1 rfl ?_
 (conv=>whnf);intro b1;(conv=>whnf);refine ⟨rfl,?_⟩
 refine RW.freezeB (ts := (Message.c m)) 1 rfl (DRd.r (DRd.r (DRd.r (DRd.r (DRd.r (DRd.r (DRd.r (DRd.r (DRd.r (DRd.r (DRd.r (DRd.r DRd.e)))))))))))) ?_
 refine RW.k XK 137 1 rfl ?_
 (conv=>whnf);refine ⟨rfl,?_⟩
 refine RW.nil ?_
 refine CW.keep 137 [1] rfl ?_;(conv=>whnf);refine ⟨?_⟩
 refine CW.seq ?_
 refine CW.seqJ 137 (fun (v2 : Bool) => [(1, .rp (Message.c m)), (43, Bo v2)]) (fun v2 => v2 = ((((((!(inR m.kind 1 6)) || (!(inR m.from_ 1 4))) || (!(inR m.to 1 4))) || (m.from_ == m.to)) || (!(inR m.term_ 0 100000))) || (!(inR m.logTerm 0 100000)))) ?_ ?_
 ·refine CW.region ?_
  refine RW.k XK 137 2 rfl ?_
  (conv=>whnf);refine ⟨rfl,?_⟩
  refine RW.call rfl (impl_within_fn m.kind 1 6) rfl (.cons (.one (.r .r)) (.cons (.one (.r .r)) (.cons (.one (.r .r)) (.nil)))) fun g3 => ?_
  refine RW.k XK 137 2 rfl ?_
  (conv=>whnf);refine ⟨rfl,?_⟩
  refine RW.gv rfl rfl rfl rfl (fun h4 => V.fieldR rfl rfl rfl rfl (by decide) rfl (Nat.le_of_ble_eq_true rfl)) (fun h4 => ?_) (fun h4 => ?_)
  ·skip
   refine RW.k XK 137 1 rfl ?_
   (conv=>whnf);refine ⟨rfl,?_⟩
   refine RW.gcall rfl rfl rfl rfl (impl_isNode_fn m.from_) rfl (.cons (.one (.r .r)) (.nil)) fun g5 => ?_
   refine RW.k XK 137 3 rfl ?_
   (conv=>whnf);refine ⟨rfl,?_⟩
   refine RW.gv rfl rfl rfl rfl (fun h6 => V.fieldR rfl rfl rfl rfl (by decide) rfl (Nat.le_of_ble_eq_true rfl)) (fun h6 => ?_) (fun h6 => ?_)
   ·skip
    refine RW.k XK 137 1 rfl ?_
    (conv=>whnf);refine ⟨rfl,?_⟩
    refine RW.gcall rfl rfl rfl rfl (impl_isNode_fn m.to) rfl (.cons (.one (.r .r)) (.nil)) fun g7 => ?_
    refine RW.k XK 137 3 rfl ?_
    (conv=>whnf);refine ⟨rfl,?_⟩
    refine RW.gv rfl rfl rfl rfl (fun h8 => V.fieldR rfl rfl rfl rfl (by decide) rfl (Nat.le_of_ble_eq_true rfl)) (fun h8 => ?_) (fun h8 => ?_)
    ·skip
     refine RW.k XK 137 6 rfl ?_
     (conv=>whnf);refine ⟨rfl,?_⟩
     refine RW.gv rfl rfl rfl rfl (fun h9 => V.fieldR rfl rfl rfl rfl (by decide) rfl (Nat.le_of_ble_eq_true rfl)) (fun h9 => ?_) (fun h9 => ?_)
     ·skip
      refine RW.k XK 137 1 rfl ?_
      (conv=>whnf);refine ⟨rfl,?_⟩
      refine RW.gcall rfl rfl rfl rfl (impl_isTerm_fn m.term_) rfl (.cons (.one (.r .r)) (.nil)) fun g10 => ?_
      refine RW.k XK 137 3 rfl ?_
      (conv=>whnf);refine ⟨rfl,?_⟩
      refine RW.gv rfl rfl rfl rfl (fun h11 => V.fieldR rfl rfl rfl rfl (by decide) rfl (Nat.le_of_ble_eq_true rfl)) (fun h11 => ?_) (fun h11 => ?_)
      ·skip
       refine RW.k XK 137 1 rfl ?_
       (conv=>whnf);refine ⟨rfl,?_⟩
       refine RW.gcall rfl rfl rfl rfl (impl_isTerm_fn m.logTerm) rfl (.cons (.one (.r .r)) (.nil)) fun g12 => ?_
       refine RW.k XK 137 2 rfl ?_
       (conv=>whnf);refine ⟨rfl,?_⟩
       refine RW.nil ?_
       exact ⟨_, by first | rfl | (simp_all; done) | (simp_all; omega) | grind, rfl, Le.of rfl⟩
      ·skip
       refine RW.k XK 137 4 rfl ?_
       (conv=>whnf);refine ⟨rfl,?_⟩
       refine RW.nil ?_
       exact ⟨_, by first | rfl | (simp_all; done) | (simp_all; omega) | grind, rfl, Le.of rfl⟩
     ·skip
      refine RW.k XK 137 10 rfl ?_
      (conv=>whnf);refine ⟨rfl,?_⟩
      refine RW.nil ?_
      exact ⟨_, by first | rfl | (simp_all; done) | (simp_all; omega) | grind, rfl, Le.of rfl⟩
    ·skip
     refine RW.k XK 137 17 rfl ?_
     (conv=>whnf);refine ⟨rfl,?_⟩
     refine RW.nil ?_
     exact ⟨_, by first | rfl | (simp_all; done) | (simp_all; omega) | grind, rfl, Le.of rfl⟩
   ·skip
    refine RW.k XK 137 23 rfl ?_
    (conv=>whnf);refine ⟨rfl,?_⟩
    refine RW.nil ?_
    exact ⟨_, by first | rfl | (simp_all; done) | (simp_all; omega) | grind, rfl, Le.of rfl⟩
  ·skip
   refine RW.k XK 137 29 rfl ?_
   (conv=>whnf);refine ⟨rfl,?_⟩
   refine RW.nil ?_
   exact ⟨_, by first | rfl | (simp_all; done) | (simp_all; omega) | grind, rfl, Le.of rfl⟩
 ·intro v2 hv13
  refine CW.cond rfl (fun h14 => ?_) (fun h14 => ?_)
  ·skip
   have hq1 : mi1 m = true := hv13.symm.trans h14
   refine CW.k XK 137 1 [2] rfl ?_
   (conv=>whnf);refine ⟨rfl,?_⟩
   refine CW.ret ?_
   exact Post.one (RV.b rfl (by exact (mokI1 hq1).symm)) (AOs.a rfl AOs.e)
  ·skip
   have hq1 : mi1 m = false := hv13.symm.trans h14
   refine CW.skip ?_
   refine CW.keep 137 [1] rfl ?_;(conv=>whnf);refine ⟨?_⟩
   refine CW.k XK 137 1 [1,3] rfl ?_
   (conv=>whnf);refine ⟨rfl,?_⟩
   refine CW.seq ?_
   refine CW.k XK 137 1 [1,3,47,48,49] rfl ?_
   (conv=>whnf);refine ⟨rfl,?_⟩
   refine CW.block ?_
   refine CW.loopI 137 (fun (zz : Nat × Int) => match zz with | (i, u) => [(1, .rp (Message.c m)), (3, I u), (47, .r (sl 3 Entry.c m.entries)), (48, I (m.entries.length : Int)), (49, I (i : Int))]) (fun (zz : Nat × Int) => match zz with | (i, u) => i ≤ m.entries.length ∧ msgTerms m.term_ u (m.entries.drop i) = msgTerms m.term_ m.logTerm m.entries) (fun (zz : Nat × Int) => match zz with | (i, u) => m.entries.length - i) (0, _) rfl (Le.c rfl <| Le.c rfl <| Le.c rfl <| Le.c rfl <| Le.c rfl <| Le.e) ⟨by omega, rfl⟩ ?_
   rintro ⟨i, u⟩ ⟨hb, hr⟩
   refine CW.k XK 137 1 [1,3,47,48,49,50] rfl ?_
   (conv=>whnf);refine ⟨rfl,?_⟩
   refine CW.seq ?_
   refine CW.cond rfl (fun h15 => ?_) (fun h15 => ?_)
   ·skip
    have hii : i < m.entries.length := by have := h15; simp at this; first | exact this | omega | (simp; done) | (simp; omega)
    obtain ⟨ei, hei⟩ : ∃ e, m.entries[i]? = some e := ⟨_, List.getElem?_eq_getElem hii⟩
    have hdi := drop_get hei
    refine CW.skip ?_
    refine CW.keep 137 [1,3,47,48,49] rfl ?_;(conv=>whnf);refine ⟨?_⟩
    refine CW.seq ?_
    refine CW.block ?_
    refine CW.seq ?_
    refine CW.region ?_
    refine RW.v rfl (V.indexS rfl rfl rfl rfl rfl rfl Entry.len hei) ?_
    refine RW.k XK 137 3 rfl ?_
    (conv=>whnf);intro b16;(conv=>whnf);refine ⟨rfl,?_⟩
    refine RW.freezeB (ts := (Entry.c ei)) 5 rfl (DRd.r (DRd.r (DRd.r DRd.e))) ?_
    refine RW.nil ?_
    refine CW.keep 137 [1,3,5,47,48,49] rfl ?_;(conv=>whnf);refine ⟨?_⟩
    refine CW.seq ?_
    refine CW.seqJ 137 (fun (v17 : Bool) => [(1, .rp (Message.c m)), (5, .rp (Entry.c ei)), (47, .r (sl 3 Entry.c m.entries)), (48, I (m.entries.length : Int)), (49, I (i : Int)), (68, Bo v17)]) (fun v17 => v17 = (((!(entOk ei)) || decide (ei.term_ < u)) || decide (ei.term_ > m.term_))) ?_ ?_
    ·refine CW.region ?_
     refine RW.k XK 137 1 rfl ?_
     (conv=>whnf);refine ⟨rfl,?_⟩
     refine RW.call rfl (impl_EntryOk_fn ei (hok.1.2 ei (List.mem_of_getElem? hei))) rfl (.cons (.agg (.cons (.r .r) (.cons (.r .r) (.cons (.r .r) (.nil))))) (.nil)) fun g18 => ?_
     refine RW.k XK 137 2 rfl ?_
     (conv=>whnf);refine ⟨rfl,?_⟩
     refine RW.gv rfl rfl rfl rfl (fun h19 => V.fieldR rfl rfl rfl rfl (by decide) rfl (Nat.le_of_ble_eq_true rfl)) (fun h19 => ?_) (fun h19 => ?_)
     ·skip
      refine RW.k XK 137 5 rfl ?_
      (conv=>whnf);refine ⟨rfl,?_⟩
      refine RW.gv rfl rfl rfl rfl (fun h20 => V.fieldR rfl rfl rfl rfl (by decide) rfl (Nat.le_of_ble_eq_true rfl)) (fun h20 => ?_) (fun h20 => ?_)
      ·skip
       refine RW.k XK 137 5 rfl ?_
       (conv=>whnf);refine ⟨rfl,?_⟩
       refine RW.nil ?_
       exact ⟨_, by first | rfl | (simp_all; done) | (simp_all; omega) | grind, rfl, Le.of rfl⟩
      ·skip
       refine RW.k XK 137 5 rfl ?_
       (conv=>whnf);refine ⟨rfl,?_⟩
       refine RW.nil ?_
       exact ⟨_, by first | rfl | (simp_all; done) | (simp_all; omega) | grind, rfl, Le.of rfl⟩
     ·skip
      refine RW.k XK 137 11 rfl ?_
      (conv=>whnf);refine ⟨rfl,?_⟩
      refine RW.nil ?_
      exact ⟨_, by first | rfl | (simp_all; done) | (simp_all; omega) | grind, rfl, Le.of rfl⟩
    ·intro v17 hv21
     refine CW.cond rfl (fun h22 => ?_) (fun h22 => ?_)
     ·skip
      have hww := hv21.symm.trans h22
      have htm : msgTerms m.term_ m.logTerm m.entries = false := by rw [← hr, takeT hei, if_pos hww]
      refine CW.k XK 137 1 [2] rfl ?_
      (conv=>whnf);refine ⟨rfl,?_⟩
      refine CW.ret ?_
      exact Post.one (RV.b rfl (by exact (mokT htm).symm)) (AOs.a rfl AOs.e)
     ·skip
      have hww := hv21.symm.trans h22
      refine CW.skip ?_
      refine CW.keep 137 [1,5,47,48,49] rfl ?_;(conv=>whnf);refine ⟨?_⟩
      refine CW.region ?_
      refine RW.k XK 137 3 rfl ?_
      (conv=>whnf);refine ⟨rfl,?_⟩
      refine RW.nil ?_
      refine CW.keep 137 [1,3,47,48,49] rfl ?_;(conv=>whnf);refine ⟨?_⟩
      refine CW.region ?_
      refine RW.v rfl (V.inc rfl rfl rfl hii hl1) ?_
      refine RW.k XK 137 1 rfl ?_
      (conv=>whnf);refine ⟨rfl,?_⟩
      refine RW.nil ?_
      exact ⟨(i + 1, ei.term_), by simp only []; omega, ⟨by omega, by rw [← hr, takeT hei, if_neg (by rw [hww]; simp)]⟩, rfl, Le.c rfl <| Le.c rfl <| Le.c rfl <| Le.c rfl <| Le.c rfl <| Le.e⟩
   ·skip
    have hii : m.entries.length ≤ i := by have := h15; simp at this; first | exact this | omega | (simp; done) | (simp; omega)
    have hdi : m.entries.drop i = [] := List.drop_eq_nil_of_le hii
    refine CW.exit ?_
    refine CW.keep 137 [1] rfl ?_;(conv=>whnf);refine ⟨?_⟩
    refine CW.seqJ 137 (fun (v23 : Bool) => [(1, .rp (Message.c m)), (6, Bo v23)]) (fun v23 => v23 = (((m.kind == 5) && (confOk m.conf)) && decide ((m.data.size : Int) ≤ 60))) ?_ ?_
    ·refine CW.region ?_
     refine RW.k XK 137 4 rfl ?_
     (conv=>whnf);refine ⟨rfl,?_⟩
     refine RW.gv rfl rfl rfl rfl (fun h24 => V.fieldR rfl rfl rfl rfl (by decide) rfl (Nat.le_of_ble_eq_true rfl)) (fun h24 => ?_) (fun h24 => ?_)
     ·skip
      refine RW.k XK 137 1 rfl ?_
      (conv=>whnf);refine ⟨rfl,?_⟩
      refine RW.gcall rfl rfl rfl rfl (impl_ConfOk_fn m.conf) rfl (.cons (.one (.r .r)) (.nil)) fun g25 => ?_
      refine RW.k XK 137 2 rfl ?_
      (conv=>whnf);refine ⟨rfl,?_⟩
      refine RW.gv rfl rfl rfl rfl (fun h26 => V.fieldR rfl rfl rfl rfl (by decide) rfl (Nat.le_of_ble_eq_true rfl)) (fun h26 => ?_) (fun h26 => ?_)
      ·skip
       refine RW.k XK 137 5 rfl ?_
       (conv=>whnf);refine ⟨rfl,?_⟩
       refine RW.nil ?_
       exact ⟨_, by first | rfl | (simp_all; done) | (simp_all; omega) | grind, rfl, Le.of rfl⟩
      ·skip
       refine RW.k XK 137 5 rfl ?_
       (conv=>whnf);refine ⟨rfl,?_⟩
       refine RW.nil ?_
       exact ⟨_, by first | rfl | (simp_all; done) | (simp_all; omega) | grind, rfl, Le.of rfl⟩
     ·skip
      refine RW.k XK 137 10 rfl ?_
      (conv=>whnf);refine ⟨rfl,?_⟩
      refine RW.nil ?_
      exact ⟨_, by first | rfl | (simp_all; done) | (simp_all; omega) | grind, rfl, Le.of rfl⟩
    ·intro v23 hv27
     refine CW.seqJ 137 (fun (v28 : Bool) => [(1, .rp (Message.c m)), (6, Bo v23), (7, Bo v28)]) (fun v28 => v28 = ((((m.kind != 5) && ((m.conf.length : Int) == 0)) && (m.data.toList == (⟨#[]⟩ : ByteArray).toList)) && (!m.last))) ?_ ?_
     ·refine CW.region ?_
      refine RW.k XK 137 4 rfl ?_
      (conv=>whnf);refine ⟨rfl,?_⟩
      refine RW.gv rfl rfl rfl rfl (fun h29 => V.fieldR rfl rfl rfl rfl (by decide) rfl (Nat.le_of_ble_eq_true rfl)) (fun h29 => ?_) (fun h29 => ?_)
      ·skip
       refine RW.k XK 137 5 rfl ?_
       (conv=>whnf);refine ⟨rfl,?_⟩
       refine RW.gv rfl rfl rfl rfl (fun h30 => V.fieldR rfl rfl rfl rfl (by decide) rfl (Nat.le_of_ble_eq_true rfl)) (fun h30 => ?_) (fun h30 => ?_)
       ·skip
        refine RW.k XK 137 4 rfl ?_
        (conv=>whnf);refine ⟨rfl,?_⟩
        refine RW.gv rfl rfl rfl rfl (fun h31 => V.fieldR rfl rfl rfl rfl (by decide) rfl (Nat.le_of_ble_eq_true rfl)) (fun h31 => ?_) (fun h31 => ?_)
        ·skip
         refine RW.k XK 137 4 rfl ?_
         (conv=>whnf);refine ⟨rfl,?_⟩
         refine RW.nil ?_
         exact ⟨_, by first | rfl | (simp_all; done) | (simp_all; omega) | grind, rfl, Le.of rfl⟩
        ·skip
         refine RW.k XK 137 4 rfl ?_
         (conv=>whnf);refine ⟨rfl,?_⟩
         refine RW.nil ?_
         exact ⟨_, by first | rfl | (simp_all; done) | (simp_all; omega) | grind, rfl, Le.of rfl⟩
       ·skip
        refine RW.k XK 137 9 rfl ?_
        (conv=>whnf);refine ⟨rfl,?_⟩
        refine RW.nil ?_
        exact ⟨_, by first | rfl | (simp_all; done) | (simp_all; omega) | grind, rfl, Le.of rfl⟩
      ·skip
       refine RW.k XK 137 15 rfl ?_
       (conv=>whnf);refine ⟨rfl,?_⟩
       refine RW.nil ?_
       exact ⟨_, by first | rfl | (simp_all; done) | (simp_all; omega) | grind, rfl, Le.of rfl⟩
     ·intro v28 hv32
      refine CW.seqJ 137 (fun (v33 : Bool) => [(1, .rp (Message.c m)), (6, Bo v23), (7, Bo v28), (8, Bo v33)]) (fun v33 => v33 = (((m.entries.length : Int) == 0) || ((m.kind == 3) && decide ((m.entries.length : Int) ≤ 4)))) ?_ ?_
      ·refine CW.region ?_
       refine RW.k XK 137 5 rfl ?_
       (conv=>whnf);refine ⟨rfl,?_⟩
       refine RW.gv rfl rfl rfl rfl (fun h34 => V.fieldR rfl rfl rfl rfl (by decide) rfl (Nat.le_of_ble_eq_true rfl)) (fun h34 => ?_) (fun h34 => ?_)
       ·skip
        refine RW.k XK 137 3 rfl ?_
        (conv=>whnf);refine ⟨rfl,?_⟩
        refine RW.gv rfl rfl rfl rfl (fun h35 => V.fieldR rfl rfl rfl rfl (by decide) rfl (Nat.le_of_ble_eq_true rfl)) (fun h35 => ?_) (fun h35 => ?_)
        ·skip
         refine RW.k XK 137 6 rfl ?_
         (conv=>whnf);refine ⟨rfl,?_⟩
         refine RW.nil ?_
         exact ⟨_, by first | rfl | (simp_all; done) | (simp_all; omega) | grind, rfl, Le.of rfl⟩
        ·skip
         refine RW.k XK 137 6 rfl ?_
         (conv=>whnf);refine ⟨rfl,?_⟩
         refine RW.nil ?_
         exact ⟨_, by first | rfl | (simp_all; done) | (simp_all; omega) | grind, rfl, Le.of rfl⟩
       ·skip
        refine RW.k XK 137 10 rfl ?_
        (conv=>whnf);refine ⟨rfl,?_⟩
        refine RW.nil ?_
        exact ⟨_, by first | rfl | (simp_all; done) | (simp_all; omega) | grind, rfl, Le.of rfl⟩
      ·intro v33 hv36
       refine CW.seqJ 137 (fun (v37 : Bool) => [(2, Bo v37)]) (fun v37 => v37 = ((((inR m.index 0 1000000) && (inR m.commit 0 1000000)) && v33) && (v23 || v28))) ?_ ?_
       ·refine CW.region ?_
        refine RW.k XK 137 2 rfl ?_
        (conv=>whnf);refine ⟨rfl,?_⟩
        refine RW.call rfl (impl_isIndex_fn m.index) rfl (.cons (.one (.r .r)) (.nil)) fun g38 => ?_
        refine RW.k XK 137 1 rfl ?_
        (conv=>whnf);refine ⟨rfl,?_⟩
        refine RW.gv rfl rfl rfl rfl (fun h39 => V.fieldR rfl rfl rfl rfl (by decide) rfl (Nat.le_of_ble_eq_true rfl)) (fun h39 => ?_) (fun h39 => ?_)
        ·skip
         refine RW.k XK 137 1 rfl ?_
         (conv=>whnf);refine ⟨rfl,?_⟩
         refine RW.gcall rfl rfl rfl rfl (impl_isIndex_fn m.commit) rfl (.cons (.one (.r .r)) (.nil)) fun g40 => ?_
         refine RW.k XK 137 2 rfl ?_
         (conv=>whnf);refine ⟨rfl,?_⟩
         refine RW.gv rfl rfl rfl rfl (fun h41 => V.mv (d := Bo v33) rfl rfl) (fun h41 => ?_) (fun h41 => ?_)
         ·skip
          refine RW.k XK 137 2 rfl ?_
          (conv=>whnf);refine ⟨rfl,?_⟩
          refine RW.gv rfl rfl rfl rfl (fun h42 => V.mv (d := Bo v23) rfl rfl) (fun h42 => ?_) (fun h42 => ?_)
          ·skip
           refine RW.k XK 137 1 rfl ?_
           (conv=>whnf);refine ⟨rfl,?_⟩
           refine RW.gv rfl rfl rfl rfl (fun h43 => V.mv (d := Bo v28) rfl rfl) (fun h43 => ?_) (fun h43 => ?_)
           ·skip
            refine RW.k XK 137 3 rfl ?_
            (conv=>whnf);refine ⟨rfl,?_⟩
            refine RW.nil ?_
            exact ⟨_, by first | rfl | (simp_all; done) | (simp_all; omega) | grind, rfl, Le.of rfl⟩
           ·skip
            refine RW.k XK 137 3 rfl ?_
            (conv=>whnf);refine ⟨rfl,?_⟩
            refine RW.nil ?_
            exact ⟨_, by first | rfl | (simp_all; done) | (simp_all; omega) | grind, rfl, Le.of rfl⟩
          ·skip
           refine RW.k XK 137 5 rfl ?_
           (conv=>whnf);refine ⟨rfl,?_⟩
           refine RW.nil ?_
           exact ⟨_, by first | rfl | (simp_all; done) | (simp_all; omega) | grind, rfl, Le.of rfl⟩
         ·skip
          refine RW.k XK 137 8 rfl ?_
          (conv=>whnf);refine ⟨rfl,?_⟩
          refine RW.nil ?_
          exact ⟨_, by first | rfl | (simp_all; done) | (simp_all; omega) | grind, rfl, Le.of rfl⟩
        ·skip
         refine RW.k XK 137 13 rfl ?_
         (conv=>whnf);refine ⟨rfl,?_⟩
         refine RW.nil ?_
         exact ⟨_, by first | rfl | (simp_all; done) | (simp_all; omega) | grind, rfl, Le.of rfl⟩
       ·intro v37 hv44
        refine CW.ret ?_
        exact Post.one (RV.b rfl (by rw [hv44, show v33 = miE m from hv36, show v23 = miI m from hv27, show v28 = miN m from hv32]; exact mokI hq1 (by rw [← hr, List.drop_of_length_le hii] <;> rfl))) (AOs.a rfl AOs.e)
end Go.Proofs.Ytmhnehgpmndiiaa.Y
