import Derived.Test.YtmhnehgpmndiiaaGreatDoorWSnapOfA
namespace Go.Proofs.YtmhnehgpmndiiaaGreatDoor.Y
open Go Go.RowKit Go.Eng Go.Proofs
set_option maxRecDepth 10000
set_option maxHeartbeats 4000000 in
theorem spec_l05Var_fn (c : l05Cur) (hs : c.sc.ok) : Eng.Fn E.P 148 [.ob ((l05Cur.c c).map .r)] (.one (.one (.w (.v (.int .i64 (numW c)))))) [.ob ((l05Cur.c (numC c)).map .r)] := by
 refine Eng.Fn.intro (E := E) (rvs := [.tmp 2]) Tryz.func148 rfl rfl rfl (by simp [outSlots, moved, rvSlot, sl]) ?_
 intro B g bo
 refine CW.keep 35 [0] rfl ?_;(conv=>whnf);refine ⟨?_⟩
 refine CW.k XK 35 1 [0] rfl ?_
 (conv=>whnf);refine ⟨rfl,?_⟩
 refine CW.anyJ2 (fc := [(0, (bo 0), [.string c.text, .int .i64 c.at_, .bool c.bad])]) (L0 := [(0, .obj (bo 0) ((l05Cur.c c).map .r))]) 35 (fun (go1_8_1 : (Nat → Nat → Value)) => [(3, I ((rdVar c.text c.at_).1)), (4, I ((rdVar c.text c.at_).2.1)), (5, Bo ((rdVar c.text c.at_).2.2))]) (fun all hall f hf b0 hb K hK => ?_) ?_
 ·skip
  have ro1_9 : ∀ B, ∀ (go1_8_1 : Nat → Nat → Value), RA f E B all 0 (bt 16 65535) ⟨35, [(3, I ((rdVar c.text c.at_).1)), (4, I ((rdVar c.text c.at_).2.1)), (5, Bo ((rdVar c.text c.at_).2.2))] ++ b0⟩ K := by
   intro B go1_8_1
   exact RA.of2 hall hf hb (RA.finH (Tell.of rfl) (by kernel_rfl) (hK go1_8_1 _ rfl (Le.of rfl)))
  have ro1_8 : ∀ B, ∀ (go1_8_1 : Nat → Nat → Value), RA f E B all 2 (bt 16 28671) ⟨35, [(3, I ((rdVar c.text c.at_).1)), (4, I ((rdVar c.text c.at_).2.1)), (6, .tup [.u, .u, Bo ((rdVar c.text c.at_).2.2)])] ++ b0⟩ K := by
   intro B go1_8_1
   refine RA.of2 hall hf hb (RA.stepH (L := [12]) (Tell.of rfl) (by kernel_rfl) (by simp) (RA.each ?_ (RA.each0)))
   ·skip
    refine RO.extract (d := Bo ((rdVar c.text c.at_).2.2)) rfl rfl rfl rfl rfl (by decide) (Nat.le_of_ble_eq_true rfl) rfl rfl ?_
    refine RA.fr XK 35 0 [15] (bt 16 65535) rfl rfl (by kernel_rfl) (Tell.of rfl) ?_
    (conv=>whnf);refine ⟨rfl,fun B=>?_⟩
    exact RA.to2 hall hf hb (ro1_9 B go1_8_1) rfl rfl (by kernel_rfl)
  have ro1_7 : ∀ B, ∀ (go1_8_1 : Nat → Nat → Value), RA f E B all 3 (bt 16 14335) ⟨35, [(3, I ((rdVar c.text c.at_).1)), (6, .tup [.u, I ((rdVar c.text c.at_).2.1), .u]), (18, Bo ((rdVar c.text c.at_).2.2))] ++ b0⟩ K := by
   intro B go1_8_1
   refine RA.of2 hall hf hb (RA.stepH (L := [11]) (Tell.of rfl) (by kernel_rfl) (by simp) (RA.each ?_ (RA.each0)))
   ·skip
    refine RO.extract (d := I ((rdVar c.text c.at_).2.1)) rfl rfl rfl rfl rfl (by decide) (Nat.le_of_ble_eq_true rfl) rfl rfl ?_
    refine RA.fr XK 35 0 [14,15] (bt 16 65535) rfl rfl (by kernel_rfl) (Tell.of rfl) ?_
    (conv=>whnf);refine ⟨rfl,fun B=>?_⟩
    exact RA.to2 hall hf hb (ro1_9 B go1_8_1) rfl rfl (by kernel_rfl)
  have ro1_6 : ∀ B, ∀ (go1_8_1 : Nat → Nat → Value), RA f E B all 4 (bt 16 7167) ⟨35, [(6, .tup [I ((rdVar c.text c.at_).1), .u, .u]), (17, I ((rdVar c.text c.at_).2.1)), (18, Bo ((rdVar c.text c.at_).2.2))] ++ b0⟩ K := by
   intro B go1_8_1
   refine RA.of2 hall hf hb (RA.stepH (L := [10]) (Tell.of rfl) (by kernel_rfl) (by simp) (RA.each ?_ (RA.each0)))
   ·skip
    refine RO.extract (d := I ((rdVar c.text c.at_).1)) rfl rfl rfl rfl rfl (by decide) (Nat.le_of_ble_eq_true rfl) rfl rfl ?_
    refine RA.fr XK 35 0 [13,14,15] (bt 16 65535) rfl rfl (by kernel_rfl) (Tell.of rfl) ?_
    (conv=>whnf);refine ⟨rfl,fun B=>?_⟩
    exact RA.to2 hall hf hb (ro1_9 B go1_8_1) rfl rfl (by kernel_rfl)
  have ro1_5 : ∀ B, ∀ (go1_8_1 : Nat → Nat → Value), RA f E B all 4 (bt 16 10239) ⟨35, [(3, I ((rdVar c.text c.at_).1)), (6, .tup [.u, I ((rdVar c.text c.at_).2.1), Bo ((rdVar c.text c.at_).2.2)])] ++ b0⟩ K := by
   intro B go1_8_1
   refine RA.of2 hall hf hb (RA.stepH (L := [11, 12]) (Tell.of rfl) (by kernel_rfl) (by simp) (RA.each ?_ (RA.each ?_ (RA.each0))))
   ·skip
    refine RO.extract (d := I ((rdVar c.text c.at_).2.1)) rfl rfl rfl rfl rfl (by decide) (Nat.le_of_ble_eq_true rfl) rfl rfl ?_
    refine RA.fr XK 35 2 [14] (bt 16 28671) rfl rfl (by kernel_rfl) (Tell.of rfl) ?_
    (conv=>whnf);refine ⟨rfl,fun B=>?_⟩
    exact RA.to2 hall hf hb (ro1_8 B go1_8_1) rfl rfl (by kernel_rfl)
   ·skip
    refine RO.extract (d := Bo ((rdVar c.text c.at_).2.2)) rfl rfl rfl rfl rfl (by decide) (Nat.le_of_ble_eq_true rfl) rfl rfl ?_
    exact RA.to2 hall hf hb (ro1_7 B go1_8_1) rfl rfl (by kernel_rfl)
  have ro1_4 : ∀ B, ∀ (go1_8_1 : Nat → Nat → Value), RA f E B all 5 (bt 16 5119) ⟨35, [(6, .tup [I ((rdVar c.text c.at_).1), I ((rdVar c.text c.at_).2.1), .u]), (18, Bo ((rdVar c.text c.at_).2.2))] ++ b0⟩ K := by
   intro B go1_8_1
   refine RA.of2 hall hf hb (RA.stepH (L := [10, 11]) (Tell.of rfl) (by kernel_rfl) (by simp) (RA.each ?_ (RA.each ?_ (RA.each0))))
   ·skip
    refine RO.extract (d := I ((rdVar c.text c.at_).1)) rfl rfl rfl rfl rfl (by decide) (Nat.le_of_ble_eq_true rfl) rfl rfl ?_
    refine RA.fr XK 35 3 [13] (bt 16 14335) rfl rfl (by kernel_rfl) (Tell.of rfl) ?_
    (conv=>whnf);refine ⟨rfl,fun B=>?_⟩
    exact RA.to2 hall hf hb (ro1_7 B go1_8_1) rfl rfl (by kernel_rfl)
   ·skip
    refine RO.extract (d := I ((rdVar c.text c.at_).2.1)) rfl rfl rfl rfl rfl (by decide) (Nat.le_of_ble_eq_true rfl) rfl rfl ?_
    exact RA.to2 hall hf hb (ro1_6 B go1_8_1) rfl rfl (by kernel_rfl)
  have ro1_3 : ∀ B, ∀ (go1_8_1 : Nat → Nat → Value), RA f E B all 5 (bt 16 3071) ⟨35, [(6, .tup [I ((rdVar c.text c.at_).1), .u, Bo ((rdVar c.text c.at_).2.2)]), (17, I ((rdVar c.text c.at_).2.1))] ++ b0⟩ K := by
   intro B go1_8_1
   refine RA.of2 hall hf hb (RA.stepH (L := [10, 12]) (Tell.of rfl) (by kernel_rfl) (by simp) (RA.each ?_ (RA.each ?_ (RA.each0))))
   ·skip
    refine RO.extract (d := I ((rdVar c.text c.at_).1)) rfl rfl rfl rfl rfl (by decide) (Nat.le_of_ble_eq_true rfl) rfl rfl ?_
    refine RA.fr XK 35 2 [13,14] (bt 16 28671) rfl rfl (by kernel_rfl) (Tell.of rfl) ?_
    (conv=>whnf);refine ⟨rfl,fun B=>?_⟩
    exact RA.to2 hall hf hb (ro1_8 B go1_8_1) rfl rfl (by kernel_rfl)
   ·skip
    refine RO.extract (d := Bo ((rdVar c.text c.at_).2.2)) rfl rfl rfl rfl rfl (by decide) (Nat.le_of_ble_eq_true rfl) rfl rfl ?_
    exact RA.to2 hall hf hb (ro1_6 B go1_8_1) rfl rfl (by kernel_rfl)
  have ro1_2 : ∀ B, ∀ (go1_8_1 : Nat → Nat → Value), RA f E B all 6 (bt 16 1023) ⟨35, [(6, .tup [I ((rdVar c.text c.at_).1), I ((rdVar c.text c.at_).2.1), Bo ((rdVar c.text c.at_).2.2)])] ++ b0⟩ K := by
   intro B go1_8_1
   refine RA.of2 hall hf hb (RA.stepH (L := [10, 11, 12]) (Tell.of rfl) (by kernel_rfl) (by simp) (RA.each ?_ (RA.each ?_ (RA.each ?_ (RA.each0)))))
   ·skip
    refine RO.extract (d := I ((rdVar c.text c.at_).1)) rfl rfl rfl rfl rfl (by decide) (Nat.le_of_ble_eq_true rfl) rfl rfl ?_
    refine RA.fr XK 35 4 [13] (bt 16 10239) rfl rfl (by kernel_rfl) (Tell.of rfl) ?_
    (conv=>whnf);refine ⟨rfl,fun B=>?_⟩
    exact RA.to2 hall hf hb (ro1_5 B go1_8_1) rfl rfl (by kernel_rfl)
   ·skip
    refine RO.extract (d := I ((rdVar c.text c.at_).2.1)) rfl rfl rfl rfl rfl (by decide) (Nat.le_of_ble_eq_true rfl) rfl rfl ?_
    exact RA.to2 hall hf hb (ro1_3 B go1_8_1) rfl rfl (by kernel_rfl)
   ·skip
    refine RO.extract (d := Bo ((rdVar c.text c.at_).2.2)) rfl rfl rfl rfl rfl (by decide) (Nat.le_of_ble_eq_true rfl) rfl rfl ?_
    exact RA.to2 hall hf hb (ro1_4 B go1_8_1) rfl rfl (by kernel_rfl)
  have ro1_1 : ∀ B, ∀ (go1_8_1 : Nat → Nat → Value), RA f E B all 7 (bt 16 511) ⟨35, [(15, .tup [I ((rdVar c.text c.at_).1), I ((rdVar c.text c.at_).2.1), Bo ((rdVar c.text c.at_).2.2)])] ++ b0⟩ K := by
   intro B go1_8_1
   refine RA.of2 hall hf hb (RA.stepH (L := [9]) (Tell.of rfl) (by kernel_rfl) (by simp) (RA.each ?_ (RA.each0)))
   ·skip
    refine RO.moveMove rfl rfl rfl rfl rfl (by decide) (Nat.le_of_ble_eq_true rfl) (Nat.le_of_ble_eq_true rfl) ?_
    exact RA.to2 hall hf hb (ro1_2 B go1_8_1) rfl rfl (by kernel_rfl)
  have ro1_0 : ∀ B, RA f E B all 8 (bt 16 255) ⟨35, [(10, S c.text), (14, I c.at_)] ++ b0⟩ K := by
   intro B
   refine RA.of2 hall hf hb (RA.stepH (L := [8]) (Tell.of rfl) (by kernel_rfl) (by simp) (RA.each ?_ (RA.each0)))
   ·skip
    refine RO.call rfl rfl (spec_ReadVar_fn c.text c.at_ hs.2.2) rfl (.cons (.one (.r .r)) (.cons (.one (.r .r)) (.nil))) rfl fun go1_8_1 => ?_
    exact RA.to2 hall hf hb (ro1_1 B go1_8_1) rfl rfl (by kernel_rfl)
  refine RA.start (by kernel_rfl) (by kernel_rfl) (m := 16) (ls' := (bt 16 0)) ?_
  refine RA.fr XK 35 8 [0,1,2,3,4,5,6,7] (bt 16 255) rfl rfl (by kernel_rfl) (Tell.of rfl) ?_
  (conv=>whnf);refine ⟨rfl,fun B=>?_⟩
  exact RA.to2 hall hf hb (ro1_0 B) rfl rfl (by kernel_rfl)
 ·rintro go1_8_1
  refine CW.seq ?_
  refine CW.seqJ 35 (fun (v2 : Bool) => [(0, .obj (bo 0) ((l05Cur.c c).map .r)), (3, I ((rdVar c.text c.at_).1)), (4, I ((rdVar c.text c.at_).2.1)), (26, Bo v2)]) (fun v2 => v2 = (c.bad || (!((rdVar c.text c.at_).2.2)))) ?_ ?_
  ·refine CW.region ?_
   refine RW.k XK 35 5 rfl ?_
   (conv=>whnf);refine ⟨rfl,?_⟩
   refine RW.gv rfl rfl rfl rfl (fun h3 => V.mv (d := Bo ((rdVar c.text c.at_).2.2)) rfl rfl) (fun h3 => ?_) (fun h3 => ?_)
   ·skip
    refine RW.k XK 35 2 rfl ?_
    (conv=>whnf);refine ⟨rfl,?_⟩
    refine RW.nil ?_
    exact ⟨_, by first | rfl | (simp_all; done) | (simp_all; omega) | grind, rfl, Le.of rfl⟩
   ·skip
    refine RW.k XK 35 2 rfl ?_
    (conv=>whnf);refine ⟨rfl,?_⟩
    refine RW.nil ?_
    exact ⟨_, by first | rfl | (simp_all; done) | (simp_all; omega) | grind, rfl, Le.of rfl⟩
  ·intro v2 hv4
   refine CW.cond rfl (fun h5 => ?_) (fun h5 => ?_)
   ·skip
    have hvv := hv4.symm.trans h5
    refine CW.k XK 35 2 [0,2] rfl ?_
    (conv=>whnf);refine ⟨rfl,?_⟩
    refine CW.ret ?_
    exact Post.one (RV.i rfl (by simp only [numW, numV, numS, l05Cur.sc]; rw [scNum, if_pos hvv])) (AOs.obE (f := fun e => (l05Cur.c e).map .r) (e' := (⟨c.text, c.at_, true⟩ : l05Cur)) rfl (DT.r (DT.r (DT.r DT.e))) (by simp only [numC, numV, numS, l05Cur.sc]; rw [scNum, if_pos hvv]) AOs.e)
   ·skip
    have hvv := hv4.symm.trans h5
    refine CW.skip ?_
    refine CW.keep 35 [0,3,4] rfl ?_;(conv=>whnf);refine ⟨?_⟩
    refine CW.k XK 35 2 [0,2] rfl ?_
    (conv=>whnf);refine ⟨rfl,?_⟩
    refine CW.ret ?_
    exact Post.one (RV.i rfl (by simp only [numW, numV, numS, l05Cur.sc]; rw [scNum, if_neg (by rw [hvv]; simp)])) (AOs.obE (f := fun e => (l05Cur.c e).map .r) (e' := (⟨c.text, ((rdVar c.text c.at_).2.1), c.bad⟩ : l05Cur)) rfl (DT.r (DT.r (DT.r DT.e))) (by simp only [numC, numV, numS, l05Cur.sc]; rw [scNum, if_neg (by rw [hvv]; simp), (Bool.or_eq_false_iff.1 hvv).1]) AOs.e)
set_option maxHeartbeats 4000000 in
theorem spec_l05Take_fn (c : l05Cur) (n : Int) (hc : c.sc.ok) (hn : 0 ≤ n) : Eng.Fn E.P 201 [.ob ((l05Cur.c c).map .r), .one (.r (.v (.int .i64 n)))] (.one (.one (.w (.v (.string (tkW c n)))))) [.ob ((l05Cur.c (tkC c n)).map .r), .one (.r (.v (.int .i64 n)))] := by
 refine Eng.Fn.intro (E := E) (rvs := [.tmp 4]) Tryz.func201 rfl rfl rfl (by simp [outSlots, moved, rvSlot, sl]) ?_
 intro B g bo
 refine CW.keep 50 [0,1] rfl ?_;(conv=>whnf);refine ⟨?_⟩
 refine CW.k XK 50 1 [0,1] rfl ?_
 (conv=>whnf);refine ⟨rfl,?_⟩
 refine CW.seq ?_
 refine CW.seqJ 50 (fun (v1 : Bool) => [(0, .obj (bo 0) ((l05Cur.c c).map .r)), (1, I n), (22, Bo v1)]) (fun v1 => v1 = (c.bad || decide (n > (IntKind.i64.wrap ((c.text.size : Int) - c.at_))))) ?_ ?_
 ·refine CW.drawn (by kernel_rfl) ?_
  refine RQ.k XK 50 5 rfl ?_
  (conv=>whnf);refine ⟨rfl,?_⟩
  refine RQ.gv rfl rfl rfl rfl (fun h2 => V.mv (d := I n) rfl rfl) (fun h2 => ?_) (fun h2 => ?_)
  ·skip
   refine RQ.k XK 50 12 rfl ?_
   (conv=>whnf);refine ⟨rfl,?_⟩
   refine RQ.nil ?_
   exact ⟨_, by first | rfl | (simp_all; done) | (simp_all; omega) | grind, rfl, Le.of rfl⟩
  ·skip
   refine RQ.k XK 50 12 rfl ?_
   (conv=>whnf);refine ⟨rfl,?_⟩
   refine RQ.nil ?_
   exact ⟨_, by first | rfl | (simp_all; done) | (simp_all; omega) | grind, rfl, Le.of rfl⟩
 ·intro v1 hv3
  refine CW.cond rfl (fun h4 => ?_) (fun h4 => ?_)
  ·skip
   have hvv := (tkB_w (s := c.sc) hc).symm.trans (hv3.symm.trans h4)
   refine CW.k XK 50 2 [0,4] rfl ?_
   (conv=>whnf);refine ⟨rfl,?_⟩
   refine CW.ret ?_
   exact Post.one (RV.s rfl (by simp only [tkW]; rw [tkV, if_pos hvv])) (AOs.obE (f := fun e => (l05Cur.c e).map .r) (e' := (⟨c.text, c.at_, true⟩ : l05Cur)) rfl (DT.r (DT.r (DT.r DT.e))) (by simp only [tkC]; rw [tkS, if_pos hvv] <;> rfl) (AOs.r AOs.e))
  ·skip
   have hvv := (tkB_w (s := c.sc) hc).symm.trans (hv3.symm.trans h4)
   have hin := tk_in hc hn hvv
   refine CW.skip ?_
   refine CW.keep 50 [0,1] rfl ?_;(conv=>whnf);refine ⟨?_⟩
   refine CW.k XK 50 1 [0,1] rfl ?_
   (conv=>whnf);refine ⟨rfl,?_⟩
   refine CW.seq ?_
   refine CW.drawn (by kernel_rfl) ?_
   refine RQ.k XK 50 14 rfl ?_
   (conv=>whnf);refine ⟨rfl,?_⟩
   refine RQ.v rfl (V.strSlice (l := (IntKind.i64.wrap ((IntKind.i64.wrap (c.at_ + n)) - n))) (h := (IntKind.i64.wrap (c.at_ + n))) rfl (by kernel_rfl) rfl (.inr ⟨_, _, rfl, rfl⟩) (.inr ⟨_, _, rfl, rfl⟩) (tk_sl hc hn hvv)) ?_
   refine RQ.k XK 50 1 rfl ?_
   (conv=>whnf);refine ⟨rfl,?_⟩
   refine RQ.nil ?_
   refine CW.keep 50 [0,4] rfl ?_;(conv=>whnf);refine ⟨?_⟩
   refine CW.ret ?_
   exact Post.one (RV.s rfl (by exact tkW_go hc hn hvv)) (AOs.obE (f := fun e => (l05Cur.c e).map .r) (e' := (⟨c.text, (IntKind.i64.wrap (c.at_ + n)), c.bad⟩ : l05Cur)) rfl (DT.r (DT.r (DT.r DT.e))) (by exact tkC_go hc hn hvv) (AOs.r AOs.e))
set_option maxHeartbeats 4000000 in
theorem spec_l05ReadShort_fn (c : l05Cur) (hc : c.sc.ok) : Eng.Fn E.P 150 [.ob ((l05Cur.c c).map .r)] (.one (.one (.w (.v (.string (rshW c)))))) [.ob ((l05Cur.c (rshC c)).map .r)] := by
 refine Eng.Fn.intro (E := E) (rvs := [.tmp 2]) Tryz.func150 rfl rfl rfl (by simp [outSlots, moved, rvSlot, sl]) ?_
 intro B g bo
 refine CW.keep 9 [0] rfl ?_;(conv=>whnf);refine ⟨?_⟩
 refine CW.k XK 9 1 [0] rfl ?_
 (conv=>whnf);refine ⟨rfl,?_⟩
 refine CW.seq ?_
 refine CW.region ?_
 refine RW.k XK 9 1 rfl ?_
 (conv=>whnf);refine ⟨rfl,?_⟩
 refine RW.callP (k := 0) (spec_l05Var_fn c hc) rfl rfl (Nat.le_of_ble_eq_true rfl) (by decide) rfl (DT.r (DT.r (DT.r DT.e))) (AsPs.here rfl (.nil)) fun g1 q2 => ?_
 refine RW.k XK 9 1 rfl ?_
 (conv=>whnf);refine ⟨rfl,?_⟩
 refine RW.nil ?_
 refine CW.keep 9 [0,3] rfl ?_;(conv=>whnf);refine ⟨?_⟩
 refine CW.seq ?_
 refine CW.region ?_
 refine RW.k XK 9 2 rfl ?_
 (conv=>whnf);refine ⟨rfl,?_⟩
 refine RW.callP (k := 0) (spec_l05Take_fn (numC c) (numW c) (numC_ok hc) (numW_pos c)) rfl rfl (Nat.le_of_ble_eq_true rfl) (by decide) rfl (DT.r (DT.r (DT.r DT.e))) (AsPs.here rfl (.cons (.one (.r .r)) (.nil))) fun g3 q4 => ?_
 refine RW.k XK 9 1 rfl ?_
 (conv=>whnf);refine ⟨rfl,?_⟩
 refine RW.nil ?_
 refine CW.keep 9 [0,2] rfl ?_;(conv=>whnf);refine ⟨?_⟩
 refine CW.ret ?_
 exact Post.one (RV.s rfl (by rfl)) (AOs.obE (f := fun e => (l05Cur.c e).map .r) (e' := (tkC (numC c) (numW c))) rfl (DT.r (DT.r (DT.r DT.e))) (by rfl) AOs.e)
set_option maxHeartbeats 4000000 in
theorem impl_isNode_fn (n : Int) : Eng.Fn E.P 127 [.one (.r (.v (.int .i64 n)))] (.one (.one (.w (.v (.bool (inR n 1 4)))))) [.one (.r (.v (.int .i64 n)))] := by
 refine Eng.Fn.intro (E := E) (rvs := [.tmp 2]) Tryz.func127 rfl rfl rfl (by simp [outSlots, moved, rvSlot, sl]) ?_
 intro B g bo
 refine CW.keep 5 [0] rfl ?_;(conv=>whnf);refine ⟨?_⟩
 refine CW.k XK 5 1 [0] rfl ?_
 (conv=>whnf);refine ⟨rfl,?_⟩
 refine CW.seq ?_
 refine CW.region ?_
 refine RW.k XK 5 1 rfl ?_
 (conv=>whnf);refine ⟨rfl,?_⟩
 refine RW.call rfl (impl_within_fn n 1 4) rfl (.cons (.one (.r .r)) (.cons (.one (.r .r)) (.cons (.one (.r .r)) (.nil)))) fun g1 => ?_
 refine RW.k XK 5 1 rfl ?_
 (conv=>whnf);refine ⟨rfl,?_⟩
 refine RW.nil ?_
 refine CW.keep 5 [2] rfl ?_;(conv=>whnf);refine ⟨?_⟩
 refine CW.ret ?_
 exact Post.one (RV.b rfl (by rfl)) (AOs.r AOs.e)
set_option maxHeartbeats 4000000 in
theorem impl_nodesOk_fn (a : List Int) : Eng.Fn E.P 130 [.one (.r (sl 1 cI a))] (.one (.one (.w (.v (.bool (riseOk 1 4 none a)))))) [.one (.r (sl 1 cI a))] := by
 refine Eng.Fn.intro (E := E) (rvs := [.tmp 2]) Tryz.func130 rfl rfl rfl (by simp [outSlots, moved, rvSlot, sl]) ?_
 intro B g bo
 refine CW.bound (x := .tmp 0) (n := a.length) (AsT.r) (fun hl0 => ?_)
 refine CW.keep 29 [0] rfl ?_;(conv=>whnf);refine ⟨?_⟩
 refine CW.k XK 29 1 [0] rfl ?_
 (conv=>whnf);refine ⟨rfl,?_⟩
 refine CW.seq ?_
 refine CW.k XK 29 1 [0,5,6,7] rfl ?_
 (conv=>whnf);refine ⟨rfl,?_⟩
 refine CW.block ?_
 refine CW.loopI 29 (fun (i : Nat) => [(0, .r (sl 1 cI a)), (5, .r (sl 1 cI a)), (6, I (a.length : Int)), (7, I (i : Int))]) (fun (i : Nat) => i ≤ a.length ∧ riseOk 1 4 (prevI a i) (a.drop i) = riseOk 1 4 none a) (fun (i : Nat) => a.length - i) 0 rfl (Le.c rfl <| Le.c rfl <| Le.c rfl <| Le.c rfl <| Le.e) ⟨by omega, by simp [prevI]⟩ ?_
 rintro i ⟨hb, hr⟩
 refine CW.k XK 29 1 [0,5,6,7,8] rfl ?_
 (conv=>whnf);refine ⟨rfl,?_⟩
 refine CW.seq ?_
 refine CW.cond rfl (fun h1 => ?_) (fun h1 => ?_)
 ·skip
  have hii : i < a.length := by have := h1; simp at this; first | exact this | omega | (simp; done) | (simp; omega)
  obtain ⟨ei, hei⟩ : ∃ e, a[i]? = some e := ⟨_, List.getElem?_eq_getElem hii⟩
  have hdi := drop_get hei
  refine CW.skip ?_
  refine CW.keep 29 [0,5,6,7] rfl ?_;(conv=>whnf);refine ⟨?_⟩
  refine CW.seq ?_
  refine CW.block ?_
  refine CW.seq ?_
  refine CW.region ?_
  refine RW.k XK 29 1 rfl ?_
  (conv=>whnf);refine ⟨rfl,?_⟩
  refine RW.v rfl (V.indexS rfl rfl rfl rfl rfl rfl cI.len hei) ?_
  refine RW.k XK 29 3 rfl ?_
  (conv=>whnf);refine ⟨rfl,?_⟩
  refine RW.nil ?_
  refine CW.keep 29 [0,3,4,5,6,7] rfl ?_;(conv=>whnf);refine ⟨?_⟩
  refine CW.seqJ 29 (fun (v2 : Bool) => [(0, .r (sl 1 cI a)), (5, .r (sl 1 cI a)), (6, I (a.length : Int)), (7, I (i : Int)), (27, Bo v2)]) (fun v2 => v2 = ((!(inR ei 1 4)) || (decide ((i : Int) > 0) && decide ((a.getD (i - 1) 0) ≥ ei)))) ?_ ?_
  ·refine CW.region ?_
   refine RW.k XK 29 1 rfl ?_
   (conv=>whnf);refine ⟨rfl,?_⟩
   refine RW.call rfl (impl_isNode_fn ei) rfl (.cons (.one (.r .r)) (.nil)) fun g3 => ?_
   refine RW.k XK 29 2 rfl ?_
   (conv=>whnf);refine ⟨rfl,?_⟩
   refine RW.gv rfl rfl rfl rfl (fun h4 => V.mv (d := I (i : Int)) rfl rfl) (fun h4 => ?_) (fun h4 => ?_)
   ·skip
    refine RW.k XK 29 2 rfl ?_
    (conv=>whnf);refine ⟨rfl,?_⟩
    refine RW.gv rfl rfl rfl rfl (fun h5 => V.mv (d := .r (sl 1 cI a)) rfl rfl) (fun h5 => ?_) (fun h5 => ?_)
    ·skip
     refine RW.k XK 29 1 rfl ?_
     (conv=>whnf);refine ⟨rfl,?_⟩
     refine RW.gt rfl rfl rfl rfl (V.dec (m := i) rfl rfl rfl (by have := h5; simp at this; omega) (by omega)) ?_
     refine RW.gt rfl rfl rfl rfl (V.indexS rfl rfl rfl rfl rfl rfl cI.len (getD_some (l := a) (j := i - 1) (z := 0) (by omega))) ?_
     refine RW.k XK 29 5 rfl ?_
     (conv=>whnf);refine ⟨rfl,?_⟩
     refine RW.nil ?_
     exact ⟨_, by first | rfl | (simp_all; done) | (simp_all; omega) | grind, rfl, Le.of rfl⟩
    ·skip
     refine RW.k XK 29 8 rfl ?_
     (conv=>whnf);refine ⟨rfl,?_⟩
     refine RW.nil ?_
     exact ⟨_, by first | rfl | (simp_all; done) | (simp_all; omega) | grind, rfl, Le.of rfl⟩
   ·skip
    refine RW.k XK 29 11 rfl ?_
    (conv=>whnf);refine ⟨rfl,?_⟩
    refine RW.nil ?_
    exact ⟨_, by first | rfl | (simp_all; done) | (simp_all; omega) | grind, rfl, Le.of rfl⟩
  ·intro v2 hv6
   refine CW.cond rfl (fun h7 => ?_) (fun h7 => ?_)
   ·skip
    refine CW.k XK 29 1 [2] rfl ?_
    (conv=>whnf);refine ⟨rfl,?_⟩
    refine CW.ret ?_
    exact Post.one (RV.b rfl (by rw [← hr, hdi, riseOk_cons]; grind [prevI])) (AOs.r AOs.e)
   ·skip
    refine CW.skip ?_
    refine CW.keep 29 [0,5,6,7] rfl ?_;(conv=>whnf);refine ⟨?_⟩
    refine CW.region ?_
    refine RW.v rfl (V.inc rfl rfl rfl hii hl0) ?_
    refine RW.k XK 29 1 rfl ?_
    (conv=>whnf);refine ⟨rfl,?_⟩
    refine RW.nil ?_
    exact ⟨i + 1, by omega, ⟨by omega, by rw [← hr, hdi, riseOk_cons, prevI_succ hei]; grind [prevI]⟩, rfl, Le.c rfl <| Le.c rfl <| Le.c rfl <| Le.c rfl <| Le.e⟩
 ·skip
  have hii : a.length ≤ i := by have := h1; simp at this; first | exact this | omega | (simp; done) | (simp; omega)
  have hdi : a.drop i = [] := List.drop_eq_nil_of_le hii
  refine CW.exit ?_
  refine CW.keep 29 [] rfl ?_;(conv=>whnf);refine ⟨?_⟩
  refine CW.k XK 29 1 [2] rfl ?_
  (conv=>whnf);refine ⟨rfl,?_⟩
  refine CW.ret ?_
  exact Post.one (RV.b rfl (by rw [← hr, hdi, riseOk_nil])) (AOs.r AOs.e)
set_option maxHeartbeats 4000000 in
theorem spec_l05Rise_fn (a : List Int) (lo : Int) (hi : Int) : Eng.Fn E.P 52 [.one (.r (sl 1 cI a)), .one (.r (.v (.int .i64 lo))), .one (.r (.v (.int .i64 hi)))] (.one (.one (.w (.v (.bool (riseOk lo hi none a)))))) [.one (.r (sl 1 cI a)), .one (.r (.v (.int .i64 lo))), .one (.r (.v (.int .i64 hi)))] := by
 refine Eng.Fn.intro (E := E) (rvs := [.tmp 6]) Tryz.func52 rfl rfl rfl (by simp [outSlots, moved, rvSlot, sl]) ?_
 intro B g bo
 refine CW.bound (x := .tmp 0) (n := a.length) (AsT.r) (fun hl0 => ?_)
 refine CW.keep 38 [0,1,2] rfl ?_;(conv=>whnf);refine ⟨?_⟩
 refine CW.k XK 38 1 [0,1,2] rfl ?_
 (conv=>whnf);refine ⟨rfl,?_⟩
 refine CW.seq ?_
 refine CW.k XK 38 1 [0,1,2,7] rfl ?_
 (conv=>whnf);refine ⟨rfl,?_⟩
 refine CW.block ?_
 refine CW.loopI 38 (fun (i : Nat) => [(0, .r (sl 1 cI a)), (1, I lo), (2, I hi), (7, I (i : Int))]) (fun (i : Nat) => i ≤ a.length ∧ riseOk lo hi (prevI a i) (a.drop i) = riseOk lo hi none a) (fun (i : Nat) => a.length - i) 0 rfl (Le.c rfl <| Le.c rfl <| Le.c rfl <| Le.c rfl <| Le.e) ⟨by omega, by simp [prevI]⟩ ?_
 rintro i ⟨hb, hr⟩
 refine CW.seq ?_
 refine CW.k XK 38 1 [0,1,2,7,11] rfl ?_
 (conv=>whnf);refine ⟨rfl,?_⟩
 refine CW.cond rfl (fun h1 => ?_) (fun h1 => ?_)
 ·skip
  have hii : i < a.length := by have := h1; simp at this; first | exact this | omega | (simp; done) | (simp; omega)
  obtain ⟨ei, hei⟩ : ∃ e, a[i]? = some e := ⟨_, List.getElem?_eq_getElem hii⟩
  have hdi := drop_get hei
  refine CW.skip ?_
  refine CW.keep 38 [0,1,2,7] rfl ?_;(conv=>whnf);refine ⟨?_⟩
  refine CW.seq ?_
  refine CW.block ?_
  refine CW.seqJ 38 (fun (v2 : Bool) => [(0, .r (sl 1 cI a)), (1, I lo), (2, I hi), (7, I (i : Int)), (37, Bo v2)]) (fun v2 => v2 = ((!(inR ei lo hi)) || (decide ((i : Int) > 0) && decide ((a.getD (i - 1) 0) ≥ ei)))) ?_ ?_
  ·refine CW.drawn (by kernel_rfl) ?_
   refine RQ.k XK 38 2 rfl ?_
   (conv=>whnf);refine ⟨rfl,?_⟩
   refine RQ.v rfl (V.indexS rfl rfl rfl rfl rfl rfl cI.len hei) ?_
   refine RQ.k XK 38 3 rfl ?_
   (conv=>whnf);refine ⟨rfl,?_⟩
   refine RQ.cons rfl (QOK.call (spec_l01In_fn ei lo hi) rfl (.cons (.one (.r .r)) (.cons (.one (.r .r)) (.cons (.one (.r .r)) (.nil)))) ?_)
   refine RQ.k XK 38 2 rfl ?_
   (conv=>whnf);refine ⟨rfl,?_⟩
   refine RQ.gv rfl rfl rfl rfl (fun h3 => V.mv (d := I (i : Int)) rfl rfl) (fun h3 => ?_) (fun h3 => ?_)
   ·skip
    refine RQ.k XK 38 2 rfl ?_
    (conv=>whnf);refine ⟨rfl,?_⟩
    refine RQ.gv rfl rfl rfl rfl (fun h4 => V.mv (d := .r (sl 1 cI a)) rfl rfl) (fun h4 => ?_) (fun h4 => ?_)
    ·skip
     refine RQ.k XK 38 1 rfl ?_
     (conv=>whnf);refine ⟨rfl,?_⟩
     refine RQ.gt rfl rfl rfl rfl (V.dec (m := i) rfl rfl rfl (by have := h4; simp at this; omega) (by omega)) ?_
     refine RQ.gt rfl rfl rfl rfl (V.indexS rfl rfl rfl rfl rfl rfl cI.len (getD_some (l := a) (j := i - 1) (z := 0) (by omega))) ?_
     refine RQ.k XK 38 3 rfl ?_
     (conv=>whnf);refine ⟨rfl,?_⟩
     refine RQ.gt rfl rfl rfl rfl (V.indexS rfl rfl rfl rfl rfl rfl cI.len hei) ?_
     refine RQ.k XK 38 4 rfl ?_
     (conv=>whnf);refine ⟨rfl,?_⟩
     refine RQ.nil ?_
     exact ⟨_, by first | rfl | (simp_all; done) | (simp_all; omega) | grind, rfl, Le.of rfl⟩
    ·skip
     refine RQ.k XK 38 11 rfl ?_
     (conv=>whnf);refine ⟨rfl,?_⟩
     refine RQ.nil ?_
     exact ⟨_, by first | rfl | (simp_all; done) | (simp_all; omega) | grind, rfl, Le.of rfl⟩
   ·skip
    refine RQ.k XK 38 14 rfl ?_
    (conv=>whnf);refine ⟨rfl,?_⟩
    refine RQ.nil ?_
    exact ⟨_, by first | rfl | (simp_all; done) | (simp_all; omega) | grind, rfl, Le.of rfl⟩
  ·intro v2 hv5
   refine CW.cond rfl (fun h6 => ?_) (fun h6 => ?_)
   ·skip
    refine CW.k XK 38 1 [6] rfl ?_
    (conv=>whnf);refine ⟨rfl,?_⟩
    refine CW.ret ?_
    exact Post.one (RV.b rfl (by rw [← hr, hdi, riseOk_cons]; grind [prevI])) (AOs.r (AOs.r (AOs.r AOs.e)))
   ·skip
    refine CW.skip ?_
    refine CW.keep 38 [0,1,2,7] rfl ?_;(conv=>whnf);refine ⟨?_⟩
    refine CW.region ?_
    refine RW.k XK 38 1 rfl ?_
    (conv=>whnf);refine ⟨rfl,?_⟩
    refine RW.v rfl (V.inc rfl rfl rfl hii hl0) ?_
    refine RW.k XK 38 1 rfl ?_
    (conv=>whnf);refine ⟨rfl,?_⟩
    refine RW.nil ?_
    exact ⟨i + 1, by omega, ⟨by omega, by rw [← hr, hdi, riseOk_cons, prevI_succ hei]; grind [prevI]⟩, rfl, Le.c rfl <| Le.c rfl <| Le.c rfl <| Le.c rfl <| Le.e⟩
 ·skip
  have hii : a.length ≤ i := by have := h1; simp at this; first | exact this | omega | (simp; done) | (simp; omega)
  have hdi : a.drop i = [] := List.drop_eq_nil_of_le hii
  refine CW.exit ?_
  refine CW.keep 38 [] rfl ?_;(conv=>whnf);refine ⟨?_⟩
  refine CW.k XK 38 1 [6] rfl ?_
  (conv=>whnf);refine ⟨rfl,?_⟩
  refine CW.ret ?_
  exact Post.one (RV.b rfl (by rw [← hr, hdi, riseOk_nil])) (AOs.r (AOs.r (AOs.r AOs.e)))
set_option maxHeartbeats 4000000 in
theorem spec_ConfOk_fn (a : List Int) : Eng.Fn E.P 17 [.one (.r (sl 1 cI a))] (.one (.one (.w (.v (.bool (confOk a)))))) [.one (.r (sl 1 cI a))] := by
 refine Eng.Fn.intro (E := E) (rvs := [.tmp 2]) Tryz.func17 rfl rfl rfl (by simp [outSlots, moved, rvSlot, sl]) ?_
 intro B g bo
 refine CW.bound (x := .tmp 0) (n := a.length) (AsT.r) (fun hl0 => ?_)
 refine CW.keep 10 [0] rfl ?_;(conv=>whnf);refine ⟨?_⟩
 refine CW.k XK 10 1 [0] rfl ?_
 (conv=>whnf);refine ⟨rfl,?_⟩
 refine CW.seqJ 10 (fun (v1 : Bool) => [(2, Bo v1)]) (fun v1 => v1 = ((inR (a.length : Int) 1 4) && (riseOk 1 4 none a))) ?_ ?_
 ·refine CW.region ?_
  refine RW.k XK 10 2 rfl ?_
  (conv=>whnf);refine ⟨rfl,?_⟩
  refine RW.call rfl (spec_l01In_fn (a.length : Int) 1 4) rfl (.cons (.one (.r .r)) (.cons (.one (.r .r)) (.cons (.one (.r .r)) (.nil)))) fun g2 => ?_
  refine RW.k XK 10 1 rfl ?_
  (conv=>whnf);refine ⟨rfl,?_⟩
  refine RW.gv rfl rfl rfl rfl (fun h3 => V.mv (d := .r (sl 1 cI a)) rfl rfl) (fun h3 => ?_) (fun h3 => ?_)
  ·skip
   refine RW.gcall rfl rfl rfl rfl (spec_l05Rise_fn a 1 4) rfl (.cons (.one (.r .r)) (.cons (.one (.r .r)) (.cons (.one (.r .r)) (.nil)))) fun g4 => ?_
   refine RW.k XK 10 2 rfl ?_
   (conv=>whnf);refine ⟨rfl,?_⟩
   refine RW.nil ?_
   exact ⟨_, by first | rfl | (simp_all; done) | (simp_all; omega) | grind, rfl, Le.of rfl⟩
  ·skip
   refine RW.k XK 10 3 rfl ?_
   (conv=>whnf);refine ⟨rfl,?_⟩
   refine RW.nil ?_
   exact ⟨_, by first | rfl | (simp_all; done) | (simp_all; omega) | grind, rfl, Le.of rfl⟩
 ·intro v1 hv5
  refine CW.ret ?_
  exact Post.one (RV.b rfl (by simp_all [confOk])) (AOs.r AOs.e)
set_option maxHeartbeats 4000000 in
theorem impl_ConfOk_fn (a : List Int) : Eng.Fn E.P 128 [.one (.r (sl 1 cI a))] (.one (.one (.w (.v (.bool (confOk a)))))) [.one (.r (sl 1 cI a))] := by
 refine Eng.Fn.intro (E := E) (rvs := [.tmp 2]) Tryz.func128 rfl rfl rfl (by simp [outSlots, moved, rvSlot, sl]) ?_
 intro B g bo
 refine CW.bound (x := .tmp 0) (n := a.length) (AsT.r) (fun hl0 => ?_)
 refine CW.keep 10 [0] rfl ?_;(conv=>whnf);refine ⟨?_⟩
 refine CW.k XK 10 1 [0] rfl ?_
 (conv=>whnf);refine ⟨rfl,?_⟩
 refine CW.seqJ 10 (fun (v1 : Bool) => [(2, Bo v1)]) (fun v1 => v1 = (decide ((a.length : Int) > 0) && (riseOk 1 4 none a))) ?_ ?_
 ·refine CW.region ?_
  refine RW.k XK 10 4 rfl ?_
  (conv=>whnf);refine ⟨rfl,?_⟩
  refine RW.gv rfl rfl rfl rfl (fun h2 => V.mv (d := .r (sl 1 cI a)) rfl rfl) (fun h2 => ?_) (fun h2 => ?_)
  ·skip
   refine RW.gcall rfl rfl rfl rfl (impl_nodesOk_fn a) rfl (.cons (.one (.r .r)) (.nil)) fun g3 => ?_
   refine RW.k XK 10 2 rfl ?_
   (conv=>whnf);refine ⟨rfl,?_⟩
   refine RW.nil ?_
   exact ⟨_, by first | rfl | (simp_all; done) | (simp_all; omega) | grind, rfl, Le.of rfl⟩
  ·skip
   refine RW.k XK 10 3 rfl ?_
   (conv=>whnf);refine ⟨rfl,?_⟩
   refine RW.nil ?_
   exact ⟨_, by first | rfl | (simp_all; done) | (simp_all; omega) | grind, rfl, Le.of rfl⟩
 ·intro v1 hv4
  refine CW.ret ?_
  exact Post.one (RV.b rfl (by (subst_vars; exact confOk_impl a))) (AOs.r AOs.e)
set_option maxHeartbeats 4000000 in
theorem spec_ReadConf_fn (s : ByteArray) (hm : s.size ≤ 1048576) : Eng.Fn E.P 149 [.one (.r (.v (.string s)))] (.tup [.one (.w (sl 1 cI ((readConf s).1))), .one (.w (.v (.bool ((readConf s).2))))]) [.one (.r (.v (.string s)))] := by
 refine Eng.Fn.intro (E := E) (rvs := [.tmp 2, .tmp 3]) Tryz.func149 rfl rfl rfl (by simp [outSlots, moved, rvSlot, sl]) ?_
 intro B g bo
 refine CW.keep 36 [0] rfl ?_;(conv=>whnf);refine ⟨?_⟩
 refine CW.k XK 36 1 [0] rfl ?_
 (conv=>whnf);refine ⟨rfl,?_⟩
 refine CW.seq ?_
 refine CW.region ?_
 refine RW.build0 cI rfl rfl rfl rfl rfl fun X1 => ?_
 refine RW.assignMove rfl rfl rfl (by decide) (Nat.le_of_ble_eq_true rfl) (Nat.le_of_ble_eq_true rfl) ?_
 refine RW.nil ?_
 refine CW.keep 36 [0,4] rfl ?_;(conv=>whnf);refine ⟨?_⟩
 refine CW.seq ?_
 refine CW.k XK 36 1 [0,4,5] rfl ?_
 (conv=>whnf);refine ⟨rfl,?_⟩
 refine CW.block ?_
 refine CW.loopI 36 (fun (zz : Nat × Value) => match zz with | (i, X) => [(0, S s), (4, .w (sl 1 cI (bys s i)) X), (5, I (i : Int))]) (fun (zz : Nat × Value) => match zz with | (i, X) => i ≤ s.size ∧ i ≤ 5) (fun (zz : Nat × Value) => match zz with | (i, X) => s.size - i) (0, _) rfl (Le.c rfl <| Le.c rfl <| Le.c rfl <| Le.e) ⟨by omega, by omega⟩ ?_
 rintro ⟨i, X⟩ ⟨hb, hq⟩
 refine CW.seq ?_
 refine CW.seqJ 36 (fun (v2 : Bool) => [(0, S s), (4, .w (sl 1 cI (bys s i)) X), (5, I (i : Int)), (14, Bo v2)]) (fun v2 => v2 = (decide ((i : Int) < (s.size : Int)) && decide ((i : Int) ≤ 4))) ?_ ?_
 ·refine CW.region ?_
  refine RW.k XK 36 5 rfl ?_
  (conv=>whnf);refine ⟨rfl,?_⟩
  refine RW.gv rfl rfl rfl rfl (fun h3 => V.mv (d := I (i : Int)) rfl rfl) (fun h3 => ?_) (fun h3 => ?_)
  ·skip
   refine RW.k XK 36 2 rfl ?_
   (conv=>whnf);refine ⟨rfl,?_⟩
   refine RW.nil ?_
   exact ⟨_, by first | rfl | (simp_all; done) | (simp_all; omega) | grind, rfl, Le.of rfl⟩
  ·skip
   refine RW.k XK 36 2 rfl ?_
   (conv=>whnf);refine ⟨rfl,?_⟩
   refine RW.nil ?_
   exact ⟨_, by first | rfl | (simp_all; done) | (simp_all; omega) | grind, rfl, Le.of rfl⟩
 ·intro v2 hv4
  refine CW.cond rfl (fun h5 => ?_) (fun h5 => ?_)
  ·skip
   have hlt : i < s.size := by rw [hv4] at h5; simp at h5; omega
   have hl4 : i ≤ 4 := by rw [hv4] at h5; simp at h5; omega
   refine CW.skip ?_
   refine CW.keep 36 [0,4,5] rfl ?_;(conv=>whnf);refine ⟨?_⟩
   refine CW.seq ?_
   refine CW.block ?_
   refine CW.region ?_
   refine RW.k XK 36 3 rfl ?_
   (conv=>whnf);refine ⟨rfl,?_⟩
   refine RW.v rfl (V.idxStr (m := i) rfl (by kernel_rfl) rfl rfl hlt) ?_
   refine RW.k XK 36 1 rfl ?_
   (conv=>whnf);refine ⟨rfl,?_⟩
   refine RW.build1c (c := cI) (v := (IntKind.i64.wrap (bat s i))) (u := .v (.int .i64 (IntKind.i64.wrap (bat s i)))) rfl rfl rfl rfl rfl rfl (.inl rfl) rfl rfl fun X6 => ?_
   refine RW.appendSR (c := cI) (l1 := (bys s i)) (l2 := [(IntKind.i64.wrap (bat s i))]) rfl rfl rfl rfl rfl rfl rfl rfl (.al (k := none) (i := 22) (sz := 1) (V := X6) rfl rfl nofun) (by decide) (Nat.le_of_ble_eq_true rfl) cI.len (fun _ => rfl) rfl (by simp only [maxLen, bys_len, List.length_singleton]; omega) (by simp only [maxLen, bys_len, List.length_singleton]; omega) fun X7 => ?_
   refine RW.assignMove rfl rfl rfl (by decide) (Nat.le_of_ble_eq_true rfl) (Nat.le_of_ble_eq_true rfl) ?_
   refine RW.nil ?_
   refine CW.keep 36 [0,4,5] rfl ?_;(conv=>whnf);refine ⟨?_⟩
   refine CW.region ?_
   refine RW.k XK 36 1 rfl ?_
   (conv=>whnf);refine ⟨rfl,?_⟩
   refine RW.v rfl (V.inc rfl rfl rfl hlt (by simp only [maxLen]; omega)) ?_
   refine RW.k XK 36 1 rfl ?_
   (conv=>whnf);refine ⟨rfl,?_⟩
   refine RW.nil ?_
   exact ⟨(i + 1, _), by simp only []; omega, ⟨by omega, by omega⟩, rfl, Le.c rfl <| Le.c (Dw_congr (bys_succ s i).symm) <| Le.c rfl <| Le.e⟩
  ·skip
   refine CW.exit ?_
   refine CW.keep 36 [0,4] rfl ?_;(conv=>whnf);refine ⟨?_⟩
   refine CW.seq ?_
   refine CW.seqJ 36 (fun (v8 : Bool) => [(4, .w (sl 1 cI (bys s i)) X), (33, Bo v8)]) (fun v8 => v8 = ((((bys s i).length : Int) != (s.size : Int)) || (!(confOk (bys s i))))) ?_ ?_
   ·refine CW.region ?_
    refine RW.k XK 36 6 rfl ?_
    (conv=>whnf);refine ⟨rfl,?_⟩
    refine RW.gv rfl rfl rfl rfl (fun h9 => V.mv (d := .al 4 none 1 ((bys s i).length) X 0) rfl rfl) (fun h9 => ?_) (fun h9 => ?_)
    ·skip
     refine RW.gcallOwn rfl rfl rfl rfl (spec_ConfOk_fn (bys s i)) rfl (.cons (.one (.r (.al (k := none) (i := 4) (sz := 1) (V := X) rfl rfl nofun))) (.nil)) rfl fun g10 => ?_
     refine RW.k XK 36 2 rfl ?_
     (conv=>whnf);refine ⟨rfl,?_⟩
     refine RW.nil ?_
     exact ⟨_, by first | rfl | (simp_all; done) | (simp_all; omega) | grind, rfl, Le.of rfl⟩
    ·skip
     refine RW.k XK 36 3 rfl ?_
     (conv=>whnf);refine ⟨rfl,?_⟩
     refine RW.nil ?_
     exact ⟨_, by first | rfl | (simp_all; done) | (simp_all; omega) | grind, rfl, Le.of rfl⟩
   ·intro v8 hv11
    refine CW.cond rfl (fun h12 => ?_) (fun h12 => ?_)
    ·skip
     refine CW.seq ?_
     refine CW.region ?_
     refine RW.build0 cI rfl rfl rfl rfl rfl fun X13 => ?_
     refine RW.assignMove rfl rfl rfl (by decide) (Nat.le_of_ble_eq_true rfl) (Nat.le_of_ble_eq_true rfl) ?_
     refine RW.k XK 36 1 rfl ?_
     (conv=>whnf);refine ⟨rfl,?_⟩
     refine RW.nil ?_
     refine CW.keep 36 [2,3] rfl ?_;(conv=>whnf);refine ⟨?_⟩
     refine CW.ret ?_
     exact Post.tup (by decide) (RVs.c (RV.w rfl (by rw [rc_no (rc_exit hq hb hv4 h5) (by simp_all)])) (RVs.c (RV.b rfl (by rw [rc_no (rc_exit hq hb hv4 h5) (by simp_all)])) RVs.e)) (AOs.r AOs.e)
    ·skip
     refine CW.skip ?_
     refine CW.keep 36 [4] rfl ?_;(conv=>whnf);refine ⟨?_⟩
     refine CW.seq ?_
     refine CW.region ?_
     refine RW.k XK 36 2 rfl ?_
     (conv=>whnf);refine ⟨rfl,?_⟩
     refine RW.pullS 2 4 (by decide) rfl rfl ?_
     refine RW.k XK 36 1 rfl ?_
     (conv=>whnf);refine ⟨rfl,?_⟩
     refine RW.nil ?_
     refine CW.keep 36 [2,3] rfl ?_;(conv=>whnf);refine ⟨?_⟩
     refine CW.ret ?_
     exact Post.tup (by decide) (RVs.c (RV.w rfl (by rw [rc_yes (i := i) (by simp_all)])) (RVs.c (RV.b rfl (by rw [rc_yes (i := i) (by simp_all)])) RVs.e)) (AOs.r AOs.e)
set_option maxHeartbeats 4000000 in
theorem impl_ReadConf_fn (s : ByteArray) (hm : s.size ≤ 1048576) : Eng.Fn E.P 159 [.one (.r (.v (.string s)))] (.tup [.one (.w (sl 1 cI ((readConf s).1))), .one (.w (.v (.bool ((readConf s).2))))]) [.one (.r (.v (.string s)))] := by
 refine Eng.Fn.intro (E := E) (rvs := [.tmp 2, .tmp 3]) Tryz.func159 rfl rfl rfl (by simp [outSlots, moved, rvSlot, sl]) ?_
 intro B g bo
 refine CW.keep 24 [0] rfl ?_;(conv=>whnf);refine ⟨?_⟩
 refine CW.k XK 24 1 [0] rfl ?_
 (conv=>whnf);refine ⟨rfl,?_⟩
 refine CW.seq ?_
 refine CW.region ?_
 refine RW.build0 cI rfl rfl rfl rfl rfl fun X1 => ?_
 refine RW.assignMove rfl rfl rfl (by decide) (Nat.le_of_ble_eq_true rfl) (Nat.le_of_ble_eq_true rfl) ?_
 refine RW.nil ?_
 refine CW.keep 24 [0,4] rfl ?_;(conv=>whnf);refine ⟨?_⟩
 refine CW.seq ?_
 refine CW.k XK 24 1 [0,4,5] rfl ?_
 (conv=>whnf);refine ⟨rfl,?_⟩
 refine CW.block ?_
 refine CW.loopI 24 (fun (zz : Nat × Value) => match zz with | (i, X) => [(0, S s), (4, .w (sl 1 cI (bys s i)) X), (5, I (i : Int))]) (fun (zz : Nat × Value) => match zz with | (i, X) => i ≤ s.size) (fun (zz : Nat × Value) => match zz with | (i, X) => s.size - i) (0, _) rfl (Le.c rfl <| Le.c rfl <| Le.c rfl <| Le.e) (by omega) ?_
 rintro ⟨i, X⟩ hb
 refine CW.seq ?_
 refine CW.k XK 24 1 [0,4,5,10] rfl ?_
 (conv=>whnf);refine ⟨rfl,?_⟩
 refine CW.cond rfl (fun h2 => ?_) (fun h2 => ?_)
 ·skip
  have hlt : i < s.size := by simpa using h2
  refine CW.skip ?_
  refine CW.keep 24 [0,4,5] rfl ?_;(conv=>whnf);refine ⟨?_⟩
  refine CW.seq ?_
  refine CW.block ?_
  refine CW.region ?_
  refine RW.k XK 24 3 rfl ?_
  (conv=>whnf);refine ⟨rfl,?_⟩
  refine RW.v rfl (V.idxStr (m := i) rfl (by kernel_rfl) rfl rfl hlt) ?_
  refine RW.k XK 24 1 rfl ?_
  (conv=>whnf);refine ⟨rfl,?_⟩
  refine RW.build1c (c := cI) (v := (IntKind.i64.wrap (bat s i))) (u := .v (.int .i64 (IntKind.i64.wrap (bat s i)))) rfl rfl rfl rfl rfl rfl (.inl rfl) rfl rfl fun X3 => ?_
  refine RW.appendSR (c := cI) (l1 := (bys s i)) (l2 := [(IntKind.i64.wrap (bat s i))]) rfl rfl rfl rfl rfl rfl rfl rfl (.al (k := none) (i := 18) (sz := 1) (V := X3) rfl rfl nofun) (by decide) (Nat.le_of_ble_eq_true rfl) cI.len (fun _ => rfl) rfl (by simp only [maxLen, bys_len, List.length_singleton]; omega) (by simp only [maxLen, bys_len, List.length_singleton]; omega) fun X4 => ?_
  refine RW.assignMove rfl rfl rfl (by decide) (Nat.le_of_ble_eq_true rfl) (Nat.le_of_ble_eq_true rfl) ?_
  refine RW.nil ?_
  refine CW.keep 24 [0,4,5] rfl ?_;(conv=>whnf);refine ⟨?_⟩
  refine CW.region ?_
  refine RW.k XK 24 1 rfl ?_
  (conv=>whnf);refine ⟨rfl,?_⟩
  refine RW.v rfl (V.inc rfl rfl rfl hlt (by simp only [maxLen]; omega)) ?_
  refine RW.k XK 24 1 rfl ?_
  (conv=>whnf);refine ⟨rfl,?_⟩
  refine RW.nil ?_
  exact ⟨(i + 1, _), by simp only []; omega, (by omega), rfl, Le.c rfl <| Le.c (Dw_congr (bys_succ s i).symm) <| Le.c rfl <| Le.e⟩
 ·skip
  have hi : i = s.size := by simp at h2; omega
  refine CW.exit ?_
  refine CW.keep 24 [4] rfl ?_;(conv=>whnf);refine ⟨?_⟩
  refine CW.seq ?_
  refine CW.seq ?_
  refine CW.region ?_
  refine RW.k XK 24 1 rfl ?_
  (conv=>whnf);refine ⟨rfl,?_⟩
  refine RW.callOwn rfl (impl_ConfOk_fn (bys s i)) rfl (.cons (.one (.r (.al (k := none) (i := 4) (sz := 1) (V := X) rfl rfl nofun))) (.nil)) rfl fun g5 => ?_
  refine RW.k XK 24 1 rfl ?_
  (conv=>whnf);refine ⟨rfl,?_⟩
  refine RW.nil ?_
  refine CW.keep 24 [4,22] rfl ?_;(conv=>whnf);refine ⟨?_⟩
  refine CW.cond rfl (fun h6 => ?_) (fun h6 => ?_)
  ·skip
   refine CW.k XK 24 1 [2,3] rfl ?_
   (conv=>whnf);refine ⟨rfl,?_⟩
   refine CW.ret ?_
   exact Post.tup (by decide) (RVs.c (RV.n rfl (by rw [rc_no (i := i) (.inl hi) (by simp_all)])) (RVs.c (RV.b rfl (by rw [rc_no (i := i) (.inl hi) (by simp_all)])) RVs.e)) (AOs.r AOs.e)
  ·skip
   refine CW.skip ?_
   refine CW.keep 24 [4] rfl ?_;(conv=>whnf);refine ⟨?_⟩
   refine CW.seq ?_
   refine CW.region ?_
   refine RW.k XK 24 2 rfl ?_
   (conv=>whnf);refine ⟨rfl,?_⟩
   refine RW.pullS 2 4 (by decide) rfl rfl ?_
   refine RW.k XK 24 1 rfl ?_
   (conv=>whnf);refine ⟨rfl,?_⟩
   refine RW.nil ?_
   refine CW.keep 24 [2,3] rfl ?_;(conv=>whnf);refine ⟨?_⟩
   refine CW.ret ?_
   exact Post.tup (by decide) (RVs.c (RV.w rfl (by rw [rc_yes (i := i) (by simp_all [bys_len])])) (RVs.c (RV.b rfl (by rw [rc_yes (i := i) (by simp_all [bys_len])])) RVs.e)) (AOs.r AOs.e)
set_option maxHeartbeats 4000000 in
theorem spec_ConfText_fn (a : List Int) (hm : a.length ≤ 1048576) : Eng.Fn E.P 202 [.one (.r (sl 1 cI a))] (.tup [.one (.w (.v (.string ((confText a).1)))), .one (.w (.v (.bool ((confText a).2))))]) [.one (.r (sl 1 cI a))] := by
 refine Eng.Fn.intro (E := E) (rvs := [.tmp 2, .tmp 3]) Tryz.func202 rfl rfl rfl (by simp [outSlots, moved, rvSlot, sl]) ?_
 intro B g bo
 refine CW.bound (x := .tmp 0) (n := a.length) (AsT.r) (fun hl0 => ?_)
 refine CW.keep 26 [0] rfl ?_;(conv=>whnf);refine ⟨?_⟩
 refine CW.k XK 26 1 [0] rfl ?_
 (conv=>whnf);refine ⟨rfl,?_⟩
 refine CW.seq ?_
 refine CW.seq ?_
 refine CW.region ?_
 refine RW.k XK 26 1 rfl ?_
 (conv=>whnf);refine ⟨rfl,?_⟩
 refine RW.call rfl (spec_ConfOk_fn a) rfl (.cons (.one (.r .r)) (.nil)) fun g1 => ?_
 refine RW.k XK 26 1 rfl ?_
 (conv=>whnf);refine ⟨rfl,?_⟩
 refine RW.nil ?_
 refine CW.keep 26 [0,8] rfl ?_;(conv=>whnf);refine ⟨?_⟩
 refine CW.cond rfl (fun h2 => ?_) (fun h2 => ?_)
 ·skip
  refine CW.k XK 26 1 [2,3] rfl ?_
  (conv=>whnf);refine ⟨rfl,?_⟩
  refine CW.ret ?_
  exact Post.tup (by decide) (RVs.c (RV.s rfl (by rw [confText, if_neg (by simp_all)])) (RVs.c (RV.b rfl (by rw [confText, if_neg (by simp_all)])) RVs.e)) (AOs.r AOs.e)
 ·skip
  refine CW.skip ?_
  refine CW.keep 26 [0] rfl ?_;(conv=>whnf);refine ⟨?_⟩
  refine CW.seq ?_
  refine CW.region ?_
  refine RW.build0 cU rfl rfl rfl rfl rfl fun X3 => ?_
  refine RW.assignMove rfl rfl rfl (by decide) (Nat.le_of_ble_eq_true rfl) (Nat.le_of_ble_eq_true rfl) ?_
  refine RW.nil ?_
  refine CW.keep 26 [0,4] rfl ?_;(conv=>whnf);refine ⟨?_⟩
  refine CW.seq ?_
  refine CW.k XK 26 1 [0,4,5] rfl ?_
  (conv=>whnf);refine ⟨rfl,?_⟩
  refine CW.block ?_
  refine CW.loopI 26 (fun (zz : Nat × Value) => match zz with | (i, X) => [(0, .r (sl 1 cI a)), (4, .w (sl 1 cU ((a.take i).map fun x => IntKind.u8.wrap x)) X), (5, I (i : Int))]) (fun (zz : Nat × Value) => match zz with | (i, X) => i ≤ a.length) (fun (zz : Nat × Value) => match zz with | (i, X) => a.length - i) (0, _) rfl (Le.c rfl <| Le.c rfl <| Le.c rfl <| Le.e) (by omega) ?_
  rintro ⟨i, X⟩ hb
  refine CW.seq ?_
  refine CW.k XK 26 1 [0,4,5,13] rfl ?_
  (conv=>whnf);refine ⟨rfl,?_⟩
  refine CW.cond rfl (fun h4 => ?_) (fun h4 => ?_)
  ·skip
   have hii : i < a.length := by have := h4; simp at this; first | exact this | omega | (simp; done) | (simp; omega)
   obtain ⟨ei, hei⟩ : ∃ e, a[i]? = some e := ⟨_, List.getElem?_eq_getElem hii⟩
   have hdi := drop_get hei
   refine CW.skip ?_
   refine CW.keep 26 [0,4,5] rfl ?_;(conv=>whnf);refine ⟨?_⟩
   refine CW.seq ?_
   refine CW.block ?_
   refine CW.region ?_
   refine RW.k XK 26 3 rfl ?_
   (conv=>whnf);refine ⟨rfl,?_⟩
   refine RW.v rfl (V.indexS rfl rfl rfl rfl rfl rfl cI.len hei) ?_
   refine RW.k XK 26 2 rfl ?_
   (conv=>whnf);refine ⟨rfl,?_⟩
   refine RW.build1c (c := cU) (v := (IntKind.u8.wrap ei)) (u := .v (.int .u8 (IntKind.u8.wrap ei))) rfl rfl rfl rfl rfl rfl (.inl rfl) rfl rfl fun X5 => ?_
   refine RW.appendSR (c := cU) (l1 := ((a.take i).map fun x => IntKind.u8.wrap x)) (l2 := [(IntKind.u8.wrap ei)]) rfl rfl rfl rfl rfl rfl rfl rfl (.al (k := none) (i := 22) (sz := 1) (V := X5) rfl rfl nofun) (by decide) (Nat.le_of_ble_eq_true rfl) cU.len (fun _ => rfl) rfl (by simp only [maxLen, List.length_map, List.length_take, List.length_singleton]; omega) (by simp only [maxLen, List.length_map, List.length_take, List.length_singleton]; omega) fun X6 => ?_
   refine RW.assignMove rfl rfl rfl (by decide) (Nat.le_of_ble_eq_true rfl) (Nat.le_of_ble_eq_true rfl) ?_
   refine RW.nil ?_
   refine CW.keep 26 [0,4,5] rfl ?_;(conv=>whnf);refine ⟨?_⟩
   refine CW.region ?_
   refine RW.k XK 26 1 rfl ?_
   (conv=>whnf);refine ⟨rfl,?_⟩
   refine RW.v rfl (V.inc rfl rfl rfl hii hl0) ?_
   refine RW.k XK 26 1 rfl ?_
   (conv=>whnf);refine ⟨rfl,?_⟩
   refine RW.nil ?_
   exact ⟨(i + 1, _), by simp only []; omega, (by omega), rfl, Le.c rfl <| Le.c (Dw_congr (by rw [take_snoc hei, List.map_append]; rfl)) <| Le.c rfl <| Le.e⟩
  ·skip
   have hii : a.length ≤ i := by have := h4; simp at this; first | exact this | omega | (simp; done) | (simp; omega)
   have hdi : a.drop i = [] := List.drop_eq_nil_of_le hii
   refine CW.exit ?_
   refine CW.keep 26 [4] rfl ?_;(conv=>whnf);refine ⟨?_⟩
   refine CW.seq ?_
   refine CW.region ?_
   refine RW.k XK 26 1 rfl ?_
   (conv=>whnf);refine ⟨rfl,?_⟩
   refine RW.v rfl (V.bytesStr (l := ((a.take i).map fun x => IntKind.u8.wrap x)) rfl rfl rfl (by kernel_rfl) (by kernel_rfl) (.al (k := none) (i := 4) (sz := 1) (V := X) rfl rfl nofun)) ?_
   refine RW.k XK 26 2 rfl ?_
   (conv=>whnf);refine ⟨rfl,?_⟩
   refine RW.nil ?_
   refine CW.keep 26 [2,3] rfl ?_;(conv=>whnf);refine ⟨?_⟩
   refine CW.ret ?_
   exact Post.tup (by decide) (RVs.c (RV.s rfl (by rw [confText, if_pos (by simp_all), List.take_of_length_le hii])) (RVs.c (RV.b rfl (by rw [confText, if_pos (by simp_all)])) RVs.e)) (AOs.r AOs.e)
set_option maxHeartbeats 4000000 in
theorem spec_l05Short_fn (s : ByteArray) (hs : s.size ≤ 1048576) : Eng.Fn E.P 204 [.one (.r (.v (.string s)))] (.one (.one (.w (.v (.string (shB s)))))) [.one (.r (.v (.string s)))] := by
 refine Eng.Fn.intro (E := E) (rvs := [.tmp 2]) Tryz.func204 rfl rfl rfl (by simp [outSlots, moved, rvSlot, sl]) ?_
 intro B g bo
 refine CW.keep 8 [0] rfl ?_;(conv=>whnf);refine ⟨?_⟩
 refine CW.k XK 8 1 [0] rfl ?_
 (conv=>whnf);refine ⟨rfl,?_⟩
 refine CW.seq ?_
 refine CW.region ?_
 refine RW.k XK 8 2 rfl ?_
 (conv=>whnf);refine ⟨rfl,?_⟩
 refine RW.call rfl (spec_l01Var_fn (s.size : Int) ⟨by omega, by omega⟩) rfl (.cons (.one (.r .r)) (.nil)) fun g1 => ?_
 refine RW.k XK 8 1 rfl ?_
 (conv=>whnf);refine ⟨rfl,?_⟩
 refine RW.v rfl (V.cat rfl rfl rfl (by have h9 := varB_len9 (n := s.size) (by omega); simp only [maxLen, Int.toNat_natCast]; omega)) ?_
 refine RW.k XK 8 1 rfl ?_
 (conv=>whnf);refine ⟨rfl,?_⟩
 refine RW.nil ?_
 refine CW.keep 8 [2] rfl ?_;(conv=>whnf);refine ⟨?_⟩
 refine CW.ret ?_
 exact Post.one (RV.s rfl (by rfl)) (AOs.r AOs.e)
set_option maxHeartbeats 4000000 in
theorem spec_SnapText_fn (x : Snap) (hm : x.conf.length ≤ 1048576) (hb : x.body.size ≤ 1048576) : Eng.Fn E.P 151 [.agg ((Snap.c x).map .r)] (.tup [.one (.w (.v (.string ((snTx x).1)))), .one (.w (.v (.bool ((snTx x).2))))]) [.agg ((Snap.c x).map .r)] := by
 refine Eng.Fn.intro (E := E) (rvs := [.tmp 2, .tmp 3]) Tryz.func151 rfl rfl rfl (by simp [outSlots, moved, rvSlot, sl]) ?_
 intro B g bo
 refine CW.keep 55 [0] rfl ?_;(conv=>whnf);refine ⟨?_⟩
 have hk2 := confText_len x.conf
 refine CW.seq ?_
 refine CW.region ?_
 refine RW.k XK 55 1 rfl ?_
 (conv=>whnf);intro b1;(conv=>whnf);refine ⟨rfl,?_⟩
 refine RW.freezeB (ts := (Snap.c x)) 1 rfl (DRd.r (DRd.r (DRd.r (DRd.r DRd.e)))) ?_
 refine RW.k XK 55 2 rfl ?_
 (conv=>whnf);refine ⟨rfl,?_⟩
 refine RW.nil ?_
 refine CW.keep 55 [1] rfl ?_;(conv=>whnf);refine ⟨?_⟩
 refine CW.seq ?_
 refine CW.region ?_
 refine RW.k XK 55 2 rfl ?_
 (conv=>whnf);refine ⟨rfl,?_⟩
 refine RW.call rfl (spec_ConfText_fn x.conf hm) rfl (.cons (.one (.r .r)) (.nil)) fun g2 => ?_
 refine RW.k XK 55 5 rfl ?_
 (conv=>whnf);refine ⟨rfl,?_⟩
 refine RW.nil ?_
 refine CW.keep 55 [1,4,5] rfl ?_;(conv=>whnf);refine ⟨?_⟩
 refine CW.seq ?_
 refine CW.seqJ 55 (fun (v3 : Bool) => [(1, .rp (Snap.c x)), (4, S ((confText x.conf).1)), (32, Bo v3)]) (fun v3 => v3 = ((((!((confText x.conf).2)) || (!(inR x.index 0 1000000))) || (!(inR x.term_ 0 100000))) || decide ((x.body.size : Int) > 20000))) ?_ ?_
 ·refine CW.region ?_
  refine RW.k XK 55 3 rfl ?_
  (conv=>whnf);refine ⟨rfl,?_⟩
  refine RW.gv rfl rfl rfl rfl (fun h4 => V.fieldR rfl rfl rfl rfl (by decide) rfl (Nat.le_of_ble_eq_true rfl)) (fun h4 => ?_) (fun h4 => ?_)
  ·skip
   refine RW.k XK 55 1 rfl ?_
   (conv=>whnf);refine ⟨rfl,?_⟩
   refine RW.gcall rfl rfl rfl rfl (spec_l01In_fn x.index 0 1000000) rfl (.cons (.one (.r .r)) (.cons (.one (.r .r)) (.cons (.one (.r .r)) (.nil)))) fun g5 => ?_
   refine RW.k XK 55 3 rfl ?_
   (conv=>whnf);refine ⟨rfl,?_⟩
   refine RW.gv rfl rfl rfl rfl (fun h6 => V.fieldR rfl rfl rfl rfl (by decide) rfl (Nat.le_of_ble_eq_true rfl)) (fun h6 => ?_) (fun h6 => ?_)
   ·skip
    refine RW.k XK 55 1 rfl ?_
    (conv=>whnf);refine ⟨rfl,?_⟩
    refine RW.gcall rfl rfl rfl rfl (spec_l01In_fn x.term_ 0 100000) rfl (.cons (.one (.r .r)) (.cons (.one (.r .r)) (.cons (.one (.r .r)) (.nil)))) fun g7 => ?_
    refine RW.k XK 55 3 rfl ?_
    (conv=>whnf);refine ⟨rfl,?_⟩
    refine RW.gv rfl rfl rfl rfl (fun h8 => V.fieldR rfl rfl rfl rfl (by decide) rfl (Nat.le_of_ble_eq_true rfl)) (fun h8 => ?_) (fun h8 => ?_)
    ·skip
     refine RW.k XK 55 4 rfl ?_
     (conv=>whnf);refine ⟨rfl,?_⟩
     refine RW.nil ?_
     exact ⟨_, by first | rfl | (simp_all; done) | (simp_all; omega) | grind, rfl, Le.of rfl⟩
    ·skip
     refine RW.k XK 55 4 rfl ?_
     (conv=>whnf);refine ⟨rfl,?_⟩
     refine RW.nil ?_
     exact ⟨_, by first | rfl | (simp_all; done) | (simp_all; omega) | grind, rfl, Le.of rfl⟩
   ·skip
    refine RW.k XK 55 10 rfl ?_
    (conv=>whnf);refine ⟨rfl,?_⟩
    refine RW.nil ?_
    exact ⟨_, by first | rfl | (simp_all; done) | (simp_all; omega) | grind, rfl, Le.of rfl⟩
  ·skip
   refine RW.k XK 55 16 rfl ?_
   (conv=>whnf);refine ⟨rfl,?_⟩
   refine RW.nil ?_
   exact ⟨_, by first | rfl | (simp_all; done) | (simp_all; omega) | grind, rfl, Le.of rfl⟩
 ·intro v3 hv9
  refine CW.cond rfl (fun h10 => ?_) (fun h10 => ?_)
  ·skip
   have hvv := hv9.symm.trans h10
   refine CW.k XK 55 1 [2,3] rfl ?_
   (conv=>whnf);refine ⟨rfl,?_⟩
   refine CW.ret ?_
   exact Post.tup (by decide) (RVs.c (RV.s rfl (by rw [snTx, if_pos (show snG x = true from hvv)])) (RVs.c (RV.b rfl (by rw [snTx, if_pos (show snG x = true from hvv)])) RVs.e)) (AOs.a rfl AOs.e)
  ·skip
   have hvv := hv9.symm.trans h10
   refine CW.skip ?_
   refine CW.keep 55 [1,4] rfl ?_;(conv=>whnf);refine ⟨?_⟩
   refine CW.anyJ2 (fc := []) (L0 := []) 55 (fun (zz : (Nat → Nat → Value) × (Nat → Nat → Value) × (Nat → Nat → Value) × (Nat → Nat → Value)) => match zz with | (go11_12_1, go11_2_1, go11_5_1, go11_8_1) => [(6, S ((((varB x.index.toNat) ++ (varB x.term_.toNat)) ++ (shB ((confText x.conf).1))) ++ (shB x.body)))]) (fun all hall f hf b0 hb K hK => ?_) ?_
   ·skip
    have ro11_4 : ∀ B, ∀ (go11_12_1 : Nat → Nat → Value), ∀ (go11_2_1 : Nat → Nat → Value), ∀ (go11_5_1 : Nat → Nat → Value), ∀ (go11_8_1 : Nat → Nat → Value), RA f E B all 0 (bt 15 32767) ⟨55, [(6, S ((((varB x.index.toNat) ++ (varB x.term_.toNat)) ++ (shB ((confText x.conf).1))) ++ (shB x.body)))] ++ b0⟩ K := by
     intro B go11_12_1 go11_2_1 go11_5_1 go11_8_1
     exact RA.of2 hall hf hb (RA.finH (Tell.of rfl) (by kernel_rfl) (hK (go11_12_1, go11_2_1, go11_5_1, go11_8_1) _ rfl (Le.of rfl)))
    have ro11_3 : ∀ B, ∀ (go11_2_1 : Nat → Nat → Value), ∀ (go11_5_1 : Nat → Nat → Value), ∀ (go11_8_1 : Nat → Nat → Value), RA f E B all 3 (bt 15 4095) ⟨55, [(42, S (((varB x.index.toNat) ++ (varB x.term_.toNat)) ++ (shB ((confText x.conf).1)))), (44, S x.body)] ++ b0⟩ K := by
     intro B go11_2_1 go11_5_1 go11_8_1
     refine RA.of2 hall hf hb (RA.stepH (L := [12]) (Tell.of rfl) (by kernel_rfl) (by simp) (RA.each ?_ (RA.each0)))
     ·skip
      refine RO.call rfl rfl (spec_l05Short_fn x.body (by omega)) rfl (.cons (.one (.r .r)) (.nil)) rfl fun go11_12_1 => ?_
      refine RA.first (i := 13) (ls' := (bt 15 16383)) (Tell.of rfl) (by kernel_rfl) rfl rfl rfl (VF.p (V.cat rfl rfl rfl (by have h9 := snG_of hvv; have h7 := varB_len9 (n := x.index.toNat) (by omega); have h6 := varB_len9 (n := x.term_.toNat) (by omega); have h5 := varB_len9 (n := (confText x.conf).1.size) (by omega); have h4 := varB_len9 (n := x.body.size) (by omega); simp only [shB, ByteArray.size_append, maxLen]; omega))) ?_
      refine RA.fr XK 55 0 [14] (bt 15 32767) rfl rfl (by kernel_rfl) (Tell.of rfl) ?_
      (conv=>whnf);refine ⟨rfl,fun B=>?_⟩
      exact RA.to2 hall hf hb (ro11_4 B go11_12_1 go11_2_1 go11_5_1 go11_8_1) rfl rfl (by kernel_rfl)
    have ro11_2 : ∀ B, ∀ (go11_2_1 : Nat → Nat → Value), ∀ (go11_5_1 : Nat → Nat → Value), RA f E B all 5 (bt 15 3327) ⟨55, [(39, S ((varB x.index.toNat) ++ (varB x.term_.toNat))), (40, S ((confText x.conf).1)), (44, S x.body)] ++ b0⟩ K := by
     intro B go11_2_1 go11_5_1
     refine RA.of2 hall hf hb (RA.stepH (L := [8]) (Tell.of rfl) (by kernel_rfl) (by simp) (RA.each ?_ (RA.each0)))
     ·skip
      refine RO.call rfl rfl (spec_l05Short_fn ((confText x.conf).1) (by omega)) rfl (.cons (.one (.r .r)) (.nil)) rfl fun go11_8_1 => ?_
      refine RA.first (i := 9) (ls' := (bt 15 4095)) (Tell.of rfl) (by kernel_rfl) rfl rfl rfl (VF.p (V.cat rfl rfl rfl (by have h9 := snG_of hvv; have h7 := varB_len9 (n := x.index.toNat) (by omega); have h6 := varB_len9 (n := x.term_.toNat) (by omega); have h5 := varB_len9 (n := (confText x.conf).1.size) (by omega); have h4 := varB_len9 (n := x.body.size) (by omega); simp only [shB, ByteArray.size_append, maxLen]; omega))) ?_
      exact RA.to2 hall hf hb (ro11_3 B go11_2_1 go11_5_1 go11_8_1) rfl rfl (by kernel_rfl)
    have ro11_1 : ∀ B, ∀ (go11_2_1 : Nat → Nat → Value), RA f E B all 7 (bt 15 3231) ⟨55, [(35, S (varB x.index.toNat)), (37, I x.term_), (40, S ((confText x.conf).1)), (44, S x.body)] ++ b0⟩ K := by
     intro B go11_2_1
     refine RA.of2 hall hf hb (RA.stepH (L := [5]) (Tell.of rfl) (by kernel_rfl) (by simp) (RA.each ?_ (RA.each0)))
     ·skip
      refine RO.call rfl rfl (spec_l01Var_fn x.term_ (by have h9 := snG_of hvv; omega)) rfl (.cons (.one (.r .r)) (.nil)) rfl fun go11_5_1 => ?_
      refine RA.first (i := 6) (ls' := (bt 15 3327)) (Tell.of rfl) (by kernel_rfl) rfl rfl rfl (VF.p (V.cat rfl rfl rfl (by have h9 := snG_of hvv; have h7 := varB_len9 (n := x.index.toNat) (by omega); have h6 := varB_len9 (n := x.term_.toNat) (by omega); have h5 := varB_len9 (n := (confText x.conf).1.size) (by omega); have h4 := varB_len9 (n := x.body.size) (by omega); simp only [shB, ByteArray.size_append, maxLen]; omega))) ?_
      exact RA.to2 hall hf hb (ro11_2 B go11_2_1 go11_5_1) rfl rfl (by kernel_rfl)
    have ro11_0 : ∀ B, RA f E B all 8 (bt 15 3227) ⟨55, [(34, I x.index), (37, I x.term_), (40, S ((confText x.conf).1)), (44, S x.body)] ++ b0⟩ K := by
     intro B
     refine RA.of2 hall hf hb (RA.stepH (L := [2]) (Tell.of rfl) (by kernel_rfl) (by simp) (RA.each ?_ (RA.each0)))
     ·skip
      refine RO.call rfl rfl (spec_l01Var_fn x.index (by have h9 := snG_of hvv; omega)) rfl (.cons (.one (.r .r)) (.nil)) rfl fun go11_2_1 => ?_
      exact RA.to2 hall hf hb (ro11_1 B go11_2_1) rfl rfl (by kernel_rfl)
    refine RA.start (by kernel_rfl) (by kernel_rfl) (m := 15) (ls' := (bt 15 0)) ?_
    refine RA.fr XK 55 8 [0,1,3,4,7,10,11] (bt 15 3227) rfl rfl (by kernel_rfl) (Tell.of rfl) ?_
    (conv=>whnf);refine ⟨rfl,fun B=>?_⟩
    exact RA.to2 hall hf hb (ro11_0 B) rfl rfl (by kernel_rfl)
   ·rintro ⟨go11_12_1, go11_2_1, go11_5_1, go11_8_1⟩
    refine CW.seq ?_
    refine CW.k XK 55 1 [6,50] rfl ?_
    (conv=>whnf);refine ⟨rfl,?_⟩
    refine CW.cond rfl (fun h12 => ?_) (fun h12 => ?_)
    ·skip
     have hbig := h12
     refine CW.k XK 55 1 [2,3] rfl ?_
     (conv=>whnf);refine ⟨rfl,?_⟩
     refine CW.ret ?_
     exact Post.tup (by decide) (RVs.c (RV.s rfl (by rw [snTx, if_neg (by rw [show snG x = false from hvv]; simp), if_pos (snSz hvv hbig)])) (RVs.c (RV.b rfl (by rw [snTx, if_neg (by rw [show snG x = false from hvv]; simp), if_pos (snSz hvv hbig)])) RVs.e)) (AOs.a rfl AOs.e)
    ·skip
     have hsm := h12
     refine CW.skip ?_
     refine CW.keep 55 [6] rfl ?_;(conv=>whnf);refine ⟨?_⟩
     refine CW.seq ?_
     refine CW.region ?_
     refine RW.k XK 55 1 rfl ?_
     (conv=>whnf);refine ⟨rfl,?_⟩
     refine RW.call rfl (spec_Sealed_fn ((((varB x.index.toNat) ++ (varB x.term_.toNat)) ++ (shB ((confText x.conf).1))) ++ (shB x.body))) rfl (.cons (.one (.r .r)) (.nil)) fun g13 => ?_
     refine RW.k XK 55 4 rfl ?_
     (conv=>whnf);refine ⟨rfl,?_⟩
     refine RW.nil ?_
     refine CW.keep 55 [2,3] rfl ?_;(conv=>whnf);refine ⟨?_⟩
     refine CW.ret ?_
     exact Post.tup (by decide) (RVs.c (RV.s rfl (by rw [snTx, if_neg (by rw [show snG x = false from hvv]; simp), if_neg (snSz2 hvv hsm)]; rfl)) (RVs.c (RV.b rfl (by rw [snTx, if_neg (by rw [show snG x = false from hvv]; simp), if_neg (snSz2 hvv hsm)]; rfl)) RVs.e)) (AOs.a rfl AOs.e)
set_option maxHeartbeats 4000000 in
theorem impl_isIndex_fn (n : Int) : Eng.Fn E.P 70 [.one (.r (.v (.int .i64 n)))] (.one (.one (.w (.v (.bool (inR n 0 1000000)))))) [.one (.r (.v (.int .i64 n)))] := by
 refine Eng.Fn.intro (E := E) (rvs := [.tmp 2]) Tryz.func70 rfl rfl rfl (by simp [outSlots, moved, rvSlot, sl]) ?_
 intro B g bo
 refine CW.keep 5 [0] rfl ?_;(conv=>whnf);refine ⟨?_⟩
 refine CW.k XK 5 1 [0] rfl ?_
 (conv=>whnf);refine ⟨rfl,?_⟩
 refine CW.seq ?_
 refine CW.region ?_
 refine RW.k XK 5 1 rfl ?_
 (conv=>whnf);refine ⟨rfl,?_⟩
 refine RW.call rfl (impl_within_fn n 0 1000000) rfl (.cons (.one (.r .r)) (.cons (.one (.r .r)) (.cons (.one (.r .r)) (.nil)))) fun g1 => ?_
 refine RW.k XK 5 1 rfl ?_
 (conv=>whnf);refine ⟨rfl,?_⟩
 refine RW.nil ?_
 refine CW.keep 5 [2] rfl ?_;(conv=>whnf);refine ⟨?_⟩
 refine CW.ret ?_
 exact Post.one (RV.b rfl (by rfl)) (AOs.r AOs.e)
set_option maxHeartbeats 4000000 in
theorem impl_isTerm_fn (n : Int) : Eng.Fn E.P 71 [.one (.r (.v (.int .i64 n)))] (.one (.one (.w (.v (.bool (inR n 0 100000)))))) [.one (.r (.v (.int .i64 n)))] := by
 refine Eng.Fn.intro (E := E) (rvs := [.tmp 2]) Tryz.func71 rfl rfl rfl (by simp [outSlots, moved, rvSlot, sl]) ?_
 intro B g bo
 refine CW.keep 5 [0] rfl ?_;(conv=>whnf);refine ⟨?_⟩
 refine CW.k XK 5 1 [0] rfl ?_
 (conv=>whnf);refine ⟨rfl,?_⟩
 refine CW.seq ?_
 refine CW.region ?_
 refine RW.k XK 5 1 rfl ?_
 (conv=>whnf);refine ⟨rfl,?_⟩
 refine RW.call rfl (impl_within_fn n 0 100000) rfl (.cons (.one (.r .r)) (.cons (.one (.r .r)) (.cons (.one (.r .r)) (.nil)))) fun g1 => ?_
 refine RW.k XK 5 1 rfl ?_
 (conv=>whnf);refine ⟨rfl,?_⟩
 refine RW.nil ?_
 refine CW.keep 5 [2] rfl ?_;(conv=>whnf);refine ⟨?_⟩
 refine CW.ret ?_
 exact Post.one (RV.b rfl (by rfl)) (AOs.r AOs.e)
set_option maxHeartbeats 4000000 in
theorem impl_ReadVar_fn (t : ByteArray) (a : Int) (ht : t.size ≤ 1048576) : Eng.Fn E.P 177 [.one (.r (.v (.string t))), .one (.r (.v (.int .i64 a)))] (.tup [.one (.w (.v (.int .i64 ((rdVar t a).1)))), .one (.w (.v (.int .i64 ((rdVar t a).2.1)))), .one (.w (.v (.bool ((rdVar t a).2.2))))]) [.one (.r (.v (.string t))), .one (.r (.v (.int .i64 a)))] := by
 refine Eng.Fn.intro (E := E) (rvs := [.tmp 4, .tmp 5, .tmp 6]) Tryz.func177 rfl rfl rfl (by simp [outSlots, moved, rvSlot, sl]) ?_
 intro B g bo
 refine CW.keep 57 [0,1] rfl ?_;(conv=>whnf);refine ⟨?_⟩
 have hsz : t.size ≤ 4611686018427387904 := by omega
 refine CW.k XK 57 1 [0,1] rfl ?_
 (conv=>whnf);refine ⟨rfl,?_⟩
 refine CW.seq ?_
 refine CW.seq ?_
 refine CW.region ?_
 refine RW.k XK 57 3 rfl ?_
 (conv=>whnf);refine ⟨rfl,?_⟩
 refine RW.call rfl (impl_within_fn a 0 (t.size : Int)) rfl (.cons (.one (.r .r)) (.cons (.one (.r .r)) (.cons (.one (.r .r)) (.nil)))) fun g1 => ?_
 refine RW.k XK 57 1 rfl ?_
 (conv=>whnf);refine ⟨rfl,?_⟩
 refine RW.nil ?_
 refine CW.keep 57 [0,1,14] rfl ?_;(conv=>whnf);refine ⟨?_⟩
 refine CW.cond rfl (fun h2 => ?_) (fun h2 => ?_)
 ·skip
  refine CW.k XK 57 1 [4,5,6] rfl ?_
  (conv=>whnf);refine ⟨rfl,?_⟩
  refine CW.ret ?_
  exact Post.tup (by decide) (RVs.c (RV.i rfl (by rw [rdVar_out (nT (by assumption))])) (RVs.c (RV.i rfl (by rw [rdVar_out (nT (by assumption))])) (RVs.c (RV.b rfl (by rw [rdVar_out (nT (by assumption))])) RVs.e))) (AOs.r (AOs.r AOs.e))
 ·skip
  have hin := nF h2
  refine CW.skip ?_
  refine CW.keep 57 [0,1] rfl ?_;(conv=>whnf);refine ⟨?_⟩
  refine CW.k XK 57 1 [0,1,7] rfl ?_
  (conv=>whnf);refine ⟨rfl,?_⟩
  refine CW.seq ?_
  refine CW.k XK 57 1 [0,1,7,8] rfl ?_
  (conv=>whnf);refine ⟨rfl,?_⟩
  refine CW.block ?_
  refine CW.loopI 57 (fun (zz : Nat × Int) => match zz with | (i, n) => [(0, S t), (1, I a), (7, I n), (8, I (i : Int))]) (fun (zz : Nat × Int) => match zz with | (i, n) => RvP t a i n) (fun (zz : Nat × Int) => match zz with | (i, n) => 5 - i) (0, 0) rfl (Le.c rfl <| Le.c rfl <| Le.c rfl <| Le.c rfl <| Le.e) (RvP.init hin hsz) ?_
  rintro ⟨i, n⟩ hP
  refine CW.seq ?_
  refine CW.seqJ 57 (fun (v3 : Bool) => [(0, S t), (1, I a), (7, I n), (8, I (i : Int)), (24, Bo v3)]) (fun v3 => v3 = (decide ((i : Int) < 5) && decide ((IntKind.i64.wrap (a + (i : Int))) < (t.size : Int)))) ?_ ?_
  ·refine CW.region ?_
   refine RW.k XK 57 3 rfl ?_
   (conv=>whnf);refine ⟨rfl,?_⟩
   refine RW.gv rfl rfl rfl rfl (fun h4 => V.mv (d := I a) rfl rfl) (fun h4 => ?_) (fun h4 => ?_)
   ·skip
    refine RW.k XK 57 6 rfl ?_
    (conv=>whnf);refine ⟨rfl,?_⟩
    refine RW.nil ?_
    exact ⟨_, by first | rfl | (simp_all; done) | (simp_all; omega) | grind, rfl, Le.of rfl⟩
   ·skip
    refine RW.k XK 57 6 rfl ?_
    (conv=>whnf);refine ⟨rfl,?_⟩
    refine RW.nil ?_
    exact ⟨_, by first | rfl | (simp_all; done) | (simp_all; omega) | grind, rfl, Le.of rfl⟩
  ·intro v3 hv5
   refine CW.cond rfl (fun h6 => ?_) (fun h6 => ?_)
   ·skip
    have hvv := hv5.symm.trans h6
    simp only [Bool.and_eq_true, decide_eq_true_eq] at hvv
    have h5 : i < 5 := by omega
    have hlt : a.toNat + i < t.size := hP.lt hvv.2
    obtain ⟨c, hb⟩ := hP.byte hlt
    refine CW.skip ?_
    refine CW.keep 57 [0,1,7,8] rfl ?_;(conv=>whnf);refine ⟨?_⟩
    refine CW.seq ?_
    refine CW.block ?_
    refine CW.seq ?_
    refine CW.region ?_
    refine RW.k XK 57 4 rfl ?_
    (conv=>whnf);refine ⟨rfl,?_⟩
    refine RW.v rfl (V.idxStrZ (m := (a.toNat + i)) rfl (by kernel_rfl) rfl rfl hP.ix hlt) ?_
    refine RW.k XK 57 2 rfl ?_
    (conv=>whnf);refine ⟨rfl,?_⟩
    refine RW.nil ?_
    refine CW.keep 57 [0,1,7,8,9] rfl ?_;(conv=>whnf);refine ⟨?_⟩
    refine CW.seq ?_
    refine CW.region ?_
    refine RW.k XK 57 5 rfl ?_
    (conv=>whnf);refine ⟨rfl,?_⟩
    refine RW.v rfl (V.shl rfl rfl rfl (by rw [wrap_small (by omega) (by omega)]; omega)) ?_
    refine RW.k XK 57 2 rfl ?_
    (conv=>whnf);refine ⟨rfl,?_⟩
    refine RW.nil ?_
    refine CW.keep 57 [0,1,7,8,9] rfl ?_;(conv=>whnf);refine ⟨?_⟩
    refine CW.seq ?_
    refine CW.k XK 57 1 [0,1,7,8,9,41] rfl ?_
    (conv=>whnf);refine ⟨rfl,?_⟩
    refine CW.cond rfl (fun h7 => ?_) (fun h7 => ?_)
    ·skip
     have hc : (c.toNat : Int) > 127 := by have h9 := of_decide_eq_true h7; rw [hb.wb] at h9; exact h9
     refine CW.exit ?_
     refine CW.keep 57 [0,1,7,8] rfl ?_;(conv=>whnf);refine ⟨?_⟩
     refine CW.region ?_
     refine RW.k XK 57 1 rfl ?_
     (conv=>whnf);refine ⟨rfl,?_⟩
     refine RW.v rfl (V.inc rfl rfl rfl h5 (by simp only [maxLen]; omega)) ?_
     refine RW.k XK 57 1 rfl ?_
     (conv=>whnf);refine ⟨rfl,?_⟩
     refine RW.nil ?_
     exact ⟨(i + 1, (IntKind.i64.wrap (n + (shlI (Int.tmod (IntKind.i64.wrap (bat t (a.toNat + i))) 128) (IntKind.i64.wrap (7 * (i : Int))))))), by simp only []; omega, (hP.next hb h5 hlt hc (hP.nI hb h5)), rfl, Le.c rfl <| Le.c rfl <| Le.c rfl <| Le.c rfl <| Le.e⟩
    ·skip
     have hc : (c.toNat : Int) ≤ 127 := by have h9 := of_decide_eq_false h7; rw [hb.wb] at h9; omega
     refine CW.skip ?_
     refine CW.keep 57 [1,7,8,9] rfl ?_;(conv=>whnf);refine ⟨?_⟩
     refine CW.seq ?_
     refine CW.seqJ 57 (fun (v8 : Bool) => [(1, I a), (7, I (IntKind.i64.wrap (n + (shlI (Int.tmod (IntKind.i64.wrap (bat t (a.toNat + i))) 128) (IntKind.i64.wrap (7 * (i : Int))))))), (8, I (i : Int)), (51, Bo v8)]) (fun v8 => v8 = ((decide ((i : Int) > 0) && ((IntKind.i64.wrap (bat t (a.toNat + i))) == 0)) || decide ((IntKind.i64.wrap (n + (shlI (Int.tmod (IntKind.i64.wrap (bat t (a.toNat + i))) 128) (IntKind.i64.wrap (7 * (i : Int)))))) > 1000000000))) ?_ ?_
     ·refine CW.region ?_
      refine RW.k XK 57 3 rfl ?_
      (conv=>whnf);refine ⟨rfl,?_⟩
      refine RW.gv rfl rfl rfl rfl (fun h9 => V.mv (d := I (IntKind.i64.wrap (bat t (a.toNat + i)))) rfl rfl) (fun h9 => ?_) (fun h9 => ?_)
      ·skip
       refine RW.k XK 57 3 rfl ?_
       (conv=>whnf);refine ⟨rfl,?_⟩
       refine RW.gv rfl rfl rfl rfl (fun h10 => V.mv (d := I (IntKind.i64.wrap (n + (shlI (Int.tmod (IntKind.i64.wrap (bat t (a.toNat + i))) 128) (IntKind.i64.wrap (7 * (i : Int))))))) rfl rfl) (fun h10 => ?_) (fun h10 => ?_)
       ·skip
        refine RW.k XK 57 2 rfl ?_
        (conv=>whnf);refine ⟨rfl,?_⟩
        refine RW.nil ?_
        exact ⟨_, by first | rfl | (simp_all; done) | (simp_all; omega) | grind, rfl, Le.of rfl⟩
       ·skip
        refine RW.k XK 57 2 rfl ?_
        (conv=>whnf);refine ⟨rfl,?_⟩
        refine RW.nil ?_
        exact ⟨_, by first | rfl | (simp_all; done) | (simp_all; omega) | grind, rfl, Le.of rfl⟩
      ·skip
       refine RW.k XK 57 6 rfl ?_
       (conv=>whnf);refine ⟨rfl,?_⟩
       refine RW.nil ?_
       exact ⟨_, by first | rfl | (simp_all; done) | (simp_all; omega) | grind, rfl, Le.of rfl⟩
     ·intro v8 hv11
      refine CW.cond rfl (fun h12 => ?_) (fun h12 => ?_)
      ·skip
       have hz := (hP.implT hb h5 hv11).1 h12
       refine CW.k XK 57 1 [4,5,6] rfl ?_
       (conv=>whnf);refine ⟨rfl,?_⟩
       refine CW.ret ?_
       exact Post.tup (by decide) (RVs.c (RV.i rfl (by rw [hP.badZ hb h5 hc hz])) (RVs.c (RV.i rfl (by rw [hP.badZ hb h5 hc hz])) (RVs.c (RV.b rfl (by rw [hP.badZ hb h5 hc hz])) RVs.e))) (AOs.r (AOs.r AOs.e))
      ·skip
       have hz := (hP.implT hb h5 hv11).2 h12
       refine CW.skip ?_
       refine CW.keep 57 [1,7,8] rfl ?_;(conv=>whnf);refine ⟨?_⟩
       refine CW.k XK 57 1 [4,5,6] rfl ?_
       (conv=>whnf);refine ⟨rfl,?_⟩
       refine CW.ret ?_
       exact Post.tup (by decide) (RVs.c (RV.i rfl (by rw [hP.goodZ hb h5 hc hz]; exact hP.nI hb h5)) (RVs.c (RV.i rfl (by rw [hP.goodZ hb h5 hc hz]; exact hP.nx)) (RVs.c (RV.b rfl (by rw [hP.goodZ hb h5 hc hz])) RVs.e))) (AOs.r (AOs.r AOs.e))
   ·skip
    have hen := hP.end_ (by have hvv := hv5.symm.trans h6; simp only [Bool.and_eq_false_iff, decide_eq_false_iff_not] at hvv; have h9 := hP.a0; have h8 := hP.sz; have h7 := hP.j5; rw [hP.ix] at hvv; omega)
    refine CW.exit ?_
    refine CW.keep 57 [] rfl ?_;(conv=>whnf);refine ⟨?_⟩
    refine CW.k XK 57 1 [4,5,6] rfl ?_
    (conv=>whnf);refine ⟨rfl,?_⟩
    refine CW.ret ?_
    exact Post.tup (by decide) (RVs.c (RV.i rfl (by rw [hen])) (RVs.c (RV.i rfl (by rw [hen])) (RVs.c (RV.b rfl (by rw [hen])) RVs.e))) (AOs.r (AOs.r AOs.e))
set_option maxHeartbeats 4000000 in
theorem __impl_scan__number_fn (s : scan) (hs : s.ok) : Eng.Fn E.P 115 [.ob ((scan.c s).map .r)] (.one (.one (.w (.v (.int .i64 (numV s)))))) [.ob ((scan.c (numS s)).map .r)] := by
 refine Eng.Fn.intro (E := E) (rvs := [.tmp 2]) Tryz.func115 rfl rfl rfl (by simp [outSlots, moved, rvSlot, sl]) ?_
 intro B g bo
 refine CW.keep 35 [0] rfl ?_;(conv=>whnf);refine ⟨?_⟩
 refine CW.k XK 35 1 [0] rfl ?_
 (conv=>whnf);refine ⟨rfl,?_⟩
 refine CW.anyJ2 (fc := [(0, (bo 0), [.string s.text, .int .i64 s.at_, .bool s.bad])]) (L0 := [(0, .obj (bo 0) ((scan.c s).map .r))]) 35 (fun (go1_8_1 : (Nat → Nat → Value)) => [(3, I ((rdVar s.text s.at_).1)), (4, I ((rdVar s.text s.at_).2.1)), (5, Bo ((rdVar s.text s.at_).2.2))]) (fun all hall f hf b0 hb K hK => ?_) ?_
 ·skip
  have ro1_9 : ∀ B, ∀ (go1_8_1 : Nat → Nat → Value), RA f E B all 0 (bt 16 65535) ⟨35, [(3, I ((rdVar s.text s.at_).1)), (4, I ((rdVar s.text s.at_).2.1)), (5, Bo ((rdVar s.text s.at_).2.2))] ++ b0⟩ K := by
   intro B go1_8_1
   exact RA.of2 hall hf hb (RA.finH (Tell.of rfl) (by kernel_rfl) (hK go1_8_1 _ rfl (Le.of rfl)))
  have ro1_8 : ∀ B, ∀ (go1_8_1 : Nat → Nat → Value), RA f E B all 2 (bt 16 28671) ⟨35, [(3, I ((rdVar s.text s.at_).1)), (4, I ((rdVar s.text s.at_).2.1)), (6, .tup [.u, .u, Bo ((rdVar s.text s.at_).2.2)])] ++ b0⟩ K := by
   intro B go1_8_1
   refine RA.of2 hall hf hb (RA.stepH (L := [12]) (Tell.of rfl) (by kernel_rfl) (by simp) (RA.each ?_ (RA.each0)))
   ·skip
    refine RO.extract (d := Bo ((rdVar s.text s.at_).2.2)) rfl rfl rfl rfl rfl (by decide) (Nat.le_of_ble_eq_true rfl) rfl rfl ?_
    refine RA.fr XK 35 0 [15] (bt 16 65535) rfl rfl (by kernel_rfl) (Tell.of rfl) ?_
    (conv=>whnf);refine ⟨rfl,fun B=>?_⟩
    exact RA.to2 hall hf hb (ro1_9 B go1_8_1) rfl rfl (by kernel_rfl)
  have ro1_7 : ∀ B, ∀ (go1_8_1 : Nat → Nat → Value), RA f E B all 3 (bt 16 14335) ⟨35, [(3, I ((rdVar s.text s.at_).1)), (6, .tup [.u, I ((rdVar s.text s.at_).2.1), .u]), (18, Bo ((rdVar s.text s.at_).2.2))] ++ b0⟩ K := by
   intro B go1_8_1
   refine RA.of2 hall hf hb (RA.stepH (L := [11]) (Tell.of rfl) (by kernel_rfl) (by simp) (RA.each ?_ (RA.each0)))
   ·skip
    refine RO.extract (d := I ((rdVar s.text s.at_).2.1)) rfl rfl rfl rfl rfl (by decide) (Nat.le_of_ble_eq_true rfl) rfl rfl ?_
    refine RA.fr XK 35 0 [14,15] (bt 16 65535) rfl rfl (by kernel_rfl) (Tell.of rfl) ?_
    (conv=>whnf);refine ⟨rfl,fun B=>?_⟩
    exact RA.to2 hall hf hb (ro1_9 B go1_8_1) rfl rfl (by kernel_rfl)
  have ro1_6 : ∀ B, ∀ (go1_8_1 : Nat → Nat → Value), RA f E B all 4 (bt 16 7167) ⟨35, [(6, .tup [I ((rdVar s.text s.at_).1), .u, .u]), (17, I ((rdVar s.text s.at_).2.1)), (18, Bo ((rdVar s.text s.at_).2.2))] ++ b0⟩ K := by
   intro B go1_8_1
   refine RA.of2 hall hf hb (RA.stepH (L := [10]) (Tell.of rfl) (by kernel_rfl) (by simp) (RA.each ?_ (RA.each0)))
   ·skip
    refine RO.extract (d := I ((rdVar s.text s.at_).1)) rfl rfl rfl rfl rfl (by decide) (Nat.le_of_ble_eq_true rfl) rfl rfl ?_
    refine RA.fr XK 35 0 [13,14,15] (bt 16 65535) rfl rfl (by kernel_rfl) (Tell.of rfl) ?_
    (conv=>whnf);refine ⟨rfl,fun B=>?_⟩
    exact RA.to2 hall hf hb (ro1_9 B go1_8_1) rfl rfl (by kernel_rfl)
  have ro1_5 : ∀ B, ∀ (go1_8_1 : Nat → Nat → Value), RA f E B all 4 (bt 16 10239) ⟨35, [(3, I ((rdVar s.text s.at_).1)), (6, .tup [.u, I ((rdVar s.text s.at_).2.1), Bo ((rdVar s.text s.at_).2.2)])] ++ b0⟩ K := by
   intro B go1_8_1
   refine RA.of2 hall hf hb (RA.stepH (L := [11, 12]) (Tell.of rfl) (by kernel_rfl) (by simp) (RA.each ?_ (RA.each ?_ (RA.each0))))
   ·skip
    refine RO.extract (d := I ((rdVar s.text s.at_).2.1)) rfl rfl rfl rfl rfl (by decide) (Nat.le_of_ble_eq_true rfl) rfl rfl ?_
    refine RA.fr XK 35 2 [14] (bt 16 28671) rfl rfl (by kernel_rfl) (Tell.of rfl) ?_
    (conv=>whnf);refine ⟨rfl,fun B=>?_⟩
    exact RA.to2 hall hf hb (ro1_8 B go1_8_1) rfl rfl (by kernel_rfl)
   ·skip
    refine RO.extract (d := Bo ((rdVar s.text s.at_).2.2)) rfl rfl rfl rfl rfl (by decide) (Nat.le_of_ble_eq_true rfl) rfl rfl ?_
    exact RA.to2 hall hf hb (ro1_7 B go1_8_1) rfl rfl (by kernel_rfl)
  have ro1_4 : ∀ B, ∀ (go1_8_1 : Nat → Nat → Value), RA f E B all 5 (bt 16 5119) ⟨35, [(6, .tup [I ((rdVar s.text s.at_).1), I ((rdVar s.text s.at_).2.1), .u]), (18, Bo ((rdVar s.text s.at_).2.2))] ++ b0⟩ K := by
   intro B go1_8_1
   refine RA.of2 hall hf hb (RA.stepH (L := [10, 11]) (Tell.of rfl) (by kernel_rfl) (by simp) (RA.each ?_ (RA.each ?_ (RA.each0))))
   ·skip
    refine RO.extract (d := I ((rdVar s.text s.at_).1)) rfl rfl rfl rfl rfl (by decide) (Nat.le_of_ble_eq_true rfl) rfl rfl ?_
    refine RA.fr XK 35 3 [13] (bt 16 14335) rfl rfl (by kernel_rfl) (Tell.of rfl) ?_
    (conv=>whnf);refine ⟨rfl,fun B=>?_⟩
    exact RA.to2 hall hf hb (ro1_7 B go1_8_1) rfl rfl (by kernel_rfl)
   ·skip
    refine RO.extract (d := I ((rdVar s.text s.at_).2.1)) rfl rfl rfl rfl rfl (by decide) (Nat.le_of_ble_eq_true rfl) rfl rfl ?_
    exact RA.to2 hall hf hb (ro1_6 B go1_8_1) rfl rfl (by kernel_rfl)
  have ro1_3 : ∀ B, ∀ (go1_8_1 : Nat → Nat → Value), RA f E B all 5 (bt 16 3071) ⟨35, [(6, .tup [I ((rdVar s.text s.at_).1), .u, Bo ((rdVar s.text s.at_).2.2)]), (17, I ((rdVar s.text s.at_).2.1))] ++ b0⟩ K := by
   intro B go1_8_1
   refine RA.of2 hall hf hb (RA.stepH (L := [10, 12]) (Tell.of rfl) (by kernel_rfl) (by simp) (RA.each ?_ (RA.each ?_ (RA.each0))))
   ·skip
    refine RO.extract (d := I ((rdVar s.text s.at_).1)) rfl rfl rfl rfl rfl (by decide) (Nat.le_of_ble_eq_true rfl) rfl rfl ?_
    refine RA.fr XK 35 2 [13,14] (bt 16 28671) rfl rfl (by kernel_rfl) (Tell.of rfl) ?_
    (conv=>whnf);refine ⟨rfl,fun B=>?_⟩
    exact RA.to2 hall hf hb (ro1_8 B go1_8_1) rfl rfl (by kernel_rfl)
   ·skip
    refine RO.extract (d := Bo ((rdVar s.text s.at_).2.2)) rfl rfl rfl rfl rfl (by decide) (Nat.le_of_ble_eq_true rfl) rfl rfl ?_
    exact RA.to2 hall hf hb (ro1_6 B go1_8_1) rfl rfl (by kernel_rfl)
  have ro1_2 : ∀ B, ∀ (go1_8_1 : Nat → Nat → Value), RA f E B all 6 (bt 16 1023) ⟨35, [(6, .tup [I ((rdVar s.text s.at_).1), I ((rdVar s.text s.at_).2.1), Bo ((rdVar s.text s.at_).2.2)])] ++ b0⟩ K := by
   intro B go1_8_1
   refine RA.of2 hall hf hb (RA.stepH (L := [10, 11, 12]) (Tell.of rfl) (by kernel_rfl) (by simp) (RA.each ?_ (RA.each ?_ (RA.each ?_ (RA.each0)))))
   ·skip
    refine RO.extract (d := I ((rdVar s.text s.at_).1)) rfl rfl rfl rfl rfl (by decide) (Nat.le_of_ble_eq_true rfl) rfl rfl ?_
    refine RA.fr XK 35 4 [13] (bt 16 10239) rfl rfl (by kernel_rfl) (Tell.of rfl) ?_
    (conv=>whnf);refine ⟨rfl,fun B=>?_⟩
    exact RA.to2 hall hf hb (ro1_5 B go1_8_1) rfl rfl (by kernel_rfl)
   ·skip
    refine RO.extract (d := I ((rdVar s.text s.at_).2.1)) rfl rfl rfl rfl rfl (by decide) (Nat.le_of_ble_eq_true rfl) rfl rfl ?_
    exact RA.to2 hall hf hb (ro1_3 B go1_8_1) rfl rfl (by kernel_rfl)
   ·skip
    refine RO.extract (d := Bo ((rdVar s.text s.at_).2.2)) rfl rfl rfl rfl rfl (by decide) (Nat.le_of_ble_eq_true rfl) rfl rfl ?_
    exact RA.to2 hall hf hb (ro1_4 B go1_8_1) rfl rfl (by kernel_rfl)
  have ro1_1 : ∀ B, ∀ (go1_8_1 : Nat → Nat → Value), RA f E B all 7 (bt 16 511) ⟨35, [(15, .tup [I ((rdVar s.text s.at_).1), I ((rdVar s.text s.at_).2.1), Bo ((rdVar s.text s.at_).2.2)])] ++ b0⟩ K := by
   intro B go1_8_1
   refine RA.of2 hall hf hb (RA.stepH (L := [9]) (Tell.of rfl) (by kernel_rfl) (by simp) (RA.each ?_ (RA.each0)))
   ·skip
    refine RO.moveMove rfl rfl rfl rfl rfl (by decide) (Nat.le_of_ble_eq_true rfl) (Nat.le_of_ble_eq_true rfl) ?_
    exact RA.to2 hall hf hb (ro1_2 B go1_8_1) rfl rfl (by kernel_rfl)
  have ro1_0 : ∀ B, RA f E B all 8 (bt 16 255) ⟨35, [(10, S s.text), (14, I s.at_)] ++ b0⟩ K := by
   intro B
   refine RA.of2 hall hf hb (RA.stepH (L := [8]) (Tell.of rfl) (by kernel_rfl) (by simp) (RA.each ?_ (RA.each0)))
   ·skip
    refine RO.call rfl rfl (impl_ReadVar_fn s.text s.at_ hs.2.2) rfl (.cons (.one (.r .r)) (.cons (.one (.r .r)) (.nil))) rfl fun go1_8_1 => ?_
    exact RA.to2 hall hf hb (ro1_1 B go1_8_1) rfl rfl (by kernel_rfl)
  refine RA.start (by kernel_rfl) (by kernel_rfl) (m := 16) (ls' := (bt 16 0)) ?_
  refine RA.fr XK 35 8 [0,1,2,3,4,5,6,7] (bt 16 255) rfl rfl (by kernel_rfl) (Tell.of rfl) ?_
  (conv=>whnf);refine ⟨rfl,fun B=>?_⟩
  exact RA.to2 hall hf hb (ro1_0 B) rfl rfl (by kernel_rfl)
 ·rintro go1_8_1
  refine CW.seq ?_
  refine CW.seqJ 35 (fun (v2 : Bool) => [(0, .obj (bo 0) ((scan.c s).map .r)), (3, I ((rdVar s.text s.at_).1)), (4, I ((rdVar s.text s.at_).2.1)), (26, Bo v2)]) (fun v2 => v2 = (s.bad || (!((rdVar s.text s.at_).2.2)))) ?_ ?_
  ·refine CW.region ?_
   refine RW.k XK 35 5 rfl ?_
   (conv=>whnf);refine ⟨rfl,?_⟩
   refine RW.gv rfl rfl rfl rfl (fun h3 => V.mv (d := Bo ((rdVar s.text s.at_).2.2)) rfl rfl) (fun h3 => ?_) (fun h3 => ?_)
   ·skip
    refine RW.k XK 35 2 rfl ?_
    (conv=>whnf);refine ⟨rfl,?_⟩
    refine RW.nil ?_
    exact ⟨_, by first | rfl | (simp_all; done) | (simp_all; omega) | grind, rfl, Le.of rfl⟩
   ·skip
    refine RW.k XK 35 2 rfl ?_
    (conv=>whnf);refine ⟨rfl,?_⟩
    refine RW.nil ?_
    exact ⟨_, by first | rfl | (simp_all; done) | (simp_all; omega) | grind, rfl, Le.of rfl⟩
  ·intro v2 hv4
   refine CW.cond rfl (fun h5 => ?_) (fun h5 => ?_)
   ·skip
    have hvv := hv4.symm.trans h5
    refine CW.k XK 35 2 [0,2] rfl ?_
    (conv=>whnf);refine ⟨rfl,?_⟩
    refine CW.ret ?_
    exact Post.one (RV.i rfl (by simp only [numV]; rw [scNum, if_pos hvv])) (AOs.obE (f := fun e => (scan.c e).map .r) (e' := (⟨s.text, s.at_, true⟩ : scan)) rfl (DT.r (DT.r (DT.r DT.e))) (by simp only [numS]; rw [scNum, if_pos hvv]) AOs.e)
   ·skip
    have hvv := hv4.symm.trans h5
    refine CW.skip ?_
    refine CW.keep 35 [0,3,4] rfl ?_;(conv=>whnf);refine ⟨?_⟩
    refine CW.k XK 35 2 [0,2] rfl ?_
    (conv=>whnf);refine ⟨rfl,?_⟩
    refine CW.ret ?_
    exact Post.one (RV.i rfl (by simp only [numV]; rw [scNum, if_neg (by rw [hvv]; simp)])) (AOs.obE (f := fun e => (scan.c e).map .r) (e' := (⟨s.text, ((rdVar s.text s.at_).2.1), s.bad⟩ : scan)) rfl (DT.r (DT.r (DT.r DT.e))) (by simp only [numS]; rw [scNum, if_neg (by rw [hvv]; simp), (Bool.or_eq_false_iff.1 hvv).1]) AOs.e)
set_option maxHeartbeats 4000000 in
theorem impl_ReadShort_fn (t : ByteArray) (a : Int) (ht : t.size ≤ 1048576) : Eng.Fn E.P 178 [.one (.r (.v (.string t))), .one (.r (.v (.int .i64 a)))] (.tup [.one (.w (.v (.string ((rdShort t a).1)))), .one (.w (.v (.int .i64 ((rdShort t a).2.1)))), .one (.w (.v (.bool ((rdShort t a).2.2))))]) [.one (.r (.v (.string t))), .one (.r (.v (.int .i64 a)))] := by
 refine Eng.Fn.intro (E := E) (rvs := [.tmp 4, .tmp 5, .tmp 6]) Tryz.func178 rfl rfl rfl (by simp [outSlots, moved, rvSlot, sl]) ?_
 intro B g bo
 refine CW.keep 40 [0,1] rfl ?_;(conv=>whnf);refine ⟨?_⟩
 refine CW.k XK 40 1 [0,1] rfl ?_
 (conv=>whnf);refine ⟨rfl,?_⟩
 refine CW.seq ?_
 refine CW.region ?_
 refine RW.k XK 40 2 rfl ?_
 (conv=>whnf);refine ⟨rfl,?_⟩
 refine RW.call rfl (impl_ReadVar_fn t a ht) rfl (.cons (.one (.r .r)) (.cons (.one (.r .r)) (.nil))) fun g1 => ?_
 refine RW.k XK 40 7 rfl ?_
 (conv=>whnf);refine ⟨rfl,?_⟩
 refine RW.nil ?_
 refine CW.keep 40 [0,7,8,9] rfl ?_;(conv=>whnf);refine ⟨?_⟩
 refine CW.seq ?_
 refine CW.seqJ 40 (fun (v2 : Bool) => [(0, S t), (7, I ((rdVar t a).1)), (8, I ((rdVar t a).2.1)), (30, Bo v2)]) (fun v2 => v2 = (((!((rdVar t a).2.2)) || decide (((rdVar t a).1) > 20000)) || decide (((rdVar t a).1) > (IntKind.i64.wrap ((t.size : Int) - ((rdVar t a).2.1)))))) ?_ ?_
 ·refine CW.region ?_
  refine RW.k XK 40 3 rfl ?_
  (conv=>whnf);refine ⟨rfl,?_⟩
  refine RW.gv rfl rfl rfl rfl (fun h3 => V.mv (d := I ((rdVar t a).1)) rfl rfl) (fun h3 => ?_) (fun h3 => ?_)
  ·skip
   refine RW.k XK 40 3 rfl ?_
   (conv=>whnf);refine ⟨rfl,?_⟩
   refine RW.gv rfl rfl rfl rfl (fun h4 => V.mv (d := I ((rdVar t a).1)) rfl rfl) (fun h4 => ?_) (fun h4 => ?_)
   ·skip
    refine RW.k XK 40 6 rfl ?_
    (conv=>whnf);refine ⟨rfl,?_⟩
    refine RW.nil ?_
    exact ⟨_, by first | rfl | (simp_all; done) | (simp_all; omega) | grind, rfl, Le.of rfl⟩
   ·skip
    refine RW.k XK 40 6 rfl ?_
    (conv=>whnf);refine ⟨rfl,?_⟩
    refine RW.nil ?_
    exact ⟨_, by first | rfl | (simp_all; done) | (simp_all; omega) | grind, rfl, Le.of rfl⟩
  ·skip
   refine RW.k XK 40 10 rfl ?_
   (conv=>whnf);refine ⟨rfl,?_⟩
   refine RW.nil ?_
   exact ⟨_, by first | rfl | (simp_all; done) | (simp_all; omega) | grind, rfl, Le.of rfl⟩
 ·intro v2 hv5
  refine CW.cond rfl (fun h6 => ?_) (fun h6 => ?_)
  ·skip
   have hvv := hv5.symm.trans h6
   refine CW.k XK 40 1 [4,5,6] rfl ?_
   (conv=>whnf);refine ⟨rfl,?_⟩
   refine CW.ret ?_
   exact Post.tup (by decide) (RVs.c (RV.s rfl (by rw [rdS_no hvv ht])) (RVs.c (RV.i rfl (by rw [rdS_no hvv ht])) (RVs.c (RV.b rfl (by rw [rdS_no hvv ht])) RVs.e))) (AOs.r (AOs.r AOs.e))
  ·skip
   have hvv := hv5.symm.trans h6
   refine CW.skip ?_
   refine CW.keep 40 [0,7,8] rfl ?_;(conv=>whnf);refine ⟨?_⟩
   refine CW.seq ?_
   refine CW.region ?_
   refine RW.k XK 40 5 rfl ?_
   (conv=>whnf);refine ⟨rfl,?_⟩
   refine RW.v rfl (V.strSlice (l := ((rdVar t a).2.1)) (h := (IntKind.i64.wrap (((rdVar t a).2.1) + ((rdVar t a).1)))) rfl (by kernel_rfl) rfl (.inr ⟨_, _, rfl, rfl⟩) (.inr ⟨_, _, rfl, rfl⟩) (rdS_yes hvv ht).2) ?_
   refine RW.k XK 40 6 rfl ?_
   (conv=>whnf);refine ⟨rfl,?_⟩
   refine RW.nil ?_
   refine CW.keep 40 [4,5,6] rfl ?_;(conv=>whnf);refine ⟨?_⟩
   refine CW.ret ?_
   exact Post.tup (by decide) (RVs.c (RV.s rfl (by rw [(rdS_yes hvv ht).1])) (RVs.c (RV.i rfl (by rw [(rdS_yes hvv ht).1])) (RVs.c (RV.b rfl (by rw [(rdS_yes hvv ht).1])) RVs.e))) (AOs.r (AOs.r AOs.e))
set_option maxHeartbeats 4000000 in
theorem __impl_scan__short_fn (s : scan) (hs : s.ok) : Eng.Fn E.P 116 [.ob ((scan.c s).map .r)] (.one (.one (.w (.v (.string (shV s)))))) [.ob ((scan.c (shS s)).map .r)] := by
 refine Eng.Fn.intro (E := E) (rvs := [.tmp 2]) Tryz.func116 rfl rfl rfl (by simp [outSlots, moved, rvSlot, sl]) ?_
 intro B g bo
 refine CW.keep 35 [0] rfl ?_;(conv=>whnf);refine ⟨?_⟩
 refine CW.k XK 35 1 [0] rfl ?_
 (conv=>whnf);refine ⟨rfl,?_⟩
 refine CW.anyJ2 (fc := [(0, (bo 0), [.string s.text, .int .i64 s.at_, .bool s.bad])]) (L0 := [(0, .obj (bo 0) ((scan.c s).map .r))]) 35 (fun (go1_8_1 : (Nat → Nat → Value)) => [(3, S ((rdShort s.text s.at_).1)), (4, I ((rdShort s.text s.at_).2.1)), (5, Bo ((rdShort s.text s.at_).2.2))]) (fun all hall f hf b0 hb K hK => ?_) ?_
 ·skip
  have ro1_9 : ∀ B, ∀ (go1_8_1 : Nat → Nat → Value), RA f E B all 0 (bt 16 65535) ⟨35, [(3, S ((rdShort s.text s.at_).1)), (4, I ((rdShort s.text s.at_).2.1)), (5, Bo ((rdShort s.text s.at_).2.2))] ++ b0⟩ K := by
   intro B go1_8_1
   exact RA.of2 hall hf hb (RA.finH (Tell.of rfl) (by kernel_rfl) (hK go1_8_1 _ rfl (Le.of rfl)))
  have ro1_8 : ∀ B, ∀ (go1_8_1 : Nat → Nat → Value), RA f E B all 2 (bt 16 28671) ⟨35, [(3, S ((rdShort s.text s.at_).1)), (4, I ((rdShort s.text s.at_).2.1)), (6, .tup [.u, .u, Bo ((rdShort s.text s.at_).2.2)])] ++ b0⟩ K := by
   intro B go1_8_1
   refine RA.of2 hall hf hb (RA.stepH (L := [12]) (Tell.of rfl) (by kernel_rfl) (by simp) (RA.each ?_ (RA.each0)))
   ·skip
    refine RO.extract (d := Bo ((rdShort s.text s.at_).2.2)) rfl rfl rfl rfl rfl (by decide) (Nat.le_of_ble_eq_true rfl) rfl rfl ?_
    refine RA.fr XK 35 0 [15] (bt 16 65535) rfl rfl (by kernel_rfl) (Tell.of rfl) ?_
    (conv=>whnf);refine ⟨rfl,fun B=>?_⟩
    exact RA.to2 hall hf hb (ro1_9 B go1_8_1) rfl rfl (by kernel_rfl)
  have ro1_7 : ∀ B, ∀ (go1_8_1 : Nat → Nat → Value), RA f E B all 3 (bt 16 14335) ⟨35, [(3, S ((rdShort s.text s.at_).1)), (6, .tup [.u, I ((rdShort s.text s.at_).2.1), .u]), (18, Bo ((rdShort s.text s.at_).2.2))] ++ b0⟩ K := by
   intro B go1_8_1
   refine RA.of2 hall hf hb (RA.stepH (L := [11]) (Tell.of rfl) (by kernel_rfl) (by simp) (RA.each ?_ (RA.each0)))
   ·skip
    refine RO.extract (d := I ((rdShort s.text s.at_).2.1)) rfl rfl rfl rfl rfl (by decide) (Nat.le_of_ble_eq_true rfl) rfl rfl ?_
    refine RA.fr XK 35 0 [14,15] (bt 16 65535) rfl rfl (by kernel_rfl) (Tell.of rfl) ?_
    (conv=>whnf);refine ⟨rfl,fun B=>?_⟩
    exact RA.to2 hall hf hb (ro1_9 B go1_8_1) rfl rfl (by kernel_rfl)
  have ro1_6 : ∀ B, ∀ (go1_8_1 : Nat → Nat → Value), RA f E B all 4 (bt 16 7167) ⟨35, [(6, .tup [S ((rdShort s.text s.at_).1), .u, .u]), (17, I ((rdShort s.text s.at_).2.1)), (18, Bo ((rdShort s.text s.at_).2.2))] ++ b0⟩ K := by
   intro B go1_8_1
   refine RA.of2 hall hf hb (RA.stepH (L := [10]) (Tell.of rfl) (by kernel_rfl) (by simp) (RA.each ?_ (RA.each0)))
   ·skip
    refine RO.extract (d := S ((rdShort s.text s.at_).1)) rfl rfl rfl rfl rfl (by decide) (Nat.le_of_ble_eq_true rfl) rfl rfl ?_
    refine RA.fr XK 35 0 [13,14,15] (bt 16 65535) rfl rfl (by kernel_rfl) (Tell.of rfl) ?_
    (conv=>whnf);refine ⟨rfl,fun B=>?_⟩
    exact RA.to2 hall hf hb (ro1_9 B go1_8_1) rfl rfl (by kernel_rfl)
  have ro1_5 : ∀ B, ∀ (go1_8_1 : Nat → Nat → Value), RA f E B all 4 (bt 16 10239) ⟨35, [(3, S ((rdShort s.text s.at_).1)), (6, .tup [.u, I ((rdShort s.text s.at_).2.1), Bo ((rdShort s.text s.at_).2.2)])] ++ b0⟩ K := by
   intro B go1_8_1
   refine RA.of2 hall hf hb (RA.stepH (L := [11, 12]) (Tell.of rfl) (by kernel_rfl) (by simp) (RA.each ?_ (RA.each ?_ (RA.each0))))
   ·skip
    refine RO.extract (d := I ((rdShort s.text s.at_).2.1)) rfl rfl rfl rfl rfl (by decide) (Nat.le_of_ble_eq_true rfl) rfl rfl ?_
    refine RA.fr XK 35 2 [14] (bt 16 28671) rfl rfl (by kernel_rfl) (Tell.of rfl) ?_
    (conv=>whnf);refine ⟨rfl,fun B=>?_⟩
    exact RA.to2 hall hf hb (ro1_8 B go1_8_1) rfl rfl (by kernel_rfl)
   ·skip
    refine RO.extract (d := Bo ((rdShort s.text s.at_).2.2)) rfl rfl rfl rfl rfl (by decide) (Nat.le_of_ble_eq_true rfl) rfl rfl ?_
    exact RA.to2 hall hf hb (ro1_7 B go1_8_1) rfl rfl (by kernel_rfl)
  have ro1_4 : ∀ B, ∀ (go1_8_1 : Nat → Nat → Value), RA f E B all 5 (bt 16 5119) ⟨35, [(6, .tup [S ((rdShort s.text s.at_).1), I ((rdShort s.text s.at_).2.1), .u]), (18, Bo ((rdShort s.text s.at_).2.2))] ++ b0⟩ K := by
   intro B go1_8_1
   refine RA.of2 hall hf hb (RA.stepH (L := [10, 11]) (Tell.of rfl) (by kernel_rfl) (by simp) (RA.each ?_ (RA.each ?_ (RA.each0))))
   ·skip
    refine RO.extract (d := S ((rdShort s.text s.at_).1)) rfl rfl rfl rfl rfl (by decide) (Nat.le_of_ble_eq_true rfl) rfl rfl ?_
    refine RA.fr XK 35 3 [13] (bt 16 14335) rfl rfl (by kernel_rfl) (Tell.of rfl) ?_
    (conv=>whnf);refine ⟨rfl,fun B=>?_⟩
    exact RA.to2 hall hf hb (ro1_7 B go1_8_1) rfl rfl (by kernel_rfl)
   ·skip
    refine RO.extract (d := I ((rdShort s.text s.at_).2.1)) rfl rfl rfl rfl rfl (by decide) (Nat.le_of_ble_eq_true rfl) rfl rfl ?_
    exact RA.to2 hall hf hb (ro1_6 B go1_8_1) rfl rfl (by kernel_rfl)
  have ro1_3 : ∀ B, ∀ (go1_8_1 : Nat → Nat → Value), RA f E B all 5 (bt 16 3071) ⟨35, [(6, .tup [S ((rdShort s.text s.at_).1), .u, Bo ((rdShort s.text s.at_).2.2)]), (17, I ((rdShort s.text s.at_).2.1))] ++ b0⟩ K := by
   intro B go1_8_1
   refine RA.of2 hall hf hb (RA.stepH (L := [10, 12]) (Tell.of rfl) (by kernel_rfl) (by simp) (RA.each ?_ (RA.each ?_ (RA.each0))))
   ·skip
    refine RO.extract (d := S ((rdShort s.text s.at_).1)) rfl rfl rfl rfl rfl (by decide) (Nat.le_of_ble_eq_true rfl) rfl rfl ?_
    refine RA.fr XK 35 2 [13,14] (bt 16 28671) rfl rfl (by kernel_rfl) (Tell.of rfl) ?_
    (conv=>whnf);refine ⟨rfl,fun B=>?_⟩
    exact RA.to2 hall hf hb (ro1_8 B go1_8_1) rfl rfl (by kernel_rfl)
   ·skip
    refine RO.extract (d := Bo ((rdShort s.text s.at_).2.2)) rfl rfl rfl rfl rfl (by decide) (Nat.le_of_ble_eq_true rfl) rfl rfl ?_
    exact RA.to2 hall hf hb (ro1_6 B go1_8_1) rfl rfl (by kernel_rfl)
  have ro1_2 : ∀ B, ∀ (go1_8_1 : Nat → Nat → Value), RA f E B all 6 (bt 16 1023) ⟨35, [(6, .tup [S ((rdShort s.text s.at_).1), I ((rdShort s.text s.at_).2.1), Bo ((rdShort s.text s.at_).2.2)])] ++ b0⟩ K := by
   intro B go1_8_1
   refine RA.of2 hall hf hb (RA.stepH (L := [10, 11, 12]) (Tell.of rfl) (by kernel_rfl) (by simp) (RA.each ?_ (RA.each ?_ (RA.each ?_ (RA.each0)))))
   ·skip
    refine RO.extract (d := S ((rdShort s.text s.at_).1)) rfl rfl rfl rfl rfl (by decide) (Nat.le_of_ble_eq_true rfl) rfl rfl ?_
    refine RA.fr XK 35 4 [13] (bt 16 10239) rfl rfl (by kernel_rfl) (Tell.of rfl) ?_
    (conv=>whnf);refine ⟨rfl,fun B=>?_⟩
    exact RA.to2 hall hf hb (ro1_5 B go1_8_1) rfl rfl (by kernel_rfl)
   ·skip
    refine RO.extract (d := I ((rdShort s.text s.at_).2.1)) rfl rfl rfl rfl rfl (by decide) (Nat.le_of_ble_eq_true rfl) rfl rfl ?_
    exact RA.to2 hall hf hb (ro1_3 B go1_8_1) rfl rfl (by kernel_rfl)
   ·skip
    refine RO.extract (d := Bo ((rdShort s.text s.at_).2.2)) rfl rfl rfl rfl rfl (by decide) (Nat.le_of_ble_eq_true rfl) rfl rfl ?_
    exact RA.to2 hall hf hb (ro1_4 B go1_8_1) rfl rfl (by kernel_rfl)
  have ro1_1 : ∀ B, ∀ (go1_8_1 : Nat → Nat → Value), RA f E B all 7 (bt 16 511) ⟨35, [(15, .tup [S ((rdShort s.text s.at_).1), I ((rdShort s.text s.at_).2.1), Bo ((rdShort s.text s.at_).2.2)])] ++ b0⟩ K := by
   intro B go1_8_1
   refine RA.of2 hall hf hb (RA.stepH (L := [9]) (Tell.of rfl) (by kernel_rfl) (by simp) (RA.each ?_ (RA.each0)))
   ·skip
    refine RO.moveMove rfl rfl rfl rfl rfl (by decide) (Nat.le_of_ble_eq_true rfl) (Nat.le_of_ble_eq_true rfl) ?_
    exact RA.to2 hall hf hb (ro1_2 B go1_8_1) rfl rfl (by kernel_rfl)
  have ro1_0 : ∀ B, RA f E B all 8 (bt 16 255) ⟨35, [(10, S s.text), (14, I s.at_)] ++ b0⟩ K := by
   intro B
   refine RA.of2 hall hf hb (RA.stepH (L := [8]) (Tell.of rfl) (by kernel_rfl) (by simp) (RA.each ?_ (RA.each0)))
   ·skip
    refine RO.call rfl rfl (impl_ReadShort_fn s.text s.at_ hs.2.2) rfl (.cons (.one (.r .r)) (.cons (.one (.r .r)) (.nil))) rfl fun go1_8_1 => ?_
    exact RA.to2 hall hf hb (ro1_1 B go1_8_1) rfl rfl (by kernel_rfl)
  refine RA.start (by kernel_rfl) (by kernel_rfl) (m := 16) (ls' := (bt 16 0)) ?_
  refine RA.fr XK 35 8 [0,1,2,3,4,5,6,7] (bt 16 255) rfl rfl (by kernel_rfl) (Tell.of rfl) ?_
  (conv=>whnf);refine ⟨rfl,fun B=>?_⟩
  exact RA.to2 hall hf hb (ro1_0 B) rfl rfl (by kernel_rfl)
 ·rintro go1_8_1
  refine CW.seq ?_
  refine CW.seqJ 35 (fun (v2 : Bool) => [(0, .obj (bo 0) ((scan.c s).map .r)), (3, S ((rdShort s.text s.at_).1)), (4, I ((rdShort s.text s.at_).2.1)), (26, Bo v2)]) (fun v2 => v2 = (s.bad || (!((rdShort s.text s.at_).2.2)))) ?_ ?_
  ·refine CW.region ?_
   refine RW.k XK 35 5 rfl ?_
   (conv=>whnf);refine ⟨rfl,?_⟩
   refine RW.gv rfl rfl rfl rfl (fun h3 => V.mv (d := Bo ((rdShort s.text s.at_).2.2)) rfl rfl) (fun h3 => ?_) (fun h3 => ?_)
   ·skip
    refine RW.k XK 35 2 rfl ?_
    (conv=>whnf);refine ⟨rfl,?_⟩
    refine RW.nil ?_
    exact ⟨_, by first | rfl | (simp_all; done) | (simp_all; omega) | grind, rfl, Le.of rfl⟩
   ·skip
    refine RW.k XK 35 2 rfl ?_
    (conv=>whnf);refine ⟨rfl,?_⟩
    refine RW.nil ?_
    exact ⟨_, by first | rfl | (simp_all; done) | (simp_all; omega) | grind, rfl, Le.of rfl⟩
  ·intro v2 hv4
   refine CW.cond rfl (fun h5 => ?_) (fun h5 => ?_)
   ·skip
    have hvv := hv4.symm.trans h5
    refine CW.k XK 35 2 [0,2] rfl ?_
    (conv=>whnf);refine ⟨rfl,?_⟩
    refine CW.ret ?_
    exact Post.one (RV.s rfl (by simp only [shV]; rw [scShort, if_pos hvv])) (AOs.obE (f := fun e => (scan.c e).map .r) (e' := (⟨s.text, s.at_, true⟩ : scan)) rfl (DT.r (DT.r (DT.r DT.e))) (by simp only [shS]; rw [scShort, if_pos hvv]) AOs.e)
   ·skip
    have hvv := hv4.symm.trans h5
    refine CW.skip ?_
    refine CW.keep 35 [0,3,4] rfl ?_;(conv=>whnf);refine ⟨?_⟩
    refine CW.k XK 35 2 [0,2] rfl ?_
    (conv=>whnf);refine ⟨rfl,?_⟩
    refine CW.ret ?_
    exact Post.one (RV.s rfl (by simp only [shV]; rw [scShort, if_neg (by rw [hvv]; simp)])) (AOs.obE (f := fun e => (scan.c e).map .r) (e' := (⟨s.text, ((rdShort s.text s.at_).2.1), s.bad⟩ : scan)) rfl (DT.r (DT.r (DT.r DT.e))) (by simp only [shS]; rw [scShort, if_neg (by rw [hvv]; simp), (Bool.or_eq_false_iff.1 hvv).1]) AOs.e)
set_option maxHeartbeats 4000000 in
theorem __impl_scan__done_fn (s : scan) : Eng.Fn E.P 117 [.one (.r (.f none (scan.c s)))] (.one (.one (.w (.v (.bool (doneB s)))))) [.one (.r (.f none (scan.c s)))] := by
 refine Eng.Fn.intro (E := E) (rvs := [.tmp 2]) Tryz.func117 rfl rfl rfl (by simp [outSlots, moved, rvSlot, sl]) ?_
 intro B g bo
 refine CW.asRp 0 rfl ?_
 refine CW.keep 20 [0] rfl ?_;(conv=>whnf);refine ⟨?_⟩
 refine CW.k XK 20 1 [0] rfl ?_
 (conv=>whnf);refine ⟨rfl,?_⟩
 refine CW.seqJ 20 (fun (v1 : Bool) => [(2, Bo v1)]) (fun v1 => v1 = ((!s.bad) && (s.at_ == (s.text.size : Int)))) ?_ ?_
 ·refine CW.drawn (by kernel_rfl) ?_
  refine RQ.k XK 20 6 rfl ?_
  (conv=>whnf);refine ⟨rfl,?_⟩
  refine RQ.gv rfl rfl rfl rfl (fun h2 => V.mv (d := .rp (scan.c s)) rfl rfl) (fun h2 => ?_) (fun h2 => ?_)
  ·skip
   refine RQ.k XK 20 11 rfl ?_
   (conv=>whnf);refine ⟨rfl,?_⟩
   refine RQ.nil ?_
   exact ⟨_, by first | rfl | (simp_all; done) | (simp_all; omega) | grind, rfl, Le.of rfl⟩
  ·skip
   refine RQ.k XK 20 11 rfl ?_
   (conv=>whnf);refine ⟨rfl,?_⟩
   refine RQ.nil ?_
   exact ⟨_, by first | rfl | (simp_all; done) | (simp_all; omega) | grind, rfl, Le.of rfl⟩
 ·intro v1 hv3
  refine CW.ret ?_
  exact Post.one (RV.b rfl (by simp_all [doneB])) (AOs.r AOs.e)
set_option maxHeartbeats 4000000 in
theorem impl_ReadSnap_fn (t : ByteArray) (ht : t.size ≤ 1048576) : Eng.Fn E.P 89 [.one (.r (.v (.string t)))] (.tup [.agg ((Snap.c ((rdSnap t).1)).map .w), .one (.w (.v (.bool ((rdSnap t).2))))]) [.one (.r (.v (.string t)))] := by
 refine Eng.Fn.intro (E := E) (rvs := [.cell 2 42, .tmp 3]) Tryz.func89 rfl rfl rfl (by simp [outSlots, moved, rvSlot, sl]) ?_
 intro B g bo
 refine CW.keep 66 [0] rfl ?_;(conv=>whnf);refine ⟨?_⟩
 have hz := unsT_size t
 have hok := scU_ok t
 have ho1 := numS_ok hok
 have ho2 := s2U_ok t
 have ho3 := shS_ok ho2
 refine CW.k XK 66 1 [0,2] rfl ?_
 (conv=>whnf);intro b1;(conv=>whnf);refine ⟨rfl,?_⟩
 refine CW.seq ?_
 refine CW.region ?_
 refine RW.k XK 66 1 rfl ?_
 (conv=>whnf);refine ⟨rfl,?_⟩
 refine RW.call rfl (impl_Unsealed_fn t ht) rfl (.cons (.one (.r .r)) (.nil)) fun g2 => ?_
 refine RW.k XK 66 5 rfl ?_
 (conv=>whnf);refine ⟨rfl,?_⟩
 refine RW.nil ?_
 refine CW.keep 66 [0,2,4,5] rfl ?_;(conv=>whnf);refine ⟨?_⟩
 refine CW.k XK 66 2 [0,2,6,7,20] rfl ?_
 (conv=>whnf);intro b3;(conv=>whnf);intro b4;(conv=>whnf);refine ⟨rfl,?_⟩
 refine CW.seq ?_
 refine CW.region ?_
 refine RW.k XK 66 1 rfl ?_
 (conv=>whnf);refine ⟨rfl,?_⟩
 refine RW.callP (k := 20) (__impl_scan__number_fn (⟨((unsT t).1), 0, (!((unsT t).2))⟩ : scan) hok) rfl rfl (Nat.le_of_ble_eq_true rfl) (by decide) rfl (DT.r (DT.r (DT.r DT.e))) (AsPs.here rfl (.nil)) fun g5 q6 => ?_
 refine RW.k XK 66 2 rfl ?_
 (conv=>whnf);refine ⟨rfl,?_⟩
 refine RW.nil ?_
 refine CW.keep 66 [0,2,6,7,20] rfl ?_;(conv=>whnf);refine ⟨?_⟩
 refine CW.seq ?_
 refine CW.region ?_
 refine RW.k XK 66 1 rfl ?_
 (conv=>whnf);refine ⟨rfl,?_⟩
 refine RW.callP (k := 20) (__impl_scan__number_fn (numS (⟨((unsT t).1), 0, (!((unsT t).2))⟩ : scan)) ho1) rfl rfl (Nat.le_of_ble_eq_true rfl) (by decide) rfl (DT.r (DT.r (DT.r DT.e))) (AsPs.here rfl (.nil)) fun g7 q8 => ?_
 refine RW.k XK 66 2 rfl ?_
 (conv=>whnf);refine ⟨rfl,?_⟩
 refine RW.nil ?_
 refine CW.keep 66 [0,2,6,7,20] rfl ?_;(conv=>whnf);refine ⟨?_⟩
 refine CW.seq ?_
 refine CW.region ?_
 refine RW.k XK 66 1 rfl ?_
 (conv=>whnf);refine ⟨rfl,?_⟩
 refine RW.callP (k := 20) (__impl_scan__short_fn (numS (numS (⟨((unsT t).1), 0, (!((unsT t).2))⟩ : scan))) ho2) rfl rfl (Nat.le_of_ble_eq_true rfl) (by decide) rfl (DT.r (DT.r (DT.r DT.e))) (AsPs.here rfl (.nil)) fun g9 q10 => ?_
 refine RW.k XK 66 1 rfl ?_
 (conv=>whnf);refine ⟨rfl,?_⟩
 refine RW.nil ?_
 refine CW.keep 66 [0,2,6,7,8,20] rfl ?_;(conv=>whnf);refine ⟨?_⟩
 refine CW.seq ?_
 refine CW.region ?_
 refine RW.k XK 66 1 rfl ?_
 (conv=>whnf);refine ⟨rfl,?_⟩
 refine RW.callP (k := 20) (__impl_scan__short_fn (shS (numS (numS (⟨((unsT t).1), 0, (!((unsT t).2))⟩ : scan)))) ho3) rfl rfl (Nat.le_of_ble_eq_true rfl) (by decide) rfl (DT.r (DT.r (DT.r DT.e))) (AsPs.here rfl (.nil)) fun g11 q12 => ?_
 refine RW.k XK 66 2 rfl ?_
 (conv=>whnf);refine ⟨rfl,?_⟩
 refine RW.nil ?_
 refine CW.keep 66 [0,2,6,7,8,20] rfl ?_;(conv=>whnf);refine ⟨?_⟩
 refine CW.seq ?_
 refine CW.region ?_
 refine RW.k XK 66 1 rfl ?_
 (conv=>whnf);refine ⟨rfl,?_⟩
 refine RW.call rfl (impl_ReadConf_fn (shV (numS (numS (⟨((unsT t).1), 0, (!((unsT t).2))⟩ : scan)))) (shV_size ho2)) rfl (.cons (.one (.r .r)) (.nil)) fun g13 => ?_
 refine RW.k XK 66 3 rfl ?_
 (conv=>whnf);refine ⟨rfl,?_⟩
 refine RW.assignMove rfl rfl rfl (by decide) (Nat.le_of_ble_eq_true rfl) (Nat.le_of_ble_eq_true rfl) ?_
 refine RW.k XK 66 1 rfl ?_
 (conv=>whnf);refine ⟨rfl,?_⟩
 refine RW.nil ?_
 refine CW.keep 66 [0,2,6,7,9,10,20] rfl ?_;(conv=>whnf);refine ⟨?_⟩
 refine CW.seq ?_
 refine CW.region ?_
 refine RW.k XK 66 3 rfl ?_
 (conv=>whnf);refine ⟨rfl,?_⟩
 refine RW.keep 66 [0,2,6,7,9,10,20] rfl ?_;(conv=>whnf);refine ⟨?_⟩
 refine RW.pullT (k := 7) (l := 9) (j := 2) 7 9 2 rfl rfl rfl (by decide) rfl rfl rfl ?_
 refine RW.keep 66 [0,2,6,7,10,20] rfl ?_;(conv=>whnf);refine ⟨?_⟩
 refine RW.nil ?_
 refine CW.keep 66 [0,2,6,7,10,20] rfl ?_;(conv=>whnf);refine ⟨?_⟩
 refine CW.seq ?_
 refine CW.seqJ 66 (fun (v14 : Bool) => [(2, .obj b1 [I 0, I 0, .r (.v (.slice none 0 0)), S (⟨#[]⟩)]), (7, .obj b4 [I (numV (⟨((unsT t).1), 0, (!((unsT t).2))⟩ : scan)), I (numV (numS (⟨((unsT t).1), 0, (!((unsT t).2))⟩ : scan))), .w (sl 1 cI ((readConf (shV (numS (numS (⟨((unsT t).1), 0, (!((unsT t).2))⟩ : scan))))).1)) (g13 0 0), S (shV (shS (numS (numS (⟨((unsT t).1), 0, (!((unsT t).2))⟩ : scan)))))]), (63, Bo v14)]) (fun v14 => v14 = (((((!(doneB (shS (shS (numS (numS (⟨((unsT t).1), 0, (!((unsT t).2))⟩ : scan))))))) || (!((readConf (shV (numS (numS (⟨((unsT t).1), 0, (!((unsT t).2))⟩ : scan))))).2))) || (!(inR (numV (⟨((unsT t).1), 0, (!((unsT t).2))⟩ : scan)) 0 1000000))) || (!(inR (numV (numS (⟨((unsT t).1), 0, (!((unsT t).2))⟩ : scan))) 0 100000))) || decide ((t.size : Int) > 20000))) ?_ ?_
 ·refine CW.region ?_
  refine RW.k XK 66 1 rfl ?_
  (conv=>whnf);refine ⟨rfl,?_⟩
  refine RW.callOwn rfl (__impl_scan__done_fn (shS (shS (numS (numS (⟨((unsT t).1), 0, (!((unsT t).2))⟩ : scan)))))) rfl (.cons (.one (.r (.pt rfl rfl (DRd.r (DRd.r (DRd.r DRd.e))) nofun))) (.nil)) rfl fun g15 => ?_
  refine RW.k XK 66 2 rfl ?_
  (conv=>whnf);refine ⟨rfl,?_⟩
  refine RW.gv rfl rfl rfl rfl (fun h16 => V.mv (d := Bo ((readConf (shV (numS (numS (⟨((unsT t).1), 0, (!((unsT t).2))⟩ : scan))))).2)) rfl rfl) (fun h16 => ?_) (fun h16 => ?_)
  ·skip
   refine RW.k XK 66 3 rfl ?_
   (conv=>whnf);refine ⟨rfl,?_⟩
   refine RW.gv rfl rfl rfl rfl (fun h17 => V.field rfl rfl rfl rfl (by decide) rfl) (fun h17 => ?_) (fun h17 => ?_)
   ·skip
    refine RW.k XK 66 1 rfl ?_
    (conv=>whnf);refine ⟨rfl,?_⟩
    refine RW.gcall rfl rfl rfl rfl (impl_isIndex_fn (numV (⟨((unsT t).1), 0, (!((unsT t).2))⟩ : scan))) rfl (.cons (.one (.r .r)) (.nil)) fun g18 => ?_
    refine RW.k XK 66 3 rfl ?_
    (conv=>whnf);refine ⟨rfl,?_⟩
    refine RW.gv rfl rfl rfl rfl (fun h19 => V.field rfl rfl rfl rfl (by decide) rfl) (fun h19 => ?_) (fun h19 => ?_)
    ·skip
     refine RW.k XK 66 1 rfl ?_
     (conv=>whnf);refine ⟨rfl,?_⟩
     refine RW.gcall rfl rfl rfl rfl (impl_isTerm_fn (numV (numS (⟨((unsT t).1), 0, (!((unsT t).2))⟩ : scan)))) rfl (.cons (.one (.r .r)) (.nil)) fun g20 => ?_
     refine RW.k XK 66 3 rfl ?_
     (conv=>whnf);refine ⟨rfl,?_⟩
     refine RW.gv rfl rfl rfl rfl (fun h21 => V.mv (d := S t) rfl rfl) (fun h21 => ?_) (fun h21 => ?_)
     ·skip
      refine RW.k XK 66 3 rfl ?_
      (conv=>whnf);refine ⟨rfl,?_⟩
      refine RW.nil ?_
      exact ⟨_, by first | rfl | (simp_all; done) | (simp_all; omega) | grind, rfl, Le.of rfl⟩
     ·skip
      refine RW.k XK 66 3 rfl ?_
      (conv=>whnf);refine ⟨rfl,?_⟩
      refine RW.nil ?_
      exact ⟨_, by first | rfl | (simp_all; done) | (simp_all; omega) | grind, rfl, Le.of rfl⟩
    ·skip
     refine RW.k XK 66 9 rfl ?_
     (conv=>whnf);refine ⟨rfl,?_⟩
     refine RW.nil ?_
     exact ⟨_, by first | rfl | (simp_all; done) | (simp_all; omega) | grind, rfl, Le.of rfl⟩
   ·skip
    refine RW.k XK 66 15 rfl ?_
    (conv=>whnf);refine ⟨rfl,?_⟩
    refine RW.nil ?_
    exact ⟨_, by first | rfl | (simp_all; done) | (simp_all; omega) | grind, rfl, Le.of rfl⟩
  ·skip
   refine RW.k XK 66 19 rfl ?_
   (conv=>whnf);refine ⟨rfl,?_⟩
   refine RW.nil ?_
   exact ⟨_, by first | rfl | (simp_all; done) | (simp_all; omega) | grind, rfl, Le.of rfl⟩
 ·intro v14 hv22
  refine CW.cond rfl (fun h23 => ?_) (fun h23 => ?_)
  ·skip
   have hvv := hv22.symm.trans h23
   refine CW.k XK 66 1 [2,3] rfl ?_
   (conv=>whnf);refine ⟨rfl,?_⟩
   refine CW.ret ?_
   exact Post.tup (by decide) (RVs.c (RV.c (f := fun e => (Snap.c e).map .w) (e' := (⟨0, 0, [], ⟨#[]⟩⟩ : Snap)) rfl rfl rfl rfl (DT.v (DT.v (DT.n (DT.v DT.e)))) (by rw [rdSnap, if_pos (show snC t = true from hvv)]; rfl)) (RVs.c (RV.b rfl (by rw [rdSnap, if_pos (show snC t = true from hvv)])) RVs.e)) (AOs.r AOs.e)
  ·skip
   have hvv := hv22.symm.trans h23
   refine CW.skip ?_
   refine CW.keep 66 [2,7] rfl ?_;(conv=>whnf);refine ⟨?_⟩
   refine CW.seq ?_
   refine CW.region ?_
   refine RW.k XK 66 2 rfl ?_
   (conv=>whnf);refine ⟨rfl,?_⟩
   refine RW.keep 66 [2,7] rfl ?_;(conv=>whnf);refine ⟨?_⟩
   refine RW.pullO (k := 2) (l := 7) (j := 2) 2 7 2 rfl rfl rfl (by decide) rfl rfl rfl rfl ?_
   refine RW.keep 66 [2] rfl ?_;(conv=>whnf);refine ⟨?_⟩
   refine RW.k XK 66 1 rfl ?_
   (conv=>whnf);refine ⟨rfl,?_⟩
   refine RW.nil ?_
   refine CW.keep 66 [2,3] rfl ?_;(conv=>whnf);refine ⟨?_⟩
   refine CW.ret ?_
   exact Post.tup (by decide) (RVs.c (RV.c (f := fun e => (Snap.c e).map .w) (e' := (⟨(numV (⟨((unsT t).1), 0, (!((unsT t).2))⟩ : scan)), (numV (numS (⟨((unsT t).1), 0, (!((unsT t).2))⟩ : scan))), (readConf (shV (numS (numS (⟨((unsT t).1), 0, (!((unsT t).2))⟩ : scan))))).1, (shV (shS (numS (numS (⟨((unsT t).1), 0, (!((unsT t).2))⟩ : scan)))))⟩ : Snap)) rfl rfl rfl rfl (DT.v (DT.v (DT.w (DT.v DT.e)))) (by rw [rdSnap, if_neg (by rw [show snC t = false from hvv]; simp)]; rfl)) (RVs.c (RV.b rfl (by rw [rdSnap, if_neg (by rw [show snC t = false from hvv]; simp)])) RVs.e)) (AOs.r AOs.e)
set_option maxHeartbeats 4000000 in
theorem spec_ReadSnap_fn (t : ByteArray) (ht : t.size ≤ 1048576) : Eng.Fn E.P 80 [.one (.r (.v (.string t)))] (.tup [.agg ((Snap.c ((rdSnap t).1)).map .w), .one (.w (.v (.bool ((rdSnap t).2))))]) [.one (.r (.v (.string t)))] := by
 refine Eng.Fn.intro (E := E) (rvs := [.cell 2 42, .tmp 3]) Tryz.func80 rfl rfl rfl (by simp [outSlots, moved, rvSlot, sl]) ?_
 intro B g bo
 refine CW.keep 57 [0] rfl ?_;(conv=>whnf);refine ⟨?_⟩
 have hz := unsT_size t
 have hok : (cuU t).sc.ok := scU_ok t
 have ho1 : (numC (cuU t)).sc.ok := numC_ok hok
 have ho2 : (c2U t).sc.ok := numC_ok ho1
 have ho3 := rshC_ok ho2
 refine CW.k XK 57 1 [0,2] rfl ?_
 (conv=>whnf);intro b1;(conv=>whnf);refine ⟨rfl,?_⟩
 refine CW.seq ?_
 refine CW.region ?_
 refine RW.k XK 57 1 rfl ?_
 (conv=>whnf);refine ⟨rfl,?_⟩
 refine RW.call rfl (spec_Unsealed_fn t ht) rfl (.cons (.one (.r .r)) (.nil)) fun g2 => ?_
 refine RW.k XK 57 5 rfl ?_
 (conv=>whnf);refine ⟨rfl,?_⟩
 refine RW.nil ?_
 refine CW.keep 57 [0,2,4,5] rfl ?_;(conv=>whnf);refine ⟨?_⟩
 refine CW.k XK 57 2 [0,2,6,7,19] rfl ?_
 (conv=>whnf);intro b3;(conv=>whnf);intro b4;(conv=>whnf);refine ⟨rfl,?_⟩
 refine CW.seq ?_
 refine CW.region ?_
 refine RW.k XK 57 1 rfl ?_
 (conv=>whnf);refine ⟨rfl,?_⟩
 refine RW.callP (k := 19) (spec_l05Var_fn (⟨((unsT t).1), 0, (!((unsT t).2))⟩ : l05Cur) hok) rfl rfl (Nat.le_of_ble_eq_true rfl) (by decide) rfl (DT.r (DT.r (DT.r DT.e))) (AsPs.here rfl (.nil)) fun g5 q6 => ?_
 refine RW.k XK 57 2 rfl ?_
 (conv=>whnf);refine ⟨rfl,?_⟩
 refine RW.nil ?_
 refine CW.keep 57 [0,2,6,7,19] rfl ?_;(conv=>whnf);refine ⟨?_⟩
 refine CW.seq ?_
 refine CW.region ?_
 refine RW.k XK 57 1 rfl ?_
 (conv=>whnf);refine ⟨rfl,?_⟩
 refine RW.callP (k := 19) (spec_l05Var_fn (numC (⟨((unsT t).1), 0, (!((unsT t).2))⟩ : l05Cur)) ho1) rfl rfl (Nat.le_of_ble_eq_true rfl) (by decide) rfl (DT.r (DT.r (DT.r DT.e))) (AsPs.here rfl (.nil)) fun g7 q8 => ?_
 refine RW.k XK 57 2 rfl ?_
 (conv=>whnf);refine ⟨rfl,?_⟩
 refine RW.nil ?_
 refine CW.keep 57 [0,2,6,7,19] rfl ?_;(conv=>whnf);refine ⟨?_⟩
 refine CW.seq ?_
 refine CW.region ?_
 refine RW.k XK 57 1 rfl ?_
 (conv=>whnf);refine ⟨rfl,?_⟩
 refine RW.callP (k := 19) (spec_l05ReadShort_fn (numC (numC (⟨((unsT t).1), 0, (!((unsT t).2))⟩ : l05Cur))) ho2) rfl rfl (Nat.le_of_ble_eq_true rfl) (by decide) rfl (DT.r (DT.r (DT.r DT.e))) (AsPs.here rfl (.nil)) fun g9 q10 => ?_
 refine RW.call rfl (spec_ReadConf_fn (rshW (numC (numC (⟨((unsT t).1), 0, (!((unsT t).2))⟩ : l05Cur)))) (rshW_size ho2)) rfl (.cons (.one (.r .r)) (.nil)) fun g11 => ?_
 refine RW.k XK 57 5 rfl ?_
 (conv=>whnf);refine ⟨rfl,?_⟩
 refine RW.keep 57 [0,2,6,7,19,31] rfl ?_;(conv=>whnf);refine ⟨?_⟩
 refine RW.pullT (k := 7) (l := 31) (j := 2) 7 31 2 rfl rfl rfl (by decide) rfl rfl rfl ?_
 refine RW.keep 57 [0,2,6,7,19] rfl ?_;(conv=>whnf);refine ⟨?_⟩
 refine RW.nil ?_
 refine CW.keep 57 [0,2,6,7,19] rfl ?_;(conv=>whnf);refine ⟨?_⟩
 refine CW.seq ?_
 refine CW.region ?_
 refine RW.k XK 57 1 rfl ?_
 (conv=>whnf);refine ⟨rfl,?_⟩
 refine RW.callP (k := 19) (spec_l05ReadShort_fn (rshC (numC (numC (⟨((unsT t).1), 0, (!((unsT t).2))⟩ : l05Cur)))) ho3) rfl rfl (Nat.le_of_ble_eq_true rfl) (by decide) rfl (DT.r (DT.r (DT.r DT.e))) (AsPs.here rfl (.nil)) fun g12 q13 => ?_
 refine RW.k XK 57 2 rfl ?_
 (conv=>whnf);refine ⟨rfl,?_⟩
 refine RW.nil ?_
 refine CW.keep 57 [0,2,6,7,19] rfl ?_;(conv=>whnf);refine ⟨?_⟩
 refine CW.seq ?_
 refine CW.region ?_
 refine RW.k XK 57 1 rfl ?_
 (conv=>whnf);refine ⟨rfl,?_⟩
 refine RW.callOwn rfl (spec_SnapText_fn (⟨(numW (⟨((unsT t).1), 0, (!((unsT t).2))⟩ : l05Cur)), (numW (numC (⟨((unsT t).1), 0, (!((unsT t).2))⟩ : l05Cur))), (readConf (rshW (numC (numC (⟨((unsT t).1), 0, (!((unsT t).2))⟩ : l05Cur))))).1, (rshW (rshC (numC (numC (⟨((unsT t).1), 0, (!((unsT t).2))⟩ : l05Cur)))))⟩ : Snap) (by have h9 := readConf_len (rshW (c2U t)); exact Nat.le_trans h9 (by decide)) (rshW_size ho3)) rfl (.cons (.agg (.cons (.r .r) (.cons (.r .r) (.cons (.r (.alo (k := none) (i := 7) (j := 2) (sz := 1) (V := (g11 0 0)) rfl rfl rfl nofun)) (.cons (.r .r) (.nil)))))) (.nil)) rfl fun g14 => ?_
 refine RW.k XK 57 5 rfl ?_
 (conv=>whnf);refine ⟨rfl,?_⟩
 refine RW.nil ?_
 refine CW.keep 57 [0,2,6,7,8,9,19] rfl ?_;(conv=>whnf);refine ⟨?_⟩
 refine CW.seq ?_
 refine CW.seqJ 57 (fun (v15 : Bool) => [(2, .obj b1 [I 0, I 0, .r (.v (.slice none 0 0)), S (⟨#[]⟩)]), (7, .obj b4 [I (numW (⟨((unsT t).1), 0, (!((unsT t).2))⟩ : l05Cur)), I (numW (numC (⟨((unsT t).1), 0, (!((unsT t).2))⟩ : l05Cur))), .w (sl 1 cI ((readConf (rshW (numC (numC (⟨((unsT t).1), 0, (!((unsT t).2))⟩ : l05Cur))))).1)) (g11 0 0), S (rshW (rshC (numC (numC (⟨((unsT t).1), 0, (!((unsT t).2))⟩ : l05Cur)))))]), (54, Bo v15)]) (fun v15 => v15 = (((rshC (rshC (numC (numC (⟨((unsT t).1), 0, (!((unsT t).2))⟩ : l05Cur))))).bad || (!((snTx (⟨(numW (⟨((unsT t).1), 0, (!((unsT t).2))⟩ : l05Cur)), (numW (numC (⟨((unsT t).1), 0, (!((unsT t).2))⟩ : l05Cur))), (readConf (rshW (numC (numC (⟨((unsT t).1), 0, (!((unsT t).2))⟩ : l05Cur))))).1, (rshW (rshC (numC (numC (⟨((unsT t).1), 0, (!((unsT t).2))⟩ : l05Cur)))))⟩ : Snap)).2))) || (!(((snTx (⟨(numW (⟨((unsT t).1), 0, (!((unsT t).2))⟩ : l05Cur)), (numW (numC (⟨((unsT t).1), 0, (!((unsT t).2))⟩ : l05Cur))), (readConf (rshW (numC (numC (⟨((unsT t).1), 0, (!((unsT t).2))⟩ : l05Cur))))).1, (rshW (rshC (numC (numC (⟨((unsT t).1), 0, (!((unsT t).2))⟩ : l05Cur)))))⟩ : Snap)).1).toList == t.toList)))) ?_ ?_
 ·refine CW.region ?_
  refine RW.k XK 57 5 rfl ?_
  (conv=>whnf);refine ⟨rfl,?_⟩
  refine RW.gv rfl rfl rfl rfl (fun h16 => V.mv (d := Bo ((snTx (⟨(numW (⟨((unsT t).1), 0, (!((unsT t).2))⟩ : l05Cur)), (numW (numC (⟨((unsT t).1), 0, (!((unsT t).2))⟩ : l05Cur))), (readConf (rshW (numC (numC (⟨((unsT t).1), 0, (!((unsT t).2))⟩ : l05Cur))))).1, (rshW (rshC (numC (numC (⟨((unsT t).1), 0, (!((unsT t).2))⟩ : l05Cur)))))⟩ : Snap)).2)) rfl rfl) (fun h16 => ?_) (fun h16 => ?_)
  ·skip
   refine RW.k XK 57 3 rfl ?_
   (conv=>whnf);refine ⟨rfl,?_⟩
   refine RW.gv rfl rfl rfl rfl (fun h17 => V.mv (d := S ((snTx (⟨(numW (⟨((unsT t).1), 0, (!((unsT t).2))⟩ : l05Cur)), (numW (numC (⟨((unsT t).1), 0, (!((unsT t).2))⟩ : l05Cur))), (readConf (rshW (numC (numC (⟨((unsT t).1), 0, (!((unsT t).2))⟩ : l05Cur))))).1, (rshW (rshC (numC (numC (⟨((unsT t).1), 0, (!((unsT t).2))⟩ : l05Cur)))))⟩ : Snap)).1)) rfl rfl) (fun h17 => ?_) (fun h17 => ?_)
   ·skip
    refine RW.k XK 57 3 rfl ?_
    (conv=>whnf);refine ⟨rfl,?_⟩
    refine RW.nil ?_
    exact ⟨_, by first | rfl | (simp_all; done) | (simp_all; omega) | grind, rfl, Le.of rfl⟩
   ·skip
    refine RW.k XK 57 3 rfl ?_
    (conv=>whnf);refine ⟨rfl,?_⟩
    refine RW.nil ?_
    exact ⟨_, by first | rfl | (simp_all; done) | (simp_all; omega) | grind, rfl, Le.of rfl⟩
  ·skip
   refine RW.k XK 57 7 rfl ?_
   (conv=>whnf);refine ⟨rfl,?_⟩
   refine RW.nil ?_
   exact ⟨_, by first | rfl | (simp_all; done) | (simp_all; omega) | grind, rfl, Le.of rfl⟩
 ·intro v15 hv18
  refine CW.cond rfl (fun h19 => ?_) (fun h19 => ?_)
  ·skip
   have hvv := hv18.symm.trans h19
   refine CW.k XK 57 1 [2,3] rfl ?_
   (conv=>whnf);refine ⟨rfl,?_⟩
   refine CW.ret ?_
   exact Post.tup (by decide) (RVs.c (RV.c (f := fun e => (Snap.c e).map .w) (e' := (⟨0, 0, [], ⟨#[]⟩⟩ : Snap)) rfl rfl rfl rfl (DT.v (DT.v (DT.n (DT.v DT.e)))) (by rw [← rdSnap_eq, rdSnapS, if_pos (show snD t = true from hvv)]; rfl)) (RVs.c (RV.b rfl (by rw [← rdSnap_eq, rdSnapS, if_pos (show snD t = true from hvv)])) RVs.e)) (AOs.r AOs.e)
  ·skip
   have hvv := hv18.symm.trans h19
   refine CW.skip ?_
   refine CW.keep 57 [2,7] rfl ?_;(conv=>whnf);refine ⟨?_⟩
   refine CW.seq ?_
   refine CW.region ?_
   refine RW.k XK 57 2 rfl ?_
   (conv=>whnf);refine ⟨rfl,?_⟩
   refine RW.keep 57 [2,7] rfl ?_;(conv=>whnf);refine ⟨?_⟩
   refine RW.pullO (k := 2) (l := 7) (j := 2) 2 7 2 rfl rfl rfl (by decide) rfl rfl rfl rfl ?_
   refine RW.keep 57 [2] rfl ?_;(conv=>whnf);refine ⟨?_⟩
   refine RW.k XK 57 1 rfl ?_
   (conv=>whnf);refine ⟨rfl,?_⟩
   refine RW.nil ?_
   refine CW.keep 57 [2,3] rfl ?_;(conv=>whnf);refine ⟨?_⟩
   refine CW.ret ?_
   exact Post.tup (by decide) (RVs.c (RV.c (f := fun e => (Snap.c e).map .w) (e' := (⟨(numW (⟨((unsT t).1), 0, (!((unsT t).2))⟩ : l05Cur)), (numW (numC (⟨((unsT t).1), 0, (!((unsT t).2))⟩ : l05Cur))), (readConf (rshW (numC (numC (⟨((unsT t).1), 0, (!((unsT t).2))⟩ : l05Cur))))).1, (rshW (rshC (numC (numC (⟨((unsT t).1), 0, (!((unsT t).2))⟩ : l05Cur)))))⟩ : Snap)) rfl rfl rfl rfl (DT.v (DT.v (DT.w (DT.v DT.e)))) (by rw [← rdSnap_eq, rdSnapS, if_neg (by rw [show snD t = false from hvv]; simp)]; rfl)) (RVs.c (RV.b rfl (by rw [← rdSnap_eq, rdSnapS, if_neg (by rw [show snD t = false from hvv]; simp)])) RVs.e)) (AOs.r AOs.e)
end Go.Proofs.YtmhnehgpmndiiaaGreatDoor.Y
