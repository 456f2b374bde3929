import Derived.Test.YtaeagpakloggfaaDoorWFoldsE
namespace Go.Proofs.YtaeagpakloggfaaDoor.Y
open Go Go.RowKit Go.Eng Go.Proofs
set_option maxRecDepth 10000
set_option maxHeartbeats 4000000 in
theorem __impl_scan__short_fn (s : scan) (hs : s.ok) : Eng.Fn E.P 89 [.ob ((scan.c s).map .r)] (.one (.one (.w (.v (.string (shV s)))))) [.ob ((scan.c (shS s)).map .r)] := by
 refine Eng.Fn.intro (E := E) (rvs := [.tmp 2]) Tryd.func89 rfl rfl rfl (by simp [outSlots, moved, rvSlot, sl]) ?_
 intro B g bo
 refine CW.keep 35 [0] rfl ?_;(conv=>whnf);refine ⟨?_⟩
 refine CW.k XK 35 1 [0] rfl ?_
 (conv=>whnf);refine ⟨rfl,?_⟩
 refine CW.anyJ2 (fc := [(0, (bo 0), [.string s.text, .int .i64 s.at_, .bool s.bad])]) (L0 := [(0, .obj (bo 0) ((scan.c s).map .r))]) 35 (fun (go1_8_1 : (Nat → Nat → Value)) => [(3, S ((rdShort s.text s.at_).1)), (4, I ((rdShort s.text s.at_).2.1)), (5, Bo ((rdShort s.text s.at_).2.2))]) (fun all hall f hf b0 hb K hK => ?_) ?_
 ·skip
  have ro1_9 : ∀ B, ∀ (go1_8_1 : Nat → Nat → Value), RA f E B all 0 (bt 16 65535) ⟨35, [(3, S ((rdShort s.text s.at_).1)), (4, I ((rdShort s.text s.at_).2.1)), (5, Bo ((rdShort s.text s.at_).2.2))] ++ b0⟩ K := by
   intro B go1_8_1
   exact RA.of2 hall hf hb (RA.finH (Tell.of rfl) (by kernel_rfl) (hK go1_8_1 _ rfl (Le.of rfl)))
  have ro1_8 : ∀ B, ∀ (go1_8_1 : Nat → Nat → Value), RA f E B all 2 (bt 16 28671) ⟨35, [(3, S ((rdShort s.text s.at_).1)), (4, I ((rdShort s.text s.at_).2.1)), (6, .tup [.u, .u, Bo ((rdShort s.text s.at_).2.2)])] ++ b0⟩ K := by
   intro B go1_8_1
   refine RA.of2 hall hf hb (RA.stepH (L := [12]) (Tell.of rfl) (by kernel_rfl) (by simp) (RA.each ?_ (RA.each0)))
   ·skip
    refine RO.extract (d := Bo ((rdShort s.text s.at_).2.2)) rfl rfl rfl rfl rfl (by decide) (Nat.le_of_ble_eq_true rfl) rfl rfl ?_
    refine RA.fr XK 35 0 [15] (bt 16 65535) rfl rfl (by kernel_rfl) (Tell.of rfl) ?_
    (conv=>whnf);refine ⟨rfl,fun B=>?_⟩
    exact RA.to2 hall hf hb (ro1_9 B go1_8_1) rfl rfl (by kernel_rfl)
  have ro1_7 : ∀ B, ∀ (go1_8_1 : Nat → Nat → Value), RA f E B all 3 (bt 16 14335) ⟨35, [(3, S ((rdShort s.text s.at_).1)), (6, .tup [.u, I ((rdShort s.text s.at_).2.1), .u]), (18, Bo ((rdShort s.text s.at_).2.2))] ++ b0⟩ K := by
   intro B go1_8_1
   refine RA.of2 hall hf hb (RA.stepH (L := [11]) (Tell.of rfl) (by kernel_rfl) (by simp) (RA.each ?_ (RA.each0)))
   ·skip
    refine RO.extract (d := I ((rdShort s.text s.at_).2.1)) rfl rfl rfl rfl rfl (by decide) (Nat.le_of_ble_eq_true rfl) rfl rfl ?_
    refine RA.fr XK 35 0 [14,15] (bt 16 65535) rfl rfl (by kernel_rfl) (Tell.of rfl) ?_
    (conv=>whnf);refine ⟨rfl,fun B=>?_⟩
    exact RA.to2 hall hf hb (ro1_9 B go1_8_1) rfl rfl (by kernel_rfl)
  have ro1_6 : ∀ B, ∀ (go1_8_1 : Nat → Nat → Value), RA f E B all 4 (bt 16 7167) ⟨35, [(6, .tup [S ((rdShort s.text s.at_).1), .u, .u]), (17, I ((rdShort s.text s.at_).2.1)), (18, Bo ((rdShort s.text s.at_).2.2))] ++ b0⟩ K := by
   intro B go1_8_1
   refine RA.of2 hall hf hb (RA.stepH (L := [10]) (Tell.of rfl) (by kernel_rfl) (by simp) (RA.each ?_ (RA.each0)))
   ·skip
    refine RO.extract (d := S ((rdShort s.text s.at_).1)) rfl rfl rfl rfl rfl (by decide) (Nat.le_of_ble_eq_true rfl) rfl rfl ?_
    refine RA.fr XK 35 0 [13,14,15] (bt 16 65535) rfl rfl (by kernel_rfl) (Tell.of rfl) ?_
    (conv=>whnf);refine ⟨rfl,fun B=>?_⟩
    exact RA.to2 hall hf hb (ro1_9 B go1_8_1) rfl rfl (by kernel_rfl)
  have ro1_5 : ∀ B, ∀ (go1_8_1 : Nat → Nat → Value), RA f E B all 4 (bt 16 10239) ⟨35, [(3, S ((rdShort s.text s.at_).1)), (6, .tup [.u, I ((rdShort s.text s.at_).2.1), Bo ((rdShort s.text s.at_).2.2)])] ++ b0⟩ K := by
   intro B go1_8_1
   refine RA.of2 hall hf hb (RA.stepH (L := [11, 12]) (Tell.of rfl) (by kernel_rfl) (by simp) (RA.each ?_ (RA.each ?_ (RA.each0))))
   ·skip
    refine RO.extract (d := I ((rdShort s.text s.at_).2.1)) rfl rfl rfl rfl rfl (by decide) (Nat.le_of_ble_eq_true rfl) rfl rfl ?_
    refine RA.fr XK 35 2 [14] (bt 16 28671) rfl rfl (by kernel_rfl) (Tell.of rfl) ?_
    (conv=>whnf);refine ⟨rfl,fun B=>?_⟩
    exact RA.to2 hall hf hb (ro1_8 B go1_8_1) rfl rfl (by kernel_rfl)
   ·skip
    refine RO.extract (d := Bo ((rdShort s.text s.at_).2.2)) rfl rfl rfl rfl rfl (by decide) (Nat.le_of_ble_eq_true rfl) rfl rfl ?_
    exact RA.to2 hall hf hb (ro1_7 B go1_8_1) rfl rfl (by kernel_rfl)
  have ro1_4 : ∀ B, ∀ (go1_8_1 : Nat → Nat → Value), RA f E B all 5 (bt 16 5119) ⟨35, [(6, .tup [S ((rdShort s.text s.at_).1), I ((rdShort s.text s.at_).2.1), .u]), (18, Bo ((rdShort s.text s.at_).2.2))] ++ b0⟩ K := by
   intro B go1_8_1
   refine RA.of2 hall hf hb (RA.stepH (L := [10, 11]) (Tell.of rfl) (by kernel_rfl) (by simp) (RA.each ?_ (RA.each ?_ (RA.each0))))
   ·skip
    refine RO.extract (d := S ((rdShort s.text s.at_).1)) rfl rfl rfl rfl rfl (by decide) (Nat.le_of_ble_eq_true rfl) rfl rfl ?_
    refine RA.fr XK 35 3 [13] (bt 16 14335) rfl rfl (by kernel_rfl) (Tell.of rfl) ?_
    (conv=>whnf);refine ⟨rfl,fun B=>?_⟩
    exact RA.to2 hall hf hb (ro1_7 B go1_8_1) rfl rfl (by kernel_rfl)
   ·skip
    refine RO.extract (d := I ((rdShort s.text s.at_).2.1)) rfl rfl rfl rfl rfl (by decide) (Nat.le_of_ble_eq_true rfl) rfl rfl ?_
    exact RA.to2 hall hf hb (ro1_6 B go1_8_1) rfl rfl (by kernel_rfl)
  have ro1_3 : ∀ B, ∀ (go1_8_1 : Nat → Nat → Value), RA f E B all 5 (bt 16 3071) ⟨35, [(6, .tup [S ((rdShort s.text s.at_).1), .u, Bo ((rdShort s.text s.at_).2.2)]), (17, I ((rdShort s.text s.at_).2.1))] ++ b0⟩ K := by
   intro B go1_8_1
   refine RA.of2 hall hf hb (RA.stepH (L := [10, 12]) (Tell.of rfl) (by kernel_rfl) (by simp) (RA.each ?_ (RA.each ?_ (RA.each0))))
   ·skip
    refine RO.extract (d := S ((rdShort s.text s.at_).1)) rfl rfl rfl rfl rfl (by decide) (Nat.le_of_ble_eq_true rfl) rfl rfl ?_
    refine RA.fr XK 35 2 [13,14] (bt 16 28671) rfl rfl (by kernel_rfl) (Tell.of rfl) ?_
    (conv=>whnf);refine ⟨rfl,fun B=>?_⟩
    exact RA.to2 hall hf hb (ro1_8 B go1_8_1) rfl rfl (by kernel_rfl)
   ·skip
    refine RO.extract (d := Bo ((rdShort s.text s.at_).2.2)) rfl rfl rfl rfl rfl (by decide) (Nat.le_of_ble_eq_true rfl) rfl rfl ?_
    exact RA.to2 hall hf hb (ro1_6 B go1_8_1) rfl rfl (by kernel_rfl)
  have ro1_2 : ∀ B, ∀ (go1_8_1 : Nat → Nat → Value), RA f E B all 6 (bt 16 1023) ⟨35, [(6, .tup [S ((rdShort s.text s.at_).1), I ((rdShort s.text s.at_).2.1), Bo ((rdShort s.text s.at_).2.2)])] ++ b0⟩ K := by
   intro B go1_8_1
   refine RA.of2 hall hf hb (RA.stepH (L := [10, 11, 12]) (Tell.of rfl) (by kernel_rfl) (by simp) (RA.each ?_ (RA.each ?_ (RA.each ?_ (RA.each0)))))
   ·skip
    refine RO.extract (d := S ((rdShort s.text s.at_).1)) rfl rfl rfl rfl rfl (by decide) (Nat.le_of_ble_eq_true rfl) rfl rfl ?_
    refine RA.fr XK 35 4 [13] (bt 16 10239) rfl rfl (by kernel_rfl) (Tell.of rfl) ?_
    (conv=>whnf);refine ⟨rfl,fun B=>?_⟩
    exact RA.to2 hall hf hb (ro1_5 B go1_8_1) rfl rfl (by kernel_rfl)
   ·skip
    refine RO.extract (d := I ((rdShort s.text s.at_).2.1)) rfl rfl rfl rfl rfl (by decide) (Nat.le_of_ble_eq_true rfl) rfl rfl ?_
    exact RA.to2 hall hf hb (ro1_3 B go1_8_1) rfl rfl (by kernel_rfl)
   ·skip
    refine RO.extract (d := Bo ((rdShort s.text s.at_).2.2)) rfl rfl rfl rfl rfl (by decide) (Nat.le_of_ble_eq_true rfl) rfl rfl ?_
    exact RA.to2 hall hf hb (ro1_4 B go1_8_1) rfl rfl (by kernel_rfl)
  have ro1_1 : ∀ B, ∀ (go1_8_1 : Nat → Nat → Value), RA f E B all 7 (bt 16 511) ⟨35, [(15, .tup [S ((rdShort s.text s.at_).1), I ((rdShort s.text s.at_).2.1), Bo ((rdShort s.text s.at_).2.2)])] ++ b0⟩ K := by
   intro B go1_8_1
   refine RA.of2 hall hf hb (RA.stepH (L := [9]) (Tell.of rfl) (by kernel_rfl) (by simp) (RA.each ?_ (RA.each0)))
   ·skip
    refine RO.moveMove rfl rfl rfl rfl rfl (by decide) (Nat.le_of_ble_eq_true rfl) (Nat.le_of_ble_eq_true rfl) ?_
    exact RA.to2 hall hf hb (ro1_2 B go1_8_1) rfl rfl (by kernel_rfl)
  have ro1_0 : ∀ B, RA f E B all 8 (bt 16 255) ⟨35, [(10, S s.text), (14, I s.at_)] ++ b0⟩ K := by
   intro B
   refine RA.of2 hall hf hb (RA.stepH (L := [8]) (Tell.of rfl) (by kernel_rfl) (by simp) (RA.each ?_ (RA.each0)))
   ·skip
    refine RO.call rfl rfl (impl_ReadShort_fn s.text s.at_ hs.2.2) rfl (.cons (.one (.r .r)) (.cons (.one (.r .r)) (.nil))) rfl fun go1_8_1 => ?_
    exact RA.to2 hall hf hb (ro1_1 B go1_8_1) rfl rfl (by kernel_rfl)
  refine RA.start (by kernel_rfl) (by kernel_rfl) (m := 16) (ls' := (bt 16 0)) ?_
  refine RA.fr XK 35 8 [0,1,2,3,4,5,6,7] (bt 16 255) rfl rfl (by kernel_rfl) (Tell.of rfl) ?_
  (conv=>whnf);refine ⟨rfl,fun B=>?_⟩
  exact RA.to2 hall hf hb (ro1_0 B) rfl rfl (by kernel_rfl)
 ·rintro go1_8_1
  refine CW.seq ?_
  refine CW.seqJ 35 (fun (v2 : Bool) => [(0, .obj (bo 0) ((scan.c s).map .r)), (3, S ((rdShort s.text s.at_).1)), (4, I ((rdShort s.text s.at_).2.1)), (26, Bo v2)]) (fun v2 => v2 = (s.bad || (!((rdShort s.text s.at_).2.2)))) ?_ ?_
  ·refine CW.region ?_
   refine RW.k XK 35 5 rfl ?_
   (conv=>whnf);refine ⟨rfl,?_⟩
   refine RW.gv rfl rfl rfl rfl (fun h3 => V.mv (d := Bo ((rdShort s.text s.at_).2.2)) rfl rfl) (fun h3 => ?_) (fun h3 => ?_)
   ·skip
    refine RW.k XK 35 2 rfl ?_
    (conv=>whnf);refine ⟨rfl,?_⟩
    refine RW.nil ?_
    exact ⟨_, by first | rfl | (simp_all; done) | (simp_all; omega) | grind, rfl, Le.of rfl⟩
   ·skip
    refine RW.k XK 35 2 rfl ?_
    (conv=>whnf);refine ⟨rfl,?_⟩
    refine RW.nil ?_
    exact ⟨_, by first | rfl | (simp_all; done) | (simp_all; omega) | grind, rfl, Le.of rfl⟩
  ·intro v2 hv4
   refine CW.cond rfl (fun h5 => ?_) (fun h5 => ?_)
   ·skip
    have hvv := hv4.symm.trans h5
    refine CW.k XK 35 2 [0,2] rfl ?_
    (conv=>whnf);refine ⟨rfl,?_⟩
    refine CW.ret ?_
    exact Post.one (RV.s rfl (by simp only [shV]; rw [scShort, if_pos hvv])) (AOs.obE (f := fun e => (scan.c e).map .r) (e' := (⟨s.text, s.at_, true⟩ : scan)) rfl (DT.r (DT.r (DT.r DT.e))) (by simp only [shS]; rw [scShort, if_pos hvv]) AOs.e)
   ·skip
    have hvv := hv4.symm.trans h5
    refine CW.skip ?_
    refine CW.keep 35 [0,3,4] rfl ?_;(conv=>whnf);refine ⟨?_⟩
    refine CW.k XK 35 2 [0,2] rfl ?_
    (conv=>whnf);refine ⟨rfl,?_⟩
    refine CW.ret ?_
    exact Post.one (RV.s rfl (by simp only [shV]; rw [scShort, if_neg (by rw [hvv]; simp)])) (AOs.obE (f := fun e => (scan.c e).map .r) (e' := (⟨s.text, ((rdShort s.text s.at_).2.1), s.bad⟩ : scan)) rfl (DT.r (DT.r (DT.r DT.e))) (by simp only [shS]; rw [scShort, if_neg (by rw [hvv]; simp), (Bool.or_eq_false_iff.1 hvv).1]) AOs.e)
set_option maxHeartbeats 4000000 in
theorem __impl_scan__one_fn (s : scan) (hs : s.ok) : Eng.Fn E.P 87 [.ob ((scan.c s).map .r)] (.one (.one (.w (.v (.int .i64 (oneV s)))))) [.ob ((scan.c (oneS s)).map .r)] := by
 refine Eng.Fn.intro (E := E) (rvs := [.tmp 2]) Tryd.func87 rfl rfl rfl (by simp [outSlots, moved, rvSlot, sl]) ?_
 intro B g bo
 refine CW.keep 40 [0] rfl ?_;(conv=>whnf);refine ⟨?_⟩
 refine CW.k XK 40 1 [0] rfl ?_
 (conv=>whnf);refine ⟨rfl,?_⟩
 refine CW.seq ?_
 refine CW.seqJ 40 (fun (v1 : Bool) => [(0, .obj (bo 0) ((scan.c s).map .r)), (18, Bo v1)]) (fun v1 => v1 = (s.bad || decide (s.at_ ≥ (s.text.size : Int)))) ?_ ?_
 ·refine CW.drawn (by kernel_rfl) ?_
  refine RQ.k XK 40 5 rfl ?_
  (conv=>whnf);refine ⟨rfl,?_⟩
  refine RQ.gv rfl rfl rfl rfl (fun h2 => V.mv (d := .pt 0 (bo 0) 0) rfl rfl) (fun h2 => ?_) (fun h2 => ?_)
  ·skip
   refine RQ.k XK 40 10 rfl ?_
   (conv=>whnf);refine ⟨rfl,?_⟩
   refine RQ.nil ?_
   exact ⟨_, by first | rfl | (simp_all; done) | (simp_all; omega) | grind, rfl, Le.of rfl⟩
  ·skip
   refine RQ.k XK 40 10 rfl ?_
   (conv=>whnf);refine ⟨rfl,?_⟩
   refine RQ.nil ?_
   exact ⟨_, by first | rfl | (simp_all; done) | (simp_all; omega) | grind, rfl, Le.of rfl⟩
 ·intro v1 hv3
  refine CW.cond rfl (fun h4 => ?_) (fun h4 => ?_)
  ·skip
   have hvv := hv3.symm.trans h4
   refine CW.k XK 40 2 [0,2] rfl ?_
   (conv=>whnf);refine ⟨rfl,?_⟩
   refine CW.ret ?_
   exact Post.one (RV.i rfl (by simp only [oneV]; rw [scOne, if_pos hvv])) (AOs.obE (f := fun e => (scan.c e).map .r) (e' := (⟨s.text, s.at_, true⟩ : scan)) rfl (DT.r (DT.r (DT.r DT.e))) (by simp only [oneS]; rw [scOne, if_pos hvv]) AOs.e)
  ·skip
   have hvv := hv3.symm.trans h4
   refine CW.skip ?_
   refine CW.keep 40 [0] rfl ?_;(conv=>whnf);refine ⟨?_⟩
   refine CW.k XK 40 1 [0] rfl ?_
   (conv=>whnf);refine ⟨rfl,?_⟩
   refine CW.seq ?_
   refine CW.drawn (by kernel_rfl) ?_
   refine RQ.k XK 40 9 rfl ?_
   (conv=>whnf);refine ⟨rfl,?_⟩
   refine RQ.v rfl (V.idxStrZ (m := s.at_.toNat) rfl (by kernel_rfl) rfl rfl (one_ix hs) (one_lt hs hvv)) ?_
   refine RQ.k XK 40 2 rfl ?_
   (conv=>whnf);refine ⟨rfl,?_⟩
   refine RQ.nil ?_
   refine CW.keep 40 [0,2] rfl ?_;(conv=>whnf);refine ⟨?_⟩
   refine CW.ret ?_
   exact Post.one (RV.i rfl (by simp only [oneV]; rw [scOne, if_neg (by rw [hvv]; simp)])) (AOs.obE (f := fun e => (scan.c e).map .r) (e' := (⟨s.text, (IntKind.i64.wrap (s.at_ + 1)), s.bad⟩ : scan)) rfl (DT.r (DT.r (DT.r DT.e))) (by exact oneS_go hs hvv) AOs.e)
set_option maxHeartbeats 4000000 in
theorem __impl_scan__done_fn (s : scan) : Eng.Fn E.P 90 [.one (.r (.f none (scan.c s)))] (.one (.one (.w (.v (.bool (doneB s)))))) [.one (.r (.f none (scan.c s)))] := by
 refine Eng.Fn.intro (E := E) (rvs := [.tmp 2]) Tryd.func90 rfl rfl rfl (by simp [outSlots, moved, rvSlot, sl]) ?_
 intro B g bo
 refine CW.asRp 0 rfl ?_
 refine CW.keep 20 [0] rfl ?_;(conv=>whnf);refine ⟨?_⟩
 refine CW.k XK 20 1 [0] rfl ?_
 (conv=>whnf);refine ⟨rfl,?_⟩
 refine CW.seqJ 20 (fun (v1 : Bool) => [(2, Bo v1)]) (fun v1 => v1 = ((!s.bad) && (s.at_ == (s.text.size : Int)))) ?_ ?_
 ·refine CW.drawn (by kernel_rfl) ?_
  refine RQ.k XK 20 6 rfl ?_
  (conv=>whnf);refine ⟨rfl,?_⟩
  refine RQ.gv rfl rfl rfl rfl (fun h2 => V.mv (d := .rp (scan.c s)) rfl rfl) (fun h2 => ?_) (fun h2 => ?_)
  ·skip
   refine RQ.k XK 20 11 rfl ?_
   (conv=>whnf);refine ⟨rfl,?_⟩
   refine RQ.nil ?_
   exact ⟨_, by first | rfl | (simp_all; done) | (simp_all; omega) | grind, rfl, Le.of rfl⟩
  ·skip
   refine RQ.k XK 20 11 rfl ?_
   (conv=>whnf);refine ⟨rfl,?_⟩
   refine RQ.nil ?_
   exact ⟨_, by first | rfl | (simp_all; done) | (simp_all; omega) | grind, rfl, Le.of rfl⟩
 ·intro v1 hv3
  refine CW.ret ?_
  exact Post.one (RV.b rfl (by simp_all [doneB])) (AOs.r AOs.e)
set_option maxHeartbeats 4000000 in
theorem impl_ReadCommand_fn (t : ByteArray) (ht : t.size ≤ 1048576) : Eng.Fn E.P 67 [.one (.r (.v (.string t)))] (.tup [.agg ((Command.c ((rdCmd t).1)).map .w), .one (.w (.v (.bool ((rdCmd t).2))))]) [.one (.r (.v (.string t)))] := by
 refine Eng.Fn.intro (E := E) (rvs := [.cell 2 38, .tmp 3]) Tryd.func67 rfl rfl rfl (by simp [outSlots, moved, rvSlot, sl]) ?_
 intro B g bo
 refine CW.keep 38 [0] rfl ?_;(conv=>whnf);refine ⟨?_⟩
 refine CW.k XK 38 3 [2,4,5,8] rfl ?_
 (conv=>whnf);intro b1;(conv=>whnf);intro b2;(conv=>whnf);intro b3;(conv=>whnf);refine ⟨rfl,?_⟩
 refine CW.seq ?_
 refine CW.region ?_
 refine RW.k XK 38 1 rfl ?_
 (conv=>whnf);refine ⟨rfl,?_⟩
 refine RW.callP (k := 8) (__impl_scan__one_fn (⟨t, 0, false⟩ : scan) (scan.ok0 ht)) rfl rfl (Nat.le_of_ble_eq_true rfl) (by decide) rfl (DT.r (DT.r (DT.r DT.e))) (AsPs.here rfl (.nil)) fun g4 q5 => ?_
 refine RW.k XK 38 2 rfl ?_
 (conv=>whnf);refine ⟨rfl,?_⟩
 refine RW.nil ?_
 refine CW.keep 38 [2,4,5,8] rfl ?_;(conv=>whnf);refine ⟨?_⟩
 refine CW.seq ?_
 refine CW.region ?_
 refine RW.k XK 38 1 rfl ?_
 (conv=>whnf);refine ⟨rfl,?_⟩
 refine RW.callP (k := 8) (__impl_scan__number_fn (oneS (⟨t, 0, false⟩ : scan)) (oneS_ok (scan.ok0 ht))) rfl rfl (Nat.le_of_ble_eq_true rfl) (by decide) rfl (DT.r (DT.r (DT.r DT.e))) (AsPs.here rfl (.nil)) fun g6 q7 => ?_
 refine RW.k XK 38 2 rfl ?_
 (conv=>whnf);refine ⟨rfl,?_⟩
 refine RW.nil ?_
 refine CW.keep 38 [2,4,5,8] rfl ?_;(conv=>whnf);refine ⟨?_⟩
 refine CW.seq ?_
 refine CW.region ?_
 refine RW.k XK 38 1 rfl ?_
 (conv=>whnf);refine ⟨rfl,?_⟩
 refine RW.callP (k := 8) (__impl_scan__number_fn (numS (oneS (⟨t, 0, false⟩ : scan))) (numS_ok (oneS_ok (scan.ok0 ht)))) rfl rfl (Nat.le_of_ble_eq_true rfl) (by decide) rfl (DT.r (DT.r (DT.r DT.e))) (AsPs.here rfl (.nil)) fun g8 q9 => ?_
 refine RW.k XK 38 2 rfl ?_
 (conv=>whnf);refine ⟨rfl,?_⟩
 refine RW.nil ?_
 refine CW.keep 38 [2,4,5,8] rfl ?_;(conv=>whnf);refine ⟨?_⟩
 refine CW.seq ?_
 refine CW.region ?_
 refine RW.k XK 38 1 rfl ?_
 (conv=>whnf);refine ⟨rfl,?_⟩
 refine RW.callP (k := 8) (__impl_scan__short_fn (numS (numS (oneS (⟨t, 0, false⟩ : scan)))) (numS_ok (numS_ok (oneS_ok (scan.ok0 ht))))) rfl rfl (Nat.le_of_ble_eq_true rfl) (by decide) rfl (DT.r (DT.r (DT.r DT.e))) (AsPs.here rfl (.nil)) fun g10 q11 => ?_
 refine RW.k XK 38 2 rfl ?_
 (conv=>whnf);refine ⟨rfl,?_⟩
 refine RW.nil ?_
 refine CW.keep 38 [2,4,5,8] rfl ?_;(conv=>whnf);refine ⟨?_⟩
 refine CW.seq ?_
 refine CW.region ?_
 refine RW.k XK 38 1 rfl ?_
 (conv=>whnf);refine ⟨rfl,?_⟩
 refine RW.callP (k := 8) (__impl_scan__short_fn (shS (numS (numS (oneS (⟨t, 0, false⟩ : scan))))) (shS_ok (numS_ok (numS_ok (oneS_ok (scan.ok0 ht)))))) rfl rfl (Nat.le_of_ble_eq_true rfl) (by decide) rfl (DT.r (DT.r (DT.r DT.e))) (AsPs.here rfl (.nil)) fun g12 q13 => ?_
 refine RW.k XK 38 2 rfl ?_
 (conv=>whnf);refine ⟨rfl,?_⟩
 refine RW.nil ?_
 refine CW.keep 38 [2,4,5,8] rfl ?_;(conv=>whnf);refine ⟨?_⟩
 refine CW.seq ?_
 refine CW.region ?_
 refine RW.k XK 38 1 rfl ?_
 (conv=>whnf);refine ⟨rfl,?_⟩
 refine RW.callP (k := 8) (__impl_scan__number_fn (shS (shS (numS (numS (oneS (⟨t, 0, false⟩ : scan)))))) (shS_ok (shS_ok (numS_ok (numS_ok (oneS_ok (scan.ok0 ht))))))) rfl rfl (Nat.le_of_ble_eq_true rfl) (by decide) rfl (DT.r (DT.r (DT.r DT.e))) (AsPs.here rfl (.nil)) fun g14 q15 => ?_
 refine RW.k XK 38 2 rfl ?_
 (conv=>whnf);refine ⟨rfl,?_⟩
 refine RW.nil ?_
 refine CW.keep 38 [2,4,5,8] rfl ?_;(conv=>whnf);refine ⟨?_⟩
 refine CW.seq ?_
 refine CW.seqJ 38 (fun (v16 : Bool) => [(2, .obj b1 [I 0, I 0, I 0, S (⟨#[]⟩), S (⟨#[]⟩), I 0]), (5, .obj b3 [I (oneV (⟨t, 0, false⟩ : scan)), I (numV (oneS (⟨t, 0, false⟩ : scan))), I (numV (numS (oneS (⟨t, 0, false⟩ : scan)))), S (shV (numS (numS (oneS (⟨t, 0, false⟩ : scan))))), S (shV (shS (numS (numS (oneS (⟨t, 0, false⟩ : scan)))))), I (numV (shS (shS (numS (numS (oneS (⟨t, 0, false⟩ : scan)))))))]), (35, Bo v16)]) (fun v16 => v16 = ((!(doneB (numS (shS (shS (numS (numS (oneS (⟨t, 0, false⟩ : scan))))))))) || (!(cmdOk (⟨(oneV (⟨t, 0, false⟩ : scan)), (numV (oneS (⟨t, 0, false⟩ : scan))), (numV (numS (oneS (⟨t, 0, false⟩ : scan)))), (shV (numS (numS (oneS (⟨t, 0, false⟩ : scan))))), (shV (shS (numS (numS (oneS (⟨t, 0, false⟩ : scan)))))), (numV (shS (shS (numS (numS (oneS (⟨t, 0, false⟩ : scan)))))))⟩ : Command))))) ?_ ?_
 ·refine CW.region ?_
  refine RW.k XK 38 1 rfl ?_
  (conv=>whnf);refine ⟨rfl,?_⟩
  refine RW.callOwn rfl (__impl_scan__done_fn (numS (shS (shS (numS (numS (oneS (⟨t, 0, false⟩ : scan)))))))) rfl (.cons (.one (.r (.pt rfl rfl (DRd.r (DRd.r (DRd.r DRd.e))) nofun))) (.nil)) rfl fun g17 => ?_
  refine RW.k XK 38 2 rfl ?_
  (conv=>whnf);refine ⟨rfl,?_⟩
  refine RW.gv rfl rfl rfl rfl (fun h18 => V.loadAgg rfl rfl rfl rfl rfl (Nat.le_of_ble_eq_true rfl)) (fun h18 => ?_) (fun h18 => ?_)
  ·skip
   refine RW.gcall rfl rfl rfl rfl (impl_CommandOk_fn (⟨(oneV (⟨t, 0, false⟩ : scan)), (numV (oneS (⟨t, 0, false⟩ : scan))), (numV (numS (oneS (⟨t, 0, false⟩ : scan)))), (shV (numS (numS (oneS (⟨t, 0, false⟩ : scan))))), (shV (shS (numS (numS (oneS (⟨t, 0, false⟩ : scan)))))), (numV (shS (shS (numS (numS (oneS (⟨t, 0, false⟩ : scan)))))))⟩ : Command)) rfl (.cons (.agg (.cons (.r .r) (.cons (.r .r) (.cons (.r .r) (.cons (.r .r) (.cons (.r .r) (.cons (.r .r) (.nil)))))))) (.nil)) fun g19 => ?_
   refine RW.k XK 38 2 rfl ?_
   (conv=>whnf);refine ⟨rfl,?_⟩
   refine RW.nil ?_
   exact ⟨_, by first | rfl | (simp_all; done) | (simp_all; omega) | grind, rfl, Le.of rfl⟩
  ·skip
   refine RW.k XK 38 3 rfl ?_
   (conv=>whnf);refine ⟨rfl,?_⟩
   refine RW.nil ?_
   exact ⟨_, by first | rfl | (simp_all; done) | (simp_all; omega) | grind, rfl, Le.of rfl⟩
 ·intro v16 hv20
  refine CW.cond rfl (fun h21 => ?_) (fun h21 => ?_)
  ·skip
   have hvv := hv20.symm.trans h21
   refine CW.k XK 38 1 [2,3] rfl ?_
   (conv=>whnf);refine ⟨rfl,?_⟩
   refine CW.ret ?_
   exact Post.tup (by decide) (RVs.c (RV.c (f := fun e => (Command.c e).map .w) (e' := (⟨0, 0, 0, ⟨#[]⟩, ⟨#[]⟩, 0⟩ : Command)) rfl rfl rfl rfl (DT.v (DT.v (DT.v (DT.v (DT.v (DT.v DT.e)))))) (by rw [rdCmd_no hvv] <;> rfl)) (RVs.c (RV.b rfl (by rw [rdCmd_no hvv] <;> rfl)) RVs.e)) (AOs.r AOs.e)
  ·skip
   have hvv := hv20.symm.trans h21
   refine CW.skip ?_
   refine CW.keep 38 [2,5] rfl ?_;(conv=>whnf);refine ⟨?_⟩
   refine CW.k XK 38 1 [2,3] rfl ?_
   (conv=>whnf);refine ⟨rfl,?_⟩
   refine CW.ret ?_
   exact Post.tup (by decide) (RVs.c (RV.c (f := fun e => (Command.c e).map .w) (e' := (⟨(oneV (⟨t, 0, false⟩ : scan)), (numV (oneS (⟨t, 0, false⟩ : scan))), (numV (numS (oneS (⟨t, 0, false⟩ : scan)))), (shV (numS (numS (oneS (⟨t, 0, false⟩ : scan))))), (shV (shS (numS (numS (oneS (⟨t, 0, false⟩ : scan)))))), (numV (shS (shS (numS (numS (oneS (⟨t, 0, false⟩ : scan)))))))⟩ : Command)) rfl rfl rfl rfl (DT.v (DT.v (DT.v (DT.v (DT.v (DT.v DT.e)))))) (by rw [rdCmd_yes hvv] <;> rfl)) (RVs.c (RV.b rfl (by rw [rdCmd_yes hvv] <;> rfl)) RVs.e)) (AOs.r AOs.e)
set_option maxHeartbeats 4000000 in
theorem spec_l16Short_fn (s : ByteArray) (hs : s.size ≤ 1048576) : Eng.Fn E.P 86 [.one (.r (.v (.string s)))] (.one (.one (.w (.v (.string (shB s)))))) [.one (.r (.v (.string s)))] := by
 refine Eng.Fn.intro (E := E) (rvs := [.tmp 2]) Tryd.func86 rfl rfl rfl (by simp [outSlots, moved, rvSlot, sl]) ?_
 intro B g bo
 refine CW.keep 8 [0] rfl ?_;(conv=>whnf);refine ⟨?_⟩
 refine CW.k XK 8 1 [0] rfl ?_
 (conv=>whnf);refine ⟨rfl,?_⟩
 refine CW.seq ?_
 refine CW.region ?_
 refine RW.k XK 8 2 rfl ?_
 (conv=>whnf);refine ⟨rfl,?_⟩
 refine RW.call rfl (spec_l01Var_fn (s.size : Int) ⟨by omega, by omega⟩) rfl (.cons (.one (.r .r)) (.nil)) fun g1 => ?_
 refine RW.k XK 8 1 rfl ?_
 (conv=>whnf);refine ⟨rfl,?_⟩
 refine RW.v rfl (V.cat rfl rfl rfl (by have h9 := varB_len9 (n := s.size) (by omega); simp only [maxLen, Int.toNat_natCast]; omega)) ?_
 refine RW.k XK 8 1 rfl ?_
 (conv=>whnf);refine ⟨rfl,?_⟩
 refine RW.nil ?_
 refine CW.keep 8 [2] rfl ?_;(conv=>whnf);refine ⟨?_⟩
 refine CW.ret ?_
 exact Post.one (RV.s rfl (by rfl)) (AOs.r AOs.e)
set_option maxHeartbeats 4000000 in
theorem spec_CommandText_fn (x : Command) : Eng.Fn E.P 64 [.agg ((Command.c x).map .r)] (.tup [.one (.w (.v (.string ((cmdT x).1)))), .one (.w (.v (.bool ((cmdT x).2))))]) [.agg ((Command.c x).map .r)] := by
 refine Eng.Fn.intro (E := E) (rvs := [.tmp 2, .tmp 3]) Tryd.func64 rfl rfl rfl (by simp [outSlots, moved, rvSlot, sl]) ?_
 intro B g bo
 refine CW.keep 32 [0] rfl ?_;(conv=>whnf);refine ⟨?_⟩
 refine CW.seq ?_
 refine CW.region ?_
 refine RW.k XK 32 1 rfl ?_
 (conv=>whnf);intro b1;(conv=>whnf);refine ⟨rfl,?_⟩
 refine RW.freezeB (ts := (Command.c x)) 1 rfl (DRd.r (DRd.r (DRd.r (DRd.r (DRd.r (DRd.r DRd.e)))))) ?_
 refine RW.k XK 32 2 rfl ?_
 (conv=>whnf);refine ⟨rfl,?_⟩
 refine RW.nil ?_
 refine CW.keep 32 [1] rfl ?_;(conv=>whnf);refine ⟨?_⟩
 refine CW.seq ?_
 refine CW.seq ?_
 refine CW.region ?_
 refine RW.k XK 32 1 rfl ?_
 (conv=>whnf);refine ⟨rfl,?_⟩
 refine RW.call rfl (spec_CommandOk_fn x) rfl (.cons (.agg (.cons (.r .r) (.cons (.r .r) (.cons (.r .r) (.cons (.r .r) (.cons (.r .r) (.cons (.r .r) (.nil)))))))) (.nil)) fun g2 => ?_
 refine RW.k XK 32 1 rfl ?_
 (conv=>whnf);refine ⟨rfl,?_⟩
 refine RW.nil ?_
 refine CW.keep 32 [1,6] rfl ?_;(conv=>whnf);refine ⟨?_⟩
 refine CW.cond rfl (fun h3 => ?_) (fun h3 => ?_)
 ·skip
  refine CW.k XK 32 1 [2,3] rfl ?_
  (conv=>whnf);refine ⟨rfl,?_⟩
  refine CW.ret ?_
  exact Post.tup (by decide) (RVs.c (RV.s rfl (by rw [cmdT, if_neg (by rw [nT h3]; simp)] <;> rfl)) (RVs.c (RV.b rfl (by rw [cmdT, if_neg (by rw [nT h3]; simp)] <;> rfl)) RVs.e)) (AOs.a rfl AOs.e)
 ·skip
  have cin := CSz.of (nF h3)
  refine CW.skip ?_
  refine CW.keep 32 [1] rfl ?_;(conv=>whnf);refine ⟨?_⟩
  refine CW.anyJ2 (fc := []) (L0 := []) 32 (fun (zz : Value × (Nat → Nat → Value) × (Nat → Nat → Value) × (Nat → Nat → Value) × (Nat → Nat → Value) × (Nat → Nat → Value)) => match zz with | (Xo4_3_1, go4_11_1, go4_15_1, go4_19_1, go4_23_1, go4_7_1) => [(2, S ((((((bytesOf ([(IntKind.u8.wrap x.op)])) ++ (varB x.token.toNat)) ++ (varB x.seq.toNat)) ++ (shB x.key)) ++ (shB x.val)) ++ (varB x.ver.toNat))), (3, Bo true)]) (fun all hall f hf b0 hb K hK => ?_) ?_
  ·skip
   have ro4_17 : ∀ B, ∀ (Xo4_3_1 : Value), ∀ (go4_11_1 : Nat → Nat → Value), ∀ (go4_15_1 : Nat → Nat → Value), ∀ (go4_19_1 : Nat → Nat → Value), ∀ (go4_23_1 : Nat → Nat → Value), ∀ (go4_7_1 : Nat → Nat → Value), RA f E B all 0 (bt 27 134217727) ⟨32, [(2, S ((((((bytesOf ([(IntKind.u8.wrap x.op)])) ++ (varB x.token.toNat)) ++ (varB x.seq.toNat)) ++ (shB x.key)) ++ (shB x.val)) ++ (varB x.ver.toNat))), (3, Bo true)] ++ b0⟩ K := by
    intro B Xo4_3_1 go4_11_1 go4_15_1 go4_19_1 go4_23_1 go4_7_1
    exact RA.of2 hall hf hb (RA.finH (Tell.of rfl) (by kernel_rfl) (hK (Xo4_3_1, go4_11_1, go4_15_1, go4_19_1, go4_23_1, go4_7_1) _ rfl (Le.of rfl)))
   have ro4_16 : ∀ B, ∀ (Xo4_3_1 : Value), ∀ (go4_11_1 : Nat → Nat → Value), ∀ (go4_15_1 : Nat → Nat → Value), ∀ (go4_19_1 : Nat → Nat → Value), ∀ (go4_7_1 : Nat → Nat → Value), RA f E B all 4 (bt 27 8388607) ⟨32, [(27, S (((((bytesOf ([(IntKind.u8.wrap x.op)])) ++ (varB x.token.toNat)) ++ (varB x.seq.toNat)) ++ (shB x.key)) ++ (shB x.val))), (29, I x.ver)] ++ b0⟩ K := by
    intro B Xo4_3_1 go4_11_1 go4_15_1 go4_19_1 go4_7_1
    refine RA.of2 hall hf hb (RA.stepH (L := [23]) (Tell.of rfl) (by kernel_rfl) (by simp) (RA.each ?_ (RA.each0)))
    ·skip
     refine RO.call rfl rfl (spec_l01Var_fn x.ver (by first | exact cin.t | exact cin.s | exact cin.v)) rfl (.cons (.one (.r .r)) (.nil)) rfl fun go4_23_1 => ?_
     refine RA.first (i := 24) (ls' := (bt 27 33554431)) (Tell.of rfl) (by kernel_rfl) rfl rfl rfl (VF.p (V.cat rfl rfl rfl (by have z1 := cin.zt; have z2 := cin.zs; have z3 := cin.zv; have z4 := cin.zk; have z5 := cin.zl; have z6 : ∀ q : Int, (bytesOf [q]).size = 1 := fun q => rfl; simp only [ByteArray.size_append, maxLen, z6]; omega))) ?_
     refine RA.fr XK 32 0 [25,26] (bt 27 134217727) rfl rfl (by kernel_rfl) (Tell.of rfl) ?_
     (conv=>whnf);refine ⟨rfl,fun B=>?_⟩
     exact RA.to2 hall hf hb (ro4_17 B Xo4_3_1 go4_11_1 go4_15_1 go4_19_1 go4_23_1 go4_7_1) rfl rfl (by kernel_rfl)
   have ro4_15 : ∀ B, ∀ (Xo4_3_1 : Value), ∀ (go4_11_1 : Nat → Nat → Value), ∀ (go4_15_1 : Nat → Nat → Value), ∀ (go4_7_1 : Nat → Nat → Value), RA f E B all 6 (bt 27 6815743) ⟨32, [(23, S ((((bytesOf ([(IntKind.u8.wrap x.op)])) ++ (varB x.token.toNat)) ++ (varB x.seq.toNat)) ++ (shB x.key))), (25, S x.val), (29, I x.ver)] ++ b0⟩ K := by
    intro B Xo4_3_1 go4_11_1 go4_15_1 go4_7_1
    refine RA.of2 hall hf hb (RA.stepH (L := [19]) (Tell.of rfl) (by kernel_rfl) (by simp) (RA.each ?_ (RA.each0)))
    ·skip
     refine RO.call rfl rfl (spec_l16Short_fn x.val (by first | exact cin.k | exact cin.l)) rfl (.cons (.one (.r .r)) (.nil)) rfl fun go4_19_1 => ?_
     refine RA.first (i := 20) (ls' := (bt 27 8388607)) (Tell.of rfl) (by kernel_rfl) rfl rfl rfl (VF.p (V.cat rfl rfl rfl (by have z1 := cin.zt; have z2 := cin.zs; have z3 := cin.zv; have z4 := cin.zk; have z5 := cin.zl; have z6 : ∀ q : Int, (bytesOf [q]).size = 1 := fun q => rfl; simp only [ByteArray.size_append, maxLen, z6]; omega))) ?_
     exact RA.to2 hall hf hb (ro4_16 B Xo4_3_1 go4_11_1 go4_15_1 go4_19_1 go4_7_1) rfl rfl (by kernel_rfl)
   have ro4_14 : ∀ B, ∀ (Xo4_3_1 : Value), ∀ (go4_11_1 : Nat → Nat → Value), ∀ (go4_15_1 : Nat → Nat → Value), ∀ (go4_19_1 : Nat → Nat → Value), ∀ (go4_23_1 : Nat → Nat → Value), ∀ (go4_7_1 : Nat → Nat → Value), RA f E B all 8 (bt 27 15658735) ⟨32, [(10, .w (sl 1 cU ([(IntKind.u8.wrap x.op)])) Xo4_3_1), (14, S (varB x.token.toNat)), (18, S (varB x.seq.toNat)), (22, S (shB x.key)), (26, S (shB x.val)), (30, S (varB x.ver.toNat))] ++ b0⟩ K := by
    intro B Xo4_3_1 go4_11_1 go4_15_1 go4_19_1 go4_23_1 go4_7_1
    refine RA.of2 hall hf hb (RA.stepH (L := [4]) (Tell.of rfl) (by kernel_rfl) (by simp) (RA.each ?_ (RA.each0)))
    ·skip
     refine RO.v rfl rfl (V.bytesStr (l := [(IntKind.u8.wrap x.op)]) rfl rfl rfl (by kernel_rfl) (by kernel_rfl) (.al (k := none) (i := 10) (sz := 1) (V := Xo4_3_1) rfl rfl nofun)) rfl ?_
     refine RA.first (i := 8) (ls' := (bt 27 15659007)) (Tell.of rfl) (by kernel_rfl) rfl rfl rfl (VF.p (V.cat rfl rfl rfl (by have z1 := cin.zt; have z2 := cin.zs; have z3 := cin.zv; have z4 := cin.zk; have z5 := cin.zl; have z6 : ∀ q : Int, (bytesOf [q]).size = 1 := fun q => rfl; simp only [ByteArray.size_append, maxLen, z6]; omega))) ?_
     refine RA.first (i := 12) (ls' := (bt 27 15663103)) (Tell.of rfl) (by kernel_rfl) rfl rfl rfl (VF.p (V.cat rfl rfl rfl (by have z1 := cin.zt; have z2 := cin.zs; have z3 := cin.zv; have z4 := cin.zk; have z5 := cin.zl; have z6 : ∀ q : Int, (bytesOf [q]).size = 1 := fun q => rfl; simp only [ByteArray.size_append, maxLen, z6]; omega))) ?_
     refine RA.first (i := 16) (ls' := (bt 27 15728639)) (Tell.of rfl) (by kernel_rfl) rfl rfl rfl (VF.p (V.cat rfl rfl rfl (by have z1 := cin.zt; have z2 := cin.zs; have z3 := cin.zv; have z4 := cin.zk; have z5 := cin.zl; have z6 : ∀ q : Int, (bytesOf [q]).size = 1 := fun q => rfl; simp only [ByteArray.size_append, maxLen, z6]; omega))) ?_
     refine RA.first (i := 20) (ls' := (bt 27 16777215)) (Tell.of rfl) (by kernel_rfl) rfl rfl rfl (VF.p (V.cat rfl rfl rfl (by have z1 := cin.zt; have z2 := cin.zs; have z3 := cin.zv; have z4 := cin.zk; have z5 := cin.zl; have z6 : ∀ q : Int, (bytesOf [q]).size = 1 := fun q => rfl; simp only [ByteArray.size_append, maxLen, z6]; omega))) ?_
     refine RA.first (i := 24) (ls' := (bt 27 33554431)) (Tell.of rfl) (by kernel_rfl) rfl rfl rfl (VF.p (V.cat rfl rfl rfl (by have z1 := cin.zt; have z2 := cin.zs; have z3 := cin.zv; have z4 := cin.zk; have z5 := cin.zl; have z6 : ∀ q : Int, (bytesOf [q]).size = 1 := fun q => rfl; simp only [ByteArray.size_append, maxLen, z6]; omega))) ?_
     refine RA.fr XK 32 0 [25,26] (bt 27 134217727) rfl rfl (by kernel_rfl) (Tell.of rfl) ?_
     (conv=>whnf);refine ⟨rfl,fun B=>?_⟩
     exact RA.to2 hall hf hb (ro4_17 B Xo4_3_1 go4_11_1 go4_15_1 go4_19_1 go4_23_1 go4_7_1) rfl rfl (by kernel_rfl)
   have ro4_13 : ∀ B, ∀ (Xo4_3_1 : Value), ∀ (go4_11_1 : Nat → Nat → Value), ∀ (go4_7_1 : Nat → Nat → Value), RA f E B all 8 (bt 27 6717439) ⟨32, [(19, S (((bytesOf ([(IntKind.u8.wrap x.op)])) ++ (varB x.token.toNat)) ++ (varB x.seq.toNat))), (21, S x.key), (25, S x.val), (29, I x.ver)] ++ b0⟩ K := by
    intro B Xo4_3_1 go4_11_1 go4_7_1
    refine RA.of2 hall hf hb (RA.stepH (L := [15]) (Tell.of rfl) (by kernel_rfl) (by simp) (RA.each ?_ (RA.each0)))
    ·skip
     refine RO.call rfl rfl (spec_l16Short_fn x.key (by first | exact cin.k | exact cin.l)) rfl (.cons (.one (.r .r)) (.nil)) rfl fun go4_15_1 => ?_
     refine RA.first (i := 16) (ls' := (bt 27 6815743)) (Tell.of rfl) (by kernel_rfl) rfl rfl rfl (VF.p (V.cat rfl rfl rfl (by have z1 := cin.zt; have z2 := cin.zs; have z3 := cin.zv; have z4 := cin.zk; have z5 := cin.zl; have z6 : ∀ q : Int, (bytesOf [q]).size = 1 := fun q => rfl; simp only [ByteArray.size_append, maxLen, z6]; omega))) ?_
     exact RA.to2 hall hf hb (ro4_15 B Xo4_3_1 go4_11_1 go4_15_1 go4_7_1) rfl rfl (by kernel_rfl)
   have ro4_12 : ∀ B, ∀ (go4_11_1 : Nat → Nat → Value), ∀ (go4_15_1 : Nat → Nat → Value), ∀ (go4_19_1 : Nat → Nat → Value), ∀ (go4_23_1 : Nat → Nat → Value), ∀ (go4_7_1 : Nat → Nat → Value), RA f E B all 9 (bt 27 15658727) ⟨32, [(9, .r (.v (.int .u8 (IntKind.u8.wrap x.op)))), (14, S (varB x.token.toNat)), (18, S (varB x.seq.toNat)), (22, S (shB x.key)), (26, S (shB x.val)), (30, S (varB x.ver.toNat))] ++ b0⟩ K := by
    intro B go4_11_1 go4_15_1 go4_19_1 go4_23_1 go4_7_1
    refine RA.of2 hall hf hb (RA.stepH (L := [3]) (Tell.of rfl) (by kernel_rfl) (by simp) (RA.each ?_ (RA.each0)))
    ·skip
     refine RO.build1c (c := cU) (v := (IntKind.u8.wrap x.op)) (u := .v (.int .u8 (IntKind.u8.wrap x.op))) rfl rfl rfl rfl rfl rfl rfl rfl (.inl rfl) rfl rfl fun Xo4_3_1 => ?_
     exact RA.to2 hall hf hb (ro4_14 B Xo4_3_1 go4_11_1 go4_15_1 go4_19_1 go4_23_1 go4_7_1) rfl rfl (by kernel_rfl)
   have ro4_11 : ∀ B, ∀ (Xo4_3_1 : Value), ∀ (go4_11_1 : Nat → Nat → Value), ∀ (go4_15_1 : Nat → Nat → Value), ∀ (go4_19_1 : Nat → Nat → Value), ∀ (go4_7_1 : Nat → Nat → Value), RA f E B all 9 (bt 27 7270127) ⟨32, [(10, .w (sl 1 cU ([(IntKind.u8.wrap x.op)])) Xo4_3_1), (14, S (varB x.token.toNat)), (18, S (varB x.seq.toNat)), (22, S (shB x.key)), (26, S (shB x.val)), (29, I x.ver)] ++ b0⟩ K := by
    intro B Xo4_3_1 go4_11_1 go4_15_1 go4_19_1 go4_7_1
    refine RA.of2 hall hf hb (RA.stepH (L := [4, 23]) (Tell.of rfl) (by kernel_rfl) (by simp) (RA.each ?_ (RA.each ?_ (RA.each0))))
    ·skip
     refine RO.v rfl rfl (V.bytesStr (l := [(IntKind.u8.wrap x.op)]) rfl rfl rfl (by kernel_rfl) (by kernel_rfl) (.al (k := none) (i := 10) (sz := 1) (V := Xo4_3_1) rfl rfl nofun)) rfl ?_
     refine RA.first (i := 8) (ls' := (bt 27 7270399)) (Tell.of rfl) (by kernel_rfl) rfl rfl rfl (VF.p (V.cat rfl rfl rfl (by have z1 := cin.zt; have z2 := cin.zs; have z3 := cin.zv; have z4 := cin.zk; have z5 := cin.zl; have z6 : ∀ q : Int, (bytesOf [q]).size = 1 := fun q => rfl; simp only [ByteArray.size_append, maxLen, z6]; omega))) ?_
     refine RA.first (i := 12) (ls' := (bt 27 7274495)) (Tell.of rfl) (by kernel_rfl) rfl rfl rfl (VF.p (V.cat rfl rfl rfl (by have z1 := cin.zt; have z2 := cin.zs; have z3 := cin.zv; have z4 := cin.zk; have z5 := cin.zl; have z6 : ∀ q : Int, (bytesOf [q]).size = 1 := fun q => rfl; simp only [ByteArray.size_append, maxLen, z6]; omega))) ?_
     refine RA.first (i := 16) (ls' := (bt 27 7340031)) (Tell.of rfl) (by kernel_rfl) rfl rfl rfl (VF.p (V.cat rfl rfl rfl (by have z1 := cin.zt; have z2 := cin.zs; have z3 := cin.zv; have z4 := cin.zk; have z5 := cin.zl; have z6 : ∀ q : Int, (bytesOf [q]).size = 1 := fun q => rfl; simp only [ByteArray.size_append, maxLen, z6]; omega))) ?_
     refine RA.first (i := 20) (ls' := (bt 27 8388607)) (Tell.of rfl) (by kernel_rfl) rfl rfl rfl (VF.p (V.cat rfl rfl rfl (by have z1 := cin.zt; have z2 := cin.zs; have z3 := cin.zv; have z4 := cin.zk; have z5 := cin.zl; have z6 : ∀ q : Int, (bytesOf [q]).size = 1 := fun q => rfl; simp only [ByteArray.size_append, maxLen, z6]; omega))) ?_
     exact RA.to2 hall hf hb (ro4_16 B Xo4_3_1 go4_11_1 go4_15_1 go4_19_1 go4_7_1) rfl rfl (by kernel_rfl)
    ·skip
     refine RO.call rfl rfl (spec_l01Var_fn x.ver (by first | exact cin.t | exact cin.s | exact cin.v)) rfl (.cons (.one (.r .r)) (.nil)) rfl fun go4_23_1 => ?_
     exact RA.to2 hall hf hb (ro4_14 B Xo4_3_1 go4_11_1 go4_15_1 go4_19_1 go4_23_1 go4_7_1) rfl rfl (by kernel_rfl)
   have ro4_10 : ∀ B, ∀ (go4_11_1 : Nat → Nat → Value), ∀ (go4_15_1 : Nat → Nat → Value), ∀ (go4_19_1 : Nat → Nat → Value), ∀ (go4_7_1 : Nat → Nat → Value), RA f E B all 10 (bt 27 7270119) ⟨32, [(9, .r (.v (.int .u8 (IntKind.u8.wrap x.op)))), (14, S (varB x.token.toNat)), (18, S (varB x.seq.toNat)), (22, S (shB x.key)), (26, S (shB x.val)), (29, I x.ver)] ++ b0⟩ K := by
    intro B go4_11_1 go4_15_1 go4_19_1 go4_7_1
    refine RA.of2 hall hf hb (RA.stepH (L := [3, 23]) (Tell.of rfl) (by kernel_rfl) (by simp) (RA.each ?_ (RA.each ?_ (RA.each0))))
    ·skip
     refine RO.build1c (c := cU) (v := (IntKind.u8.wrap x.op)) (u := .v (.int .u8 (IntKind.u8.wrap x.op))) rfl rfl rfl rfl rfl rfl rfl rfl (.inl rfl) rfl rfl fun Xo4_3_1 => ?_
     exact RA.to2 hall hf hb (ro4_11 B Xo4_3_1 go4_11_1 go4_15_1 go4_19_1 go4_7_1) rfl rfl (by kernel_rfl)
    ·skip
     refine RO.call rfl rfl (spec_l01Var_fn x.ver (by first | exact cin.t | exact cin.s | exact cin.v)) rfl (.cons (.one (.r .r)) (.nil)) rfl fun go4_23_1 => ?_
     exact RA.to2 hall hf hb (ro4_12 B go4_11_1 go4_15_1 go4_19_1 go4_23_1 go4_7_1) rfl rfl (by kernel_rfl)
   have ro4_9 : ∀ B, ∀ (Xo4_3_1 : Value), ∀ (go4_11_1 : Nat → Nat → Value), ∀ (go4_15_1 : Nat → Nat → Value), ∀ (go4_7_1 : Nat → Nat → Value), RA f E B all 10 (bt 27 6745839) ⟨32, [(10, .w (sl 1 cU ([(IntKind.u8.wrap x.op)])) Xo4_3_1), (14, S (varB x.token.toNat)), (18, S (varB x.seq.toNat)), (22, S (shB x.key)), (25, S x.val), (29, I x.ver)] ++ b0⟩ K := by
    intro B Xo4_3_1 go4_11_1 go4_15_1 go4_7_1
    refine RA.of2 hall hf hb (RA.stepH (L := [4, 19]) (Tell.of rfl) (by kernel_rfl) (by simp) (RA.each ?_ (RA.each ?_ (RA.each0))))
    ·skip
     refine RO.v rfl rfl (V.bytesStr (l := [(IntKind.u8.wrap x.op)]) rfl rfl rfl (by kernel_rfl) (by kernel_rfl) (.al (k := none) (i := 10) (sz := 1) (V := Xo4_3_1) rfl rfl nofun)) rfl ?_
     refine RA.first (i := 8) (ls' := (bt 27 6746111)) (Tell.of rfl) (by kernel_rfl) rfl rfl rfl (VF.p (V.cat rfl rfl rfl (by have z1 := cin.zt; have z2 := cin.zs; have z3 := cin.zv; have z4 := cin.zk; have z5 := cin.zl; have z6 : ∀ q : Int, (bytesOf [q]).size = 1 := fun q => rfl; simp only [ByteArray.size_append, maxLen, z6]; omega))) ?_
     refine RA.first (i := 12) (ls' := (bt 27 6750207)) (Tell.of rfl) (by kernel_rfl) rfl rfl rfl (VF.p (V.cat rfl rfl rfl (by have z1 := cin.zt; have z2 := cin.zs; have z3 := cin.zv; have z4 := cin.zk; have z5 := cin.zl; have z6 : ∀ q : Int, (bytesOf [q]).size = 1 := fun q => rfl; simp only [ByteArray.size_append, maxLen, z6]; omega))) ?_
     refine RA.first (i := 16) (ls' := (bt 27 6815743)) (Tell.of rfl) (by kernel_rfl) rfl rfl rfl (VF.p (V.cat rfl rfl rfl (by have z1 := cin.zt; have z2 := cin.zs; have z3 := cin.zv; have z4 := cin.zk; have z5 := cin.zl; have z6 : ∀ q : Int, (bytesOf [q]).size = 1 := fun q => rfl; simp only [ByteArray.size_append, maxLen, z6]; omega))) ?_
     exact RA.to2 hall hf hb (ro4_15 B Xo4_3_1 go4_11_1 go4_15_1 go4_7_1) rfl rfl (by kernel_rfl)
    ·skip
     refine RO.call rfl rfl (spec_l16Short_fn x.val (by first | exact cin.k | exact cin.l)) rfl (.cons (.one (.r .r)) (.nil)) rfl fun go4_19_1 => ?_
     exact RA.to2 hall hf hb (ro4_11 B Xo4_3_1 go4_11_1 go4_15_1 go4_19_1 go4_7_1) rfl rfl (by kernel_rfl)
   have ro4_8 : ∀ B, ∀ (Xo4_3_1 : Value), ∀ (go4_7_1 : Nat → Nat → Value), RA f E B all 10 (bt 27 6711295) ⟨32, [(15, S ((bytesOf ([(IntKind.u8.wrap x.op)])) ++ (varB x.token.toNat))), (17, I x.seq), (21, S x.key), (25, S x.val), (29, I x.ver)] ++ b0⟩ K := by
    intro B Xo4_3_1 go4_7_1
    refine RA.of2 hall hf hb (RA.stepH (L := [11]) (Tell.of rfl) (by kernel_rfl) (by simp) (RA.each ?_ (RA.each0)))
    ·skip
     refine RO.call rfl rfl (spec_l01Var_fn x.seq (by first | exact cin.t | exact cin.s | exact cin.v)) rfl (.cons (.one (.r .r)) (.nil)) rfl fun go4_11_1 => ?_
     refine RA.first (i := 12) (ls' := (bt 27 6717439)) (Tell.of rfl) (by kernel_rfl) rfl rfl rfl (VF.p (V.cat rfl rfl rfl (by have z1 := cin.zt; have z2 := cin.zs; have z3 := cin.zv; have z4 := cin.zk; have z5 := cin.zl; have z6 : ∀ q : Int, (bytesOf [q]).size = 1 := fun q => rfl; simp only [ByteArray.size_append, maxLen, z6]; omega))) ?_
     exact RA.to2 hall hf hb (ro4_13 B Xo4_3_1 go4_11_1 go4_7_1) rfl rfl (by kernel_rfl)
   have ro4_7 : ∀ B, ∀ (go4_11_1 : Nat → Nat → Value), ∀ (go4_15_1 : Nat → Nat → Value), ∀ (go4_7_1 : Nat → Nat → Value), RA f E B all 11 (bt 27 6745831) ⟨32, [(9, .r (.v (.int .u8 (IntKind.u8.wrap x.op)))), (14, S (varB x.token.toNat)), (18, S (varB x.seq.toNat)), (22, S (shB x.key)), (25, S x.val), (29, I x.ver)] ++ b0⟩ K := by
    intro B go4_11_1 go4_15_1 go4_7_1
    refine RA.of2 hall hf hb (RA.stepH (L := [3, 19]) (Tell.of rfl) (by kernel_rfl) (by simp) (RA.each ?_ (RA.each ?_ (RA.each0))))
    ·skip
     refine RO.build1c (c := cU) (v := (IntKind.u8.wrap x.op)) (u := .v (.int .u8 (IntKind.u8.wrap x.op))) rfl rfl rfl rfl rfl rfl rfl rfl (.inl rfl) rfl rfl fun Xo4_3_1 => ?_
     exact RA.to2 hall hf hb (ro4_9 B Xo4_3_1 go4_11_1 go4_15_1 go4_7_1) rfl rfl (by kernel_rfl)
    ·skip
     refine RO.call rfl rfl (spec_l16Short_fn x.val (by first | exact cin.k | exact cin.l)) rfl (.cons (.one (.r .r)) (.nil)) rfl fun go4_19_1 => ?_
     exact RA.to2 hall hf hb (ro4_10 B go4_11_1 go4_15_1 go4_19_1 go4_7_1) rfl rfl (by kernel_rfl)
   have ro4_6 : ∀ B, ∀ (Xo4_3_1 : Value), ∀ (go4_11_1 : Nat → Nat → Value), ∀ (go4_7_1 : Nat → Nat → Value), RA f E B all 11 (bt 27 6713071) ⟨32, [(10, .w (sl 1 cU ([(IntKind.u8.wrap x.op)])) Xo4_3_1), (14, S (varB x.token.toNat)), (18, S (varB x.seq.toNat)), (21, S x.key), (25, S x.val), (29, I x.ver)] ++ b0⟩ K := by
    intro B Xo4_3_1 go4_11_1 go4_7_1
    refine RA.of2 hall hf hb (RA.stepH (L := [4, 15]) (Tell.of rfl) (by kernel_rfl) (by simp) (RA.each ?_ (RA.each ?_ (RA.each0))))
    ·skip
     refine RO.v rfl rfl (V.bytesStr (l := [(IntKind.u8.wrap x.op)]) rfl rfl rfl (by kernel_rfl) (by kernel_rfl) (.al (k := none) (i := 10) (sz := 1) (V := Xo4_3_1) rfl rfl nofun)) rfl ?_
     refine RA.first (i := 8) (ls' := (bt 27 6713343)) (Tell.of rfl) (by kernel_rfl) rfl rfl rfl (VF.p (V.cat rfl rfl rfl (by have z1 := cin.zt; have z2 := cin.zs; have z3 := cin.zv; have z4 := cin.zk; have z5 := cin.zl; have z6 : ∀ q : Int, (bytesOf [q]).size = 1 := fun q => rfl; simp only [ByteArray.size_append, maxLen, z6]; omega))) ?_
     refine RA.first (i := 12) (ls' := (bt 27 6717439)) (Tell.of rfl) (by kernel_rfl) rfl rfl rfl (VF.p (V.cat rfl rfl rfl (by have z1 := cin.zt; have z2 := cin.zs; have z3 := cin.zv; have z4 := cin.zk; have z5 := cin.zl; have z6 : ∀ q : Int, (bytesOf [q]).size = 1 := fun q => rfl; simp only [ByteArray.size_append, maxLen, z6]; omega))) ?_
     exact RA.to2 hall hf hb (ro4_13 B Xo4_3_1 go4_11_1 go4_7_1) rfl rfl (by kernel_rfl)
    ·skip
     refine RO.call rfl rfl (spec_l16Short_fn x.key (by first | exact cin.k | exact cin.l)) rfl (.cons (.one (.r .r)) (.nil)) rfl fun go4_15_1 => ?_
     exact RA.to2 hall hf hb (ro4_9 B Xo4_3_1 go4_11_1 go4_15_1 go4_7_1) rfl rfl (by kernel_rfl)
   have ro4_5 : ∀ B, ∀ (go4_11_1 : Nat → Nat → Value), ∀ (go4_7_1 : Nat → Nat → Value), RA f E B all 12 (bt 27 6713063) ⟨32, [(9, .r (.v (.int .u8 (IntKind.u8.wrap x.op)))), (14, S (varB x.token.toNat)), (18, S (varB x.seq.toNat)), (21, S x.key), (25, S x.val), (29, I x.ver)] ++ b0⟩ K := by
    intro B go4_11_1 go4_7_1
    refine RA.of2 hall hf hb (RA.stepH (L := [3, 15]) (Tell.of rfl) (by kernel_rfl) (by simp) (RA.each ?_ (RA.each ?_ (RA.each0))))
    ·skip
     refine RO.build1c (c := cU) (v := (IntKind.u8.wrap x.op)) (u := .v (.int .u8 (IntKind.u8.wrap x.op))) rfl rfl rfl rfl rfl rfl rfl rfl (.inl rfl) rfl rfl fun Xo4_3_1 => ?_
     exact RA.to2 hall hf hb (ro4_6 B Xo4_3_1 go4_11_1 go4_7_1) rfl rfl (by kernel_rfl)
    ·skip
     refine RO.call rfl rfl (spec_l16Short_fn x.key (by first | exact cin.k | exact cin.l)) rfl (.cons (.one (.r .r)) (.nil)) rfl fun go4_15_1 => ?_
     exact RA.to2 hall hf hb (ro4_7 B go4_11_1 go4_15_1 go4_7_1) rfl rfl (by kernel_rfl)
   have ro4_4 : ∀ B, ∀ (Xo4_3_1 : Value), ∀ (go4_7_1 : Nat → Nat → Value), RA f E B all 12 (bt 27 6711023) ⟨32, [(10, .w (sl 1 cU ([(IntKind.u8.wrap x.op)])) Xo4_3_1), (14, S (varB x.token.toNat)), (17, I x.seq), (21, S x.key), (25, S x.val), (29, I x.ver)] ++ b0⟩ K := by
    intro B Xo4_3_1 go4_7_1
    refine RA.of2 hall hf hb (RA.stepH (L := [4, 11]) (Tell.of rfl) (by kernel_rfl) (by simp) (RA.each ?_ (RA.each ?_ (RA.each0))))
    ·skip
     refine RO.v rfl rfl (V.bytesStr (l := [(IntKind.u8.wrap x.op)]) rfl rfl rfl (by kernel_rfl) (by kernel_rfl) (.al (k := none) (i := 10) (sz := 1) (V := Xo4_3_1) rfl rfl nofun)) rfl ?_
     refine RA.first (i := 8) (ls' := (bt 27 6711295)) (Tell.of rfl) (by kernel_rfl) rfl rfl rfl (VF.p (V.cat rfl rfl rfl (by have z1 := cin.zt; have z2 := cin.zs; have z3 := cin.zv; have z4 := cin.zk; have z5 := cin.zl; have z6 : ∀ q : Int, (bytesOf [q]).size = 1 := fun q => rfl; simp only [ByteArray.size_append, maxLen, z6]; omega))) ?_
     exact RA.to2 hall hf hb (ro4_8 B Xo4_3_1 go4_7_1) rfl rfl (by kernel_rfl)
    ·skip
     refine RO.call rfl rfl (spec_l01Var_fn x.seq (by first | exact cin.t | exact cin.s | exact cin.v)) rfl (.cons (.one (.r .r)) (.nil)) rfl fun go4_11_1 => ?_
     exact RA.to2 hall hf hb (ro4_6 B Xo4_3_1 go4_11_1 go4_7_1) rfl rfl (by kernel_rfl)
   have ro4_3 : ∀ B, ∀ (Xo4_3_1 : Value), RA f E B all 12 (bt 27 6710911) ⟨32, [(11, S (bytesOf ([(IntKind.u8.wrap x.op)]))), (13, I x.token), (17, I x.seq), (21, S x.key), (25, S x.val), (29, I x.ver)] ++ b0⟩ K := by
    intro B Xo4_3_1
    refine RA.of2 hall hf hb (RA.stepH (L := [7]) (Tell.of rfl) (by kernel_rfl) (by simp) (RA.each ?_ (RA.each0)))
    ·skip
     refine RO.call rfl rfl (spec_l01Var_fn x.token (by first | exact cin.t | exact cin.s | exact cin.v)) rfl (.cons (.one (.r .r)) (.nil)) rfl fun go4_7_1 => ?_
     refine RA.first (i := 8) (ls' := (bt 27 6711295)) (Tell.of rfl) (by kernel_rfl) rfl rfl rfl (VF.p (V.cat rfl rfl rfl (by have z1 := cin.zt; have z2 := cin.zs; have z3 := cin.zv; have z4 := cin.zk; have z5 := cin.zl; have z6 : ∀ q : Int, (bytesOf [q]).size = 1 := fun q => rfl; simp only [ByteArray.size_append, maxLen, z6]; omega))) ?_
     exact RA.to2 hall hf hb (ro4_8 B Xo4_3_1 go4_7_1) rfl rfl (by kernel_rfl)
   have ro4_2 : ∀ B, ∀ (go4_7_1 : Nat → Nat → Value), RA f E B all 13 (bt 27 6711015) ⟨32, [(9, .r (.v (.int .u8 (IntKind.u8.wrap x.op)))), (14, S (varB x.token.toNat)), (17, I x.seq), (21, S x.key), (25, S x.val), (29, I x.ver)] ++ b0⟩ K := by
    intro B go4_7_1
    refine RA.of2 hall hf hb (RA.stepH (L := [3, 11]) (Tell.of rfl) (by kernel_rfl) (by simp) (RA.each ?_ (RA.each ?_ (RA.each0))))
    ·skip
     refine RO.build1c (c := cU) (v := (IntKind.u8.wrap x.op)) (u := .v (.int .u8 (IntKind.u8.wrap x.op))) rfl rfl rfl rfl rfl rfl rfl rfl (.inl rfl) rfl rfl fun Xo4_3_1 => ?_
     exact RA.to2 hall hf hb (ro4_4 B Xo4_3_1 go4_7_1) rfl rfl (by kernel_rfl)
    ·skip
     refine RO.call rfl rfl (spec_l01Var_fn x.seq (by first | exact cin.t | exact cin.s | exact cin.v)) rfl (.cons (.one (.r .r)) (.nil)) rfl fun go4_11_1 => ?_
     exact RA.to2 hall hf hb (ro4_5 B go4_11_1 go4_7_1) rfl rfl (by kernel_rfl)
   have ro4_1 : ∀ B, ∀ (Xo4_3_1 : Value), RA f E B all 13 (bt 27 6710895) ⟨32, [(10, .w (sl 1 cU ([(IntKind.u8.wrap x.op)])) Xo4_3_1), (13, I x.token), (17, I x.seq), (21, S x.key), (25, S x.val), (29, I x.ver)] ++ b0⟩ K := by
    intro B Xo4_3_1
    refine RA.of2 hall hf hb (RA.stepH (L := [4, 7]) (Tell.of rfl) (by kernel_rfl) (by simp) (RA.each ?_ (RA.each ?_ (RA.each0))))
    ·skip
     refine RO.v rfl rfl (V.bytesStr (l := [(IntKind.u8.wrap x.op)]) rfl rfl rfl (by kernel_rfl) (by kernel_rfl) (.al (k := none) (i := 10) (sz := 1) (V := Xo4_3_1) rfl rfl nofun)) rfl ?_
     exact RA.to2 hall hf hb (ro4_3 B Xo4_3_1) rfl rfl (by kernel_rfl)
    ·skip
     refine RO.call rfl rfl (spec_l01Var_fn x.token (by first | exact cin.t | exact cin.s | exact cin.v)) rfl (.cons (.one (.r .r)) (.nil)) rfl fun go4_7_1 => ?_
     exact RA.to2 hall hf hb (ro4_4 B Xo4_3_1 go4_7_1) rfl rfl (by kernel_rfl)
   have ro4_0 : ∀ B, RA f E B all 14 (bt 27 6710887) ⟨32, [(9, .r (.v (.int .u8 (IntKind.u8.wrap x.op)))), (13, I x.token), (17, I x.seq), (21, S x.key), (25, S x.val), (29, I x.ver)] ++ b0⟩ K := by
    intro B
    refine RA.of2 hall hf hb (RA.stepH (L := [3, 7]) (Tell.of rfl) (by kernel_rfl) (by simp) (RA.each ?_ (RA.each ?_ (RA.each0))))
    ·skip
     refine RO.build1c (c := cU) (v := (IntKind.u8.wrap x.op)) (u := .v (.int .u8 (IntKind.u8.wrap x.op))) rfl rfl rfl rfl rfl rfl rfl rfl (.inl rfl) rfl rfl fun Xo4_3_1 => ?_
     exact RA.to2 hall hf hb (ro4_1 B Xo4_3_1) rfl rfl (by kernel_rfl)
    ·skip
     refine RO.call rfl rfl (spec_l01Var_fn x.token (by first | exact cin.t | exact cin.s | exact cin.v)) rfl (.cons (.one (.r .r)) (.nil)) rfl fun go4_7_1 => ?_
     exact RA.to2 hall hf hb (ro4_2 B go4_7_1) rfl rfl (by kernel_rfl)
   refine RA.start (by kernel_rfl) (by kernel_rfl) (m := 27) (ls' := (bt 27 0)) ?_
   refine RA.fr XK 32 14 [0,1,2,5,6,9,10,13,14,17,18,21,22] (bt 27 6710887) rfl rfl (by kernel_rfl) (Tell.of rfl) ?_
   (conv=>whnf);refine ⟨rfl,fun B=>?_⟩
   exact RA.to2 hall hf hb (ro4_0 B) rfl rfl (by kernel_rfl)
  ·rintro ⟨Xo4_3_1, go4_11_1, go4_15_1, go4_19_1, go4_23_1, go4_7_1⟩
   refine CW.ret ?_
   exact Post.tup (by decide) (RVs.c (RV.s rfl (by rw [cmdT, if_pos (nF h3)] <;> rfl)) (RVs.c (RV.b rfl (by rw [cmdT, if_pos (nF h3)] <;> rfl)) RVs.e)) (AOs.a rfl AOs.e)
set_option maxHeartbeats 4000000 in
theorem spec_l16Var_fn (c : l16Cur) (hs : c.sc.ok) : Eng.Fn E.P 91 [.ob ((l16Cur.c c).map .r)] (.one (.one (.w (.v (.int .i64 (numW c)))))) [.ob ((l16Cur.c (numC c)).map .r)] := by
 refine Eng.Fn.intro (E := E) (rvs := [.tmp 2]) Tryd.func91 rfl rfl rfl (by simp [outSlots, moved, rvSlot, sl]) ?_
 intro B g bo
 refine CW.keep 35 [0] rfl ?_;(conv=>whnf);refine ⟨?_⟩
 refine CW.k XK 35 1 [0] rfl ?_
 (conv=>whnf);refine ⟨rfl,?_⟩
 refine CW.anyJ2 (fc := [(0, (bo 0), [.string c.text, .int .i64 c.at_, .bool c.bad])]) (L0 := [(0, .obj (bo 0) ((l16Cur.c c).map .r))]) 35 (fun (go1_8_1 : (Nat → Nat → Value)) => [(3, I ((rdVar c.text c.at_).1)), (4, I ((rdVar c.text c.at_).2.1)), (5, Bo ((rdVar c.text c.at_).2.2))]) (fun all hall f hf b0 hb K hK => ?_) ?_
 ·skip
  have ro1_9 : ∀ B, ∀ (go1_8_1 : Nat → Nat → Value), RA f E B all 0 (bt 16 65535) ⟨35, [(3, I ((rdVar c.text c.at_).1)), (4, I ((rdVar c.text c.at_).2.1)), (5, Bo ((rdVar c.text c.at_).2.2))] ++ b0⟩ K := by
   intro B go1_8_1
   exact RA.of2 hall hf hb (RA.finH (Tell.of rfl) (by kernel_rfl) (hK go1_8_1 _ rfl (Le.of rfl)))
  have ro1_8 : ∀ B, ∀ (go1_8_1 : Nat → Nat → Value), RA f E B all 2 (bt 16 28671) ⟨35, [(3, I ((rdVar c.text c.at_).1)), (4, I ((rdVar c.text c.at_).2.1)), (6, .tup [.u, .u, Bo ((rdVar c.text c.at_).2.2)])] ++ b0⟩ K := by
   intro B go1_8_1
   refine RA.of2 hall hf hb (RA.stepH (L := [12]) (Tell.of rfl) (by kernel_rfl) (by simp) (RA.each ?_ (RA.each0)))
   ·skip
    refine RO.extract (d := Bo ((rdVar c.text c.at_).2.2)) rfl rfl rfl rfl rfl (by decide) (Nat.le_of_ble_eq_true rfl) rfl rfl ?_
    refine RA.fr XK 35 0 [15] (bt 16 65535) rfl rfl (by kernel_rfl) (Tell.of rfl) ?_
    (conv=>whnf);refine ⟨rfl,fun B=>?_⟩
    exact RA.to2 hall hf hb (ro1_9 B go1_8_1) rfl rfl (by kernel_rfl)
  have ro1_7 : ∀ B, ∀ (go1_8_1 : Nat → Nat → Value), RA f E B all 3 (bt 16 14335) ⟨35, [(3, I ((rdVar c.text c.at_).1)), (6, .tup [.u, I ((rdVar c.text c.at_).2.1), .u]), (18, Bo ((rdVar c.text c.at_).2.2))] ++ b0⟩ K := by
   intro B go1_8_1
   refine RA.of2 hall hf hb (RA.stepH (L := [11]) (Tell.of rfl) (by kernel_rfl) (by simp) (RA.each ?_ (RA.each0)))
   ·skip
    refine RO.extract (d := I ((rdVar c.text c.at_).2.1)) rfl rfl rfl rfl rfl (by decide) (Nat.le_of_ble_eq_true rfl) rfl rfl ?_
    refine RA.fr XK 35 0 [14,15] (bt 16 65535) rfl rfl (by kernel_rfl) (Tell.of rfl) ?_
    (conv=>whnf);refine ⟨rfl,fun B=>?_⟩
    exact RA.to2 hall hf hb (ro1_9 B go1_8_1) rfl rfl (by kernel_rfl)
  have ro1_6 : ∀ B, ∀ (go1_8_1 : Nat → Nat → Value), RA f E B all 4 (bt 16 7167) ⟨35, [(6, .tup [I ((rdVar c.text c.at_).1), .u, .u]), (17, I ((rdVar c.text c.at_).2.1)), (18, Bo ((rdVar c.text c.at_).2.2))] ++ b0⟩ K := by
   intro B go1_8_1
   refine RA.of2 hall hf hb (RA.stepH (L := [10]) (Tell.of rfl) (by kernel_rfl) (by simp) (RA.each ?_ (RA.each0)))
   ·skip
    refine RO.extract (d := I ((rdVar c.text c.at_).1)) rfl rfl rfl rfl rfl (by decide) (Nat.le_of_ble_eq_true rfl) rfl rfl ?_
    refine RA.fr XK 35 0 [13,14,15] (bt 16 65535) rfl rfl (by kernel_rfl) (Tell.of rfl) ?_
    (conv=>whnf);refine ⟨rfl,fun B=>?_⟩
    exact RA.to2 hall hf hb (ro1_9 B go1_8_1) rfl rfl (by kernel_rfl)
  have ro1_5 : ∀ B, ∀ (go1_8_1 : Nat → Nat → Value), RA f E B all 4 (bt 16 10239) ⟨35, [(3, I ((rdVar c.text c.at_).1)), (6, .tup [.u, I ((rdVar c.text c.at_).2.1), Bo ((rdVar c.text c.at_).2.2)])] ++ b0⟩ K := by
   intro B go1_8_1
   refine RA.of2 hall hf hb (RA.stepH (L := [11, 12]) (Tell.of rfl) (by kernel_rfl) (by simp) (RA.each ?_ (RA.each ?_ (RA.each0))))
   ·skip
    refine RO.extract (d := I ((rdVar c.text c.at_).2.1)) rfl rfl rfl rfl rfl (by decide) (Nat.le_of_ble_eq_true rfl) rfl rfl ?_
    refine RA.fr XK 35 2 [14] (bt 16 28671) rfl rfl (by kernel_rfl) (Tell.of rfl) ?_
    (conv=>whnf);refine ⟨rfl,fun B=>?_⟩
    exact RA.to2 hall hf hb (ro1_8 B go1_8_1) rfl rfl (by kernel_rfl)
   ·skip
    refine RO.extract (d := Bo ((rdVar c.text c.at_).2.2)) rfl rfl rfl rfl rfl (by decide) (Nat.le_of_ble_eq_true rfl) rfl rfl ?_
    exact RA.to2 hall hf hb (ro1_7 B go1_8_1) rfl rfl (by kernel_rfl)
  have ro1_4 : ∀ B, ∀ (go1_8_1 : Nat → Nat → Value), RA f E B all 5 (bt 16 5119) ⟨35, [(6, .tup [I ((rdVar c.text c.at_).1), I ((rdVar c.text c.at_).2.1), .u]), (18, Bo ((rdVar c.text c.at_).2.2))] ++ b0⟩ K := by
   intro B go1_8_1
   refine RA.of2 hall hf hb (RA.stepH (L := [10, 11]) (Tell.of rfl) (by kernel_rfl) (by simp) (RA.each ?_ (RA.each ?_ (RA.each0))))
   ·skip
    refine RO.extract (d := I ((rdVar c.text c.at_).1)) rfl rfl rfl rfl rfl (by decide) (Nat.le_of_ble_eq_true rfl) rfl rfl ?_
    refine RA.fr XK 35 3 [13] (bt 16 14335) rfl rfl (by kernel_rfl) (Tell.of rfl) ?_
    (conv=>whnf);refine ⟨rfl,fun B=>?_⟩
    exact RA.to2 hall hf hb (ro1_7 B go1_8_1) rfl rfl (by kernel_rfl)
   ·skip
    refine RO.extract (d := I ((rdVar c.text c.at_).2.1)) rfl rfl rfl rfl rfl (by decide) (Nat.le_of_ble_eq_true rfl) rfl rfl ?_
    exact RA.to2 hall hf hb (ro1_6 B go1_8_1) rfl rfl (by kernel_rfl)
  have ro1_3 : ∀ B, ∀ (go1_8_1 : Nat → Nat → Value), RA f E B all 5 (bt 16 3071) ⟨35, [(6, .tup [I ((rdVar c.text c.at_).1), .u, Bo ((rdVar c.text c.at_).2.2)]), (17, I ((rdVar c.text c.at_).2.1))] ++ b0⟩ K := by
   intro B go1_8_1
   refine RA.of2 hall hf hb (RA.stepH (L := [10, 12]) (Tell.of rfl) (by kernel_rfl) (by simp) (RA.each ?_ (RA.each ?_ (RA.each0))))
   ·skip
    refine RO.extract (d := I ((rdVar c.text c.at_).1)) rfl rfl rfl rfl rfl (by decide) (Nat.le_of_ble_eq_true rfl) rfl rfl ?_
    refine RA.fr XK 35 2 [13,14] (bt 16 28671) rfl rfl (by kernel_rfl) (Tell.of rfl) ?_
    (conv=>whnf);refine ⟨rfl,fun B=>?_⟩
    exact RA.to2 hall hf hb (ro1_8 B go1_8_1) rfl rfl (by kernel_rfl)
   ·skip
    refine RO.extract (d := Bo ((rdVar c.text c.at_).2.2)) rfl rfl rfl rfl rfl (by decide) (Nat.le_of_ble_eq_true rfl) rfl rfl ?_
    exact RA.to2 hall hf hb (ro1_6 B go1_8_1) rfl rfl (by kernel_rfl)
  have ro1_2 : ∀ B, ∀ (go1_8_1 : Nat → Nat → Value), RA f E B all 6 (bt 16 1023) ⟨35, [(6, .tup [I ((rdVar c.text c.at_).1), I ((rdVar c.text c.at_).2.1), Bo ((rdVar c.text c.at_).2.2)])] ++ b0⟩ K := by
   intro B go1_8_1
   refine RA.of2 hall hf hb (RA.stepH (L := [10, 11, 12]) (Tell.of rfl) (by kernel_rfl) (by simp) (RA.each ?_ (RA.each ?_ (RA.each ?_ (RA.each0)))))
   ·skip
    refine RO.extract (d := I ((rdVar c.text c.at_).1)) rfl rfl rfl rfl rfl (by decide) (Nat.le_of_ble_eq_true rfl) rfl rfl ?_
    refine RA.fr XK 35 4 [13] (bt 16 10239) rfl rfl (by kernel_rfl) (Tell.of rfl) ?_
    (conv=>whnf);refine ⟨rfl,fun B=>?_⟩
    exact RA.to2 hall hf hb (ro1_5 B go1_8_1) rfl rfl (by kernel_rfl)
   ·skip
    refine RO.extract (d := I ((rdVar c.text c.at_).2.1)) rfl rfl rfl rfl rfl (by decide) (Nat.le_of_ble_eq_true rfl) rfl rfl ?_
    exact RA.to2 hall hf hb (ro1_3 B go1_8_1) rfl rfl (by kernel_rfl)
   ·skip
    refine RO.extract (d := Bo ((rdVar c.text c.at_).2.2)) rfl rfl rfl rfl rfl (by decide) (Nat.le_of_ble_eq_true rfl) rfl rfl ?_
    exact RA.to2 hall hf hb (ro1_4 B go1_8_1) rfl rfl (by kernel_rfl)
  have ro1_1 : ∀ B, ∀ (go1_8_1 : Nat → Nat → Value), RA f E B all 7 (bt 16 511) ⟨35, [(15, .tup [I ((rdVar c.text c.at_).1), I ((rdVar c.text c.at_).2.1), Bo ((rdVar c.text c.at_).2.2)])] ++ b0⟩ K := by
   intro B go1_8_1
   refine RA.of2 hall hf hb (RA.stepH (L := [9]) (Tell.of rfl) (by kernel_rfl) (by simp) (RA.each ?_ (RA.each0)))
   ·skip
    refine RO.moveMove rfl rfl rfl rfl rfl (by decide) (Nat.le_of_ble_eq_true rfl) (Nat.le_of_ble_eq_true rfl) ?_
    exact RA.to2 hall hf hb (ro1_2 B go1_8_1) rfl rfl (by kernel_rfl)
  have ro1_0 : ∀ B, RA f E B all 8 (bt 16 255) ⟨35, [(10, S c.text), (14, I c.at_)] ++ b0⟩ K := by
   intro B
   refine RA.of2 hall hf hb (RA.stepH (L := [8]) (Tell.of rfl) (by kernel_rfl) (by simp) (RA.each ?_ (RA.each0)))
   ·skip
    refine RO.call rfl rfl (spec_ReadVar_fn c.text c.at_ hs.2.2) rfl (.cons (.one (.r .r)) (.cons (.one (.r .r)) (.nil))) rfl fun go1_8_1 => ?_
    exact RA.to2 hall hf hb (ro1_1 B go1_8_1) rfl rfl (by kernel_rfl)
  refine RA.start (by kernel_rfl) (by kernel_rfl) (m := 16) (ls' := (bt 16 0)) ?_
  refine RA.fr XK 35 8 [0,1,2,3,4,5,6,7] (bt 16 255) rfl rfl (by kernel_rfl) (Tell.of rfl) ?_
  (conv=>whnf);refine ⟨rfl,fun B=>?_⟩
  exact RA.to2 hall hf hb (ro1_0 B) rfl rfl (by kernel_rfl)
 ·rintro go1_8_1
  refine CW.seq ?_
  refine CW.seqJ 35 (fun (v2 : Bool) => [(0, .obj (bo 0) ((l16Cur.c c).map .r)), (3, I ((rdVar c.text c.at_).1)), (4, I ((rdVar c.text c.at_).2.1)), (26, Bo v2)]) (fun v2 => v2 = (c.bad || (!((rdVar c.text c.at_).2.2)))) ?_ ?_
  ·refine CW.region ?_
   refine RW.k XK 35 5 rfl ?_
   (conv=>whnf);refine ⟨rfl,?_⟩
   refine RW.gv rfl rfl rfl rfl (fun h3 => V.mv (d := Bo ((rdVar c.text c.at_).2.2)) rfl rfl) (fun h3 => ?_) (fun h3 => ?_)
   ·skip
    refine RW.k XK 35 2 rfl ?_
    (conv=>whnf);refine ⟨rfl,?_⟩
    refine RW.nil ?_
    exact ⟨_, by first | rfl | (simp_all; done) | (simp_all; omega) | grind, rfl, Le.of rfl⟩
   ·skip
    refine RW.k XK 35 2 rfl ?_
    (conv=>whnf);refine ⟨rfl,?_⟩
    refine RW.nil ?_
    exact ⟨_, by first | rfl | (simp_all; done) | (simp_all; omega) | grind, rfl, Le.of rfl⟩
  ·intro v2 hv4
   refine CW.cond rfl (fun h5 => ?_) (fun h5 => ?_)
   ·skip
    have hvv := hv4.symm.trans h5
    refine CW.k XK 35 2 [0,2] rfl ?_
    (conv=>whnf);refine ⟨rfl,?_⟩
    refine CW.ret ?_
    exact Post.one (RV.i rfl (by simp only [numW, numV, numS, shV, shS, l16Cur.sc]; rw [scNum, if_pos hvv])) (AOs.obE (f := fun e => (l16Cur.c e).map .r) (e' := (⟨c.text, c.at_, true⟩ : l16Cur)) rfl (DT.r (DT.r (DT.r DT.e))) (by simp only [numC, numV, numS, shV, shS, l16Cur.sc]; rw [scNum, if_pos hvv]) AOs.e)
   ·skip
    have hvv := hv4.symm.trans h5
    refine CW.skip ?_
    refine CW.keep 35 [0,3,4] rfl ?_;(conv=>whnf);refine ⟨?_⟩
    refine CW.k XK 35 2 [0,2] rfl ?_
    (conv=>whnf);refine ⟨rfl,?_⟩
    refine CW.ret ?_
    exact Post.one (RV.i rfl (by simp only [numW, numV, numS, shV, shS, l16Cur.sc]; rw [scNum, if_neg (by rw [hvv]; simp)])) (AOs.obE (f := fun e => (l16Cur.c e).map .r) (e' := (⟨c.text, ((rdVar c.text c.at_).2.1), c.bad⟩ : l16Cur)) rfl (DT.r (DT.r (DT.r DT.e))) (by simp only [numC, numV, numS, shV, shS, l16Cur.sc]; rw [scNum, if_neg (by rw [hvv]; simp), (Bool.or_eq_false_iff.1 hvv).1]) AOs.e)
set_option maxHeartbeats 4000000 in
theorem spec_l16ReadShort_fn (c : l16Cur) (hs : c.sc.ok) : Eng.Fn E.P 92 [.ob ((l16Cur.c c).map .r)] (.one (.one (.w (.v (.string (shW c)))))) [.ob ((l16Cur.c (shC c)).map .r)] := by
 refine Eng.Fn.intro (E := E) (rvs := [.tmp 2]) Tryd.func92 rfl rfl rfl (by simp [outSlots, moved, rvSlot, sl]) ?_
 intro B g bo
 refine CW.keep 35 [0] rfl ?_;(conv=>whnf);refine ⟨?_⟩
 refine CW.k XK 35 1 [0] rfl ?_
 (conv=>whnf);refine ⟨rfl,?_⟩
 refine CW.anyJ2 (fc := [(0, (bo 0), [.string c.text, .int .i64 c.at_, .bool c.bad])]) (L0 := [(0, .obj (bo 0) ((l16Cur.c c).map .r))]) 35 (fun (go1_8_1 : (Nat → Nat → Value)) => [(3, S ((rdShort c.text c.at_).1)), (4, I ((rdShort c.text c.at_).2.1)), (5, Bo ((rdShort c.text c.at_).2.2))]) (fun all hall f hf b0 hb K hK => ?_) ?_
 ·skip
  have ro1_9 : ∀ B, ∀ (go1_8_1 : Nat → Nat → Value), RA f E B all 0 (bt 16 65535) ⟨35, [(3, S ((rdShort c.text c.at_).1)), (4, I ((rdShort c.text c.at_).2.1)), (5, Bo ((rdShort c.text c.at_).2.2))] ++ b0⟩ K := by
   intro B go1_8_1
   exact RA.of2 hall hf hb (RA.finH (Tell.of rfl) (by kernel_rfl) (hK go1_8_1 _ rfl (Le.of rfl)))
  have ro1_8 : ∀ B, ∀ (go1_8_1 : Nat → Nat → Value), RA f E B all 2 (bt 16 28671) ⟨35, [(3, S ((rdShort c.text c.at_).1)), (4, I ((rdShort c.text c.at_).2.1)), (6, .tup [.u, .u, Bo ((rdShort c.text c.at_).2.2)])] ++ b0⟩ K := by
   intro B go1_8_1
   refine RA.of2 hall hf hb (RA.stepH (L := [12]) (Tell.of rfl) (by kernel_rfl) (by simp) (RA.each ?_ (RA.each0)))
   ·skip
    refine RO.extract (d := Bo ((rdShort c.text c.at_).2.2)) rfl rfl rfl rfl rfl (by decide) (Nat.le_of_ble_eq_true rfl) rfl rfl ?_
    refine RA.fr XK 35 0 [15] (bt 16 65535) rfl rfl (by kernel_rfl) (Tell.of rfl) ?_
    (conv=>whnf);refine ⟨rfl,fun B=>?_⟩
    exact RA.to2 hall hf hb (ro1_9 B go1_8_1) rfl rfl (by kernel_rfl)
  have ro1_7 : ∀ B, ∀ (go1_8_1 : Nat → Nat → Value), RA f E B all 3 (bt 16 14335) ⟨35, [(3, S ((rdShort c.text c.at_).1)), (6, .tup [.u, I ((rdShort c.text c.at_).2.1), .u]), (18, Bo ((rdShort c.text c.at_).2.2))] ++ b0⟩ K := by
   intro B go1_8_1
   refine RA.of2 hall hf hb (RA.stepH (L := [11]) (Tell.of rfl) (by kernel_rfl) (by simp) (RA.each ?_ (RA.each0)))
   ·skip
    refine RO.extract (d := I ((rdShort c.text c.at_).2.1)) rfl rfl rfl rfl rfl (by decide) (Nat.le_of_ble_eq_true rfl) rfl rfl ?_
    refine RA.fr XK 35 0 [14,15] (bt 16 65535) rfl rfl (by kernel_rfl) (Tell.of rfl) ?_
    (conv=>whnf);refine ⟨rfl,fun B=>?_⟩
    exact RA.to2 hall hf hb (ro1_9 B go1_8_1) rfl rfl (by kernel_rfl)
  have ro1_6 : ∀ B, ∀ (go1_8_1 : Nat → Nat → Value), RA f E B all 4 (bt 16 7167) ⟨35, [(6, .tup [S ((rdShort c.text c.at_).1), .u, .u]), (17, I ((rdShort c.text c.at_).2.1)), (18, Bo ((rdShort c.text c.at_).2.2))] ++ b0⟩ K := by
   intro B go1_8_1
   refine RA.of2 hall hf hb (RA.stepH (L := [10]) (Tell.of rfl) (by kernel_rfl) (by simp) (RA.each ?_ (RA.each0)))
   ·skip
    refine RO.extract (d := S ((rdShort c.text c.at_).1)) rfl rfl rfl rfl rfl (by decide) (Nat.le_of_ble_eq_true rfl) rfl rfl ?_
    refine RA.fr XK 35 0 [13,14,15] (bt 16 65535) rfl rfl (by kernel_rfl) (Tell.of rfl) ?_
    (conv=>whnf);refine ⟨rfl,fun B=>?_⟩
    exact RA.to2 hall hf hb (ro1_9 B go1_8_1) rfl rfl (by kernel_rfl)
  have ro1_5 : ∀ B, ∀ (go1_8_1 : Nat → Nat → Value), RA f E B all 4 (bt 16 10239) ⟨35, [(3, S ((rdShort c.text c.at_).1)), (6, .tup [.u, I ((rdShort c.text c.at_).2.1), Bo ((rdShort c.text c.at_).2.2)])] ++ b0⟩ K := by
   intro B go1_8_1
   refine RA.of2 hall hf hb (RA.stepH (L := [11, 12]) (Tell.of rfl) (by kernel_rfl) (by simp) (RA.each ?_ (RA.each ?_ (RA.each0))))
   ·skip
    refine RO.extract (d := I ((rdShort c.text c.at_).2.1)) rfl rfl rfl rfl rfl (by decide) (Nat.le_of_ble_eq_true rfl) rfl rfl ?_
    refine RA.fr XK 35 2 [14] (bt 16 28671) rfl rfl (by kernel_rfl) (Tell.of rfl) ?_
    (conv=>whnf);refine ⟨rfl,fun B=>?_⟩
    exact RA.to2 hall hf hb (ro1_8 B go1_8_1) rfl rfl (by kernel_rfl)
   ·skip
    refine RO.extract (d := Bo ((rdShort c.text c.at_).2.2)) rfl rfl rfl rfl rfl (by decide) (Nat.le_of_ble_eq_true rfl) rfl rfl ?_
    exact RA.to2 hall hf hb (ro1_7 B go1_8_1) rfl rfl (by kernel_rfl)
  have ro1_4 : ∀ B, ∀ (go1_8_1 : Nat → Nat → Value), RA f E B all 5 (bt 16 5119) ⟨35, [(6, .tup [S ((rdShort c.text c.at_).1), I ((rdShort c.text c.at_).2.1), .u]), (18, Bo ((rdShort c.text c.at_).2.2))] ++ b0⟩ K := by
   intro B go1_8_1
   refine RA.of2 hall hf hb (RA.stepH (L := [10, 11]) (Tell.of rfl) (by kernel_rfl) (by simp) (RA.each ?_ (RA.each ?_ (RA.each0))))
   ·skip
    refine RO.extract (d := S ((rdShort c.text c.at_).1)) rfl rfl rfl rfl rfl (by decide) (Nat.le_of_ble_eq_true rfl) rfl rfl ?_
    refine RA.fr XK 35 3 [13] (bt 16 14335) rfl rfl (by kernel_rfl) (Tell.of rfl) ?_
    (conv=>whnf);refine ⟨rfl,fun B=>?_⟩
    exact RA.to2 hall hf hb (ro1_7 B go1_8_1) rfl rfl (by kernel_rfl)
   ·skip
    refine RO.extract (d := I ((rdShort c.text c.at_).2.1)) rfl rfl rfl rfl rfl (by decide) (Nat.le_of_ble_eq_true rfl) rfl rfl ?_
    exact RA.to2 hall hf hb (ro1_6 B go1_8_1) rfl rfl (by kernel_rfl)
  have ro1_3 : ∀ B, ∀ (go1_8_1 : Nat → Nat → Value), RA f E B all 5 (bt 16 3071) ⟨35, [(6, .tup [S ((rdShort c.text c.at_).1), .u, Bo ((rdShort c.text c.at_).2.2)]), (17, I ((rdShort c.text c.at_).2.1))] ++ b0⟩ K := by
   intro B go1_8_1
   refine RA.of2 hall hf hb (RA.stepH (L := [10, 12]) (Tell.of rfl) (by kernel_rfl) (by simp) (RA.each ?_ (RA.each ?_ (RA.each0))))
   ·skip
    refine RO.extract (d := S ((rdShort c.text c.at_).1)) rfl rfl rfl rfl rfl (by decide) (Nat.le_of_ble_eq_true rfl) rfl rfl ?_
    refine RA.fr XK 35 2 [13,14] (bt 16 28671) rfl rfl (by kernel_rfl) (Tell.of rfl) ?_
    (conv=>whnf);refine ⟨rfl,fun B=>?_⟩
    exact RA.to2 hall hf hb (ro1_8 B go1_8_1) rfl rfl (by kernel_rfl)
   ·skip
    refine RO.extract (d := Bo ((rdShort c.text c.at_).2.2)) rfl rfl rfl rfl rfl (by decide) (Nat.le_of_ble_eq_true rfl) rfl rfl ?_
    exact RA.to2 hall hf hb (ro1_6 B go1_8_1) rfl rfl (by kernel_rfl)
  have ro1_2 : ∀ B, ∀ (go1_8_1 : Nat → Nat → Value), RA f E B all 6 (bt 16 1023) ⟨35, [(6, .tup [S ((rdShort c.text c.at_).1), I ((rdShort c.text c.at_).2.1), Bo ((rdShort c.text c.at_).2.2)])] ++ b0⟩ K := by
   intro B go1_8_1
   refine RA.of2 hall hf hb (RA.stepH (L := [10, 11, 12]) (Tell.of rfl) (by kernel_rfl) (by simp) (RA.each ?_ (RA.each ?_ (RA.each ?_ (RA.each0)))))
   ·skip
    refine RO.extract (d := S ((rdShort c.text c.at_).1)) rfl rfl rfl rfl rfl (by decide) (Nat.le_of_ble_eq_true rfl) rfl rfl ?_
    refine RA.fr XK 35 4 [13] (bt 16 10239) rfl rfl (by kernel_rfl) (Tell.of rfl) ?_
    (conv=>whnf);refine ⟨rfl,fun B=>?_⟩
    exact RA.to2 hall hf hb (ro1_5 B go1_8_1) rfl rfl (by kernel_rfl)
   ·skip
    refine RO.extract (d := I ((rdShort c.text c.at_).2.1)) rfl rfl rfl rfl rfl (by decide) (Nat.le_of_ble_eq_true rfl) rfl rfl ?_
    exact RA.to2 hall hf hb (ro1_3 B go1_8_1) rfl rfl (by kernel_rfl)
   ·skip
    refine RO.extract (d := Bo ((rdShort c.text c.at_).2.2)) rfl rfl rfl rfl rfl (by decide) (Nat.le_of_ble_eq_true rfl) rfl rfl ?_
    exact RA.to2 hall hf hb (ro1_4 B go1_8_1) rfl rfl (by kernel_rfl)
  have ro1_1 : ∀ B, ∀ (go1_8_1 : Nat → Nat → Value), RA f E B all 7 (bt 16 511) ⟨35, [(15, .tup [S ((rdShort c.text c.at_).1), I ((rdShort c.text c.at_).2.1), Bo ((rdShort c.text c.at_).2.2)])] ++ b0⟩ K := by
   intro B go1_8_1
   refine RA.of2 hall hf hb (RA.stepH (L := [9]) (Tell.of rfl) (by kernel_rfl) (by simp) (RA.each ?_ (RA.each0)))
   ·skip
    refine RO.moveMove rfl rfl rfl rfl rfl (by decide) (Nat.le_of_ble_eq_true rfl) (Nat.le_of_ble_eq_true rfl) ?_
    exact RA.to2 hall hf hb (ro1_2 B go1_8_1) rfl rfl (by kernel_rfl)
  have ro1_0 : ∀ B, RA f E B all 8 (bt 16 255) ⟨35, [(10, S c.text), (14, I c.at_)] ++ b0⟩ K := by
   intro B
   refine RA.of2 hall hf hb (RA.stepH (L := [8]) (Tell.of rfl) (by kernel_rfl) (by simp) (RA.each ?_ (RA.each0)))
   ·skip
    refine RO.call rfl rfl (spec_ReadShort_fn c.text c.at_ hs.2.2) rfl (.cons (.one (.r .r)) (.cons (.one (.r .r)) (.nil))) rfl fun go1_8_1 => ?_
    exact RA.to2 hall hf hb (ro1_1 B go1_8_1) rfl rfl (by kernel_rfl)
  refine RA.start (by kernel_rfl) (by kernel_rfl) (m := 16) (ls' := (bt 16 0)) ?_
  refine RA.fr XK 35 8 [0,1,2,3,4,5,6,7] (bt 16 255) rfl rfl (by kernel_rfl) (Tell.of rfl) ?_
  (conv=>whnf);refine ⟨rfl,fun B=>?_⟩
  exact RA.to2 hall hf hb (ro1_0 B) rfl rfl (by kernel_rfl)
 ·rintro go1_8_1
  refine CW.seq ?_
  refine CW.seqJ 35 (fun (v2 : Bool) => [(0, .obj (bo 0) ((l16Cur.c c).map .r)), (3, S ((rdShort c.text c.at_).1)), (4, I ((rdShort c.text c.at_).2.1)), (26, Bo v2)]) (fun v2 => v2 = (c.bad || (!((rdShort c.text c.at_).2.2)))) ?_ ?_
  ·refine CW.region ?_
   refine RW.k XK 35 5 rfl ?_
   (conv=>whnf);refine ⟨rfl,?_⟩
   refine RW.gv rfl rfl rfl rfl (fun h3 => V.mv (d := Bo ((rdShort c.text c.at_).2.2)) rfl rfl) (fun h3 => ?_) (fun h3 => ?_)
   ·skip
    refine RW.k XK 35 2 rfl ?_
    (conv=>whnf);refine ⟨rfl,?_⟩
    refine RW.nil ?_
    exact ⟨_, by first | rfl | (simp_all; done) | (simp_all; omega) | grind, rfl, Le.of rfl⟩
   ·skip
    refine RW.k XK 35 2 rfl ?_
    (conv=>whnf);refine ⟨rfl,?_⟩
    refine RW.nil ?_
    exact ⟨_, by first | rfl | (simp_all; done) | (simp_all; omega) | grind, rfl, Le.of rfl⟩
  ·intro v2 hv4
   refine CW.cond rfl (fun h5 => ?_) (fun h5 => ?_)
   ·skip
    have hvv := hv4.symm.trans h5
    refine CW.k XK 35 2 [0,2] rfl ?_
    (conv=>whnf);refine ⟨rfl,?_⟩
    refine CW.ret ?_
    exact Post.one (RV.s rfl (by simp only [shW, numV, numS, shV, shS, l16Cur.sc]; rw [scShort, if_pos hvv])) (AOs.obE (f := fun e => (l16Cur.c e).map .r) (e' := (⟨c.text, c.at_, true⟩ : l16Cur)) rfl (DT.r (DT.r (DT.r DT.e))) (by simp only [shC, numV, numS, shV, shS, l16Cur.sc]; rw [scShort, if_pos hvv]) AOs.e)
   ·skip
    have hvv := hv4.symm.trans h5
    refine CW.skip ?_
    refine CW.keep 35 [0,3,4] rfl ?_;(conv=>whnf);refine ⟨?_⟩
    refine CW.k XK 35 2 [0,2] rfl ?_
    (conv=>whnf);refine ⟨rfl,?_⟩
    refine CW.ret ?_
    exact Post.one (RV.s rfl (by simp only [shW, numV, numS, shV, shS, l16Cur.sc]; rw [scShort, if_neg (by rw [hvv]; simp)])) (AOs.obE (f := fun e => (l16Cur.c e).map .r) (e' := (⟨c.text, ((rdShort c.text c.at_).2.1), c.bad⟩ : l16Cur)) rfl (DT.r (DT.r (DT.r DT.e))) (by simp only [shC, numV, numS, shV, shS, l16Cur.sc]; rw [scShort, if_neg (by rw [hvv]; simp), (Bool.or_eq_false_iff.1 hvv).1]) AOs.e)
set_option maxHeartbeats 4000000 in
theorem spec_ReadCommand_fn (t : ByteArray) (ht : t.size ≤ 1048576) : Eng.Fn E.P 68 [.one (.r (.v (.string t)))] (.tup [.agg ((Command.c ((rdCmd t).1)).map .w), .one (.w (.v (.bool ((rdCmd t).2))))]) [.one (.r (.v (.string t)))] := by
 refine Eng.Fn.intro (E := E) (rvs := [.cell 2 38, .tmp 3]) Tryd.func68 rfl rfl rfl (by simp [outSlots, moved, rvSlot, sl]) ?_
 intro B g bo
 refine CW.keep 52 [0] rfl ?_;(conv=>whnf);refine ⟨?_⟩
 have hrd := rd_eq ht
 refine CW.k XK 52 1 [0,2] rfl ?_
 (conv=>whnf);intro b1;(conv=>whnf);refine ⟨rfl,?_⟩
 refine CW.seq ?_
 refine CW.k XK 52 1 [0,2,9] rfl ?_
 (conv=>whnf);refine ⟨rfl,?_⟩
 refine CW.cond rfl (fun h2 => ?_) (fun h2 => ?_)
 ·skip
  refine CW.k XK 52 1 [2,3] rfl ?_
  (conv=>whnf);refine ⟨rfl,?_⟩
  refine CW.ret ?_
  exact Post.tup (by decide) (RVs.c (RV.c (f := fun e => (Command.c e).map .w) (e' := (⟨0, 0, 0, ⟨#[]⟩, ⟨#[]⟩, 0⟩ : Command)) rfl rfl rfl rfl (DT.v (DT.v (DT.v (DT.v (DT.v (DT.v DT.e)))))) (by rw [← hrd, rdCmdS, if_pos (by assumption)] <;> rfl)) (RVs.c (RV.b rfl (by rw [← hrd, rdCmdS, if_pos (by assumption)] <;> rfl)) RVs.e)) (AOs.r AOs.e)
 ·skip
  have h0 : 0 < t.size := size_pos h2
  have hne : ¬ (t.toList == (⟨#[]⟩ : ByteArray).toList) = true := by rw [h2]; simp
  refine CW.skip ?_
  refine CW.keep 52 [0,2] rfl ?_;(conv=>whnf);refine ⟨?_⟩
  refine CW.k XK 52 1 [0,2,4,13] rfl ?_
  (conv=>whnf);intro b3;(conv=>whnf);refine ⟨rfl,?_⟩
  refine CW.anyJ2 (fc := [(2, b1, [.int .i64 0, .int .i64 0, .int .i64 0, .string (⟨#[]⟩), .string (⟨#[]⟩), .int .i64 0])]) (L0 := [(0, S t), (2, .obj b1 [I 0, I 0, I 0, S (⟨#[]⟩), S (⟨#[]⟩), I 0]), (4, .pt 13 b3 0)]) 52 (fun (zz : Nat × (Nat → Nat → Value) × (Nat → Value)) => match zz with | (bo4_6_1, go4_4_1, qo4_4_2) => [(5, .obj bo4_6_1 [I (IntKind.i64.wrap (bat t 0)), I (numW (⟨t, 1, false⟩ : l16Cur)), I 0, S (⟨#[]⟩), S (⟨#[]⟩), I 0]), (13, .obj b3 ((l16Cur.c (numC (⟨t, 1, false⟩ : l16Cur))).map .r))]) (fun all hall f hf b0 hb K hK => ?_) ?_
  ·skip
   have ro4_4 : ∀ B, ∀ (bo4_6_1 : Nat), ∀ (go4_4_1 : Nat → Nat → Value), ∀ (qo4_4_2 : Nat → Value), RA f E B all 0 (bt 8 255) ⟨52, [(5, .obj bo4_6_1 [I (IntKind.i64.wrap (bat t 0)), I (numW (⟨t, 1, false⟩ : l16Cur)), I 0, S (⟨#[]⟩), S (⟨#[]⟩), I 0]), (13, .obj b3 ((l16Cur.c (numC (⟨t, 1, false⟩ : l16Cur))).map .r))] ++ b0⟩ K := by
    intro B bo4_6_1 go4_4_1 qo4_4_2
    exact RA.of2 hall hf hb (RA.finH (Tell.of rfl) (by kernel_rfl) (hK (bo4_6_1, go4_4_1, qo4_4_2) _ rfl (Le.of rfl)))
   have ro4_3 : ∀ B, ∀ (bo4_6_1 : Nat), ∀ (go4_4_1 : Nat → Nat → Value), ∀ (qo4_4_2 : Nat → Value), RA f E B all 1 (bt 8 127) ⟨52, [(5, .obj bo4_6_1 [I 0, I 0, I 0, S (⟨#[]⟩), S (⟨#[]⟩), I 0]), (13, .obj b3 ((l16Cur.c (numC (⟨t, 1, false⟩ : l16Cur))).map .r)), (19, .agg [I (IntKind.i64.wrap (bat t 0)), I (numW (⟨t, 1, false⟩ : l16Cur)), I 0, S (⟨#[]⟩), S (⟨#[]⟩), I 0])] ++ b0⟩ K := by
    intro B bo4_6_1 go4_4_1 qo4_4_2
    refine RA.of2 hall hf hb (RA.stepH (L := [7]) (Tell.of rfl) (by kernel_rfl) (by simp) (RA.each ?_ (RA.each0)))
    ·skip
     refine RO.storeAgg (es := [I (IntKind.i64.wrap (bat t 0)), I (numW (⟨t, 1, false⟩ : l16Cur)), I 0, S (⟨#[]⟩), S (⟨#[]⟩), I 0]) rfl rfl rfl rfl rfl rfl rfl rfl rfl rfl (Nat.le_of_ble_eq_true rfl) rfl ?_
     exact RA.to2 hall hf hb (ro4_4 B bo4_6_1 go4_4_1 qo4_4_2) rfl rfl (by kernel_rfl)
   have ro4_2 : ∀ B, ∀ (go4_4_1 : Nat → Nat → Value), ∀ (qo4_4_2 : Nat → Value), RA f E B all 2 (bt 8 63) ⟨52, [(13, .obj b3 ((l16Cur.c (numC (⟨t, 1, false⟩ : l16Cur))).map .r)), (19, .agg [I (IntKind.i64.wrap (bat t 0)), I (numW (⟨t, 1, false⟩ : l16Cur)), I 0, S (⟨#[]⟩), S (⟨#[]⟩), I 0])] ++ b0⟩ K := by
    intro B go4_4_1 qo4_4_2
    refine RA.of2 hall hf hb (RA.stepH (L := [6]) (Tell.of rfl) (by kernel_rfl) (by simp) (RA.each ?_ (RA.each0)))
    ·skip
     refine RO.alloc (ds := [I 0, I 0, I 0, S (⟨#[]⟩), S (⟨#[]⟩), I 0]) rfl rfl rfl rfl rfl rfl fun bo4_6_1 => ?_
     exact RA.to2 hall hf hb (ro4_3 B bo4_6_1 go4_4_1 qo4_4_2) rfl rfl (by kernel_rfl)
   have ro4_1 : ∀ B, ∀ (bo4_6_1 : Nat), RA f E B all 3 (bt 8 79) ⟨52, [(5, .obj bo4_6_1 [I 0, I 0, I 0, S (⟨#[]⟩), S (⟨#[]⟩), I 0]), (13, .obj b3 [S t, I 1, Bo false]), (16, I (IntKind.i64.wrap (bat t 0))), (17, .pt 13 b3 0)] ++ b0⟩ K := by
    intro B bo4_6_1
    refine RA.of2 hall hf hb (RA.stepH (L := [4]) (Tell.of rfl) (by kernel_rfl) (by simp) (RA.each ?_ (RA.each0)))
    ·skip
     refine RO.callP (k := 13) (spec_l16Var_fn (⟨t, 1, false⟩ : l16Cur) (l16Cur.ok1 ht h0)) rfl rfl rfl rfl (Nat.le_of_ble_eq_true rfl) (by decide) rfl (DT.r (DT.r (DT.r DT.e))) (AsPs.here rfl (.nil)) fun go4_4_1 qo4_4_2 => ?_
     refine RA.fr XK 52 1 [5] (bt 8 127) rfl rfl (by kernel_rfl) (Tell.of rfl) ?_
     (conv=>whnf);refine ⟨rfl,fun B=>?_⟩
     exact RA.to2 hall hf hb (ro4_3 B bo4_6_1 go4_4_1 qo4_4_2) rfl rfl (by kernel_rfl)
   have ro4_0 : ∀ B, RA f E B all 4 (bt 8 15) ⟨52, [(13, .obj b3 [S t, I 1, Bo false]), (16, I (IntKind.i64.wrap (bat t 0))), (17, .pt 13 b3 0)] ++ b0⟩ K := by
    intro B
    refine RA.of2 hall hf hb (RA.stepH (L := [4, 6]) (Tell.of rfl) (by kernel_rfl) (by simp) (RA.each ?_ (RA.each ?_ (RA.each0))))
    ·skip
     refine RO.callP (k := 13) (spec_l16Var_fn (⟨t, 1, false⟩ : l16Cur) (l16Cur.ok1 ht h0)) rfl rfl rfl rfl (Nat.le_of_ble_eq_true rfl) (by decide) rfl (DT.r (DT.r (DT.r DT.e))) (AsPs.here rfl (.nil)) fun go4_4_1 qo4_4_2 => ?_
     refine RA.fr XK 52 2 [5] (bt 8 63) rfl rfl (by kernel_rfl) (Tell.of rfl) ?_
     (conv=>whnf);refine ⟨rfl,fun B=>?_⟩
     exact RA.to2 hall hf hb (ro4_2 B go4_4_1 qo4_4_2) rfl rfl (by kernel_rfl)
    ·skip
     refine RO.alloc (ds := [I 0, I 0, I 0, S (⟨#[]⟩), S (⟨#[]⟩), I 0]) rfl rfl rfl rfl rfl rfl fun bo4_6_1 => ?_
     exact RA.to2 hall hf hb (ro4_1 B bo4_6_1) rfl rfl (by kernel_rfl)
   refine RA.start (by kernel_rfl) (by kernel_rfl) (m := 8) (ls' := (bt 8 0)) ?_
   refine RA.fr XK 52 7 [0] (bt 8 1) rfl rfl (by kernel_rfl) (Tell.of rfl) ?_
   (conv=>whnf);refine ⟨rfl,fun B=>?_⟩
   refine RA.first (i := 1) (ls' := (bt 8 3)) (Tell.of rfl) (by kernel_rfl) rfl rfl rfl (VF.p (V.idxStr (m := 0) rfl (by kernel_rfl) rfl rfl h0)) ?_
   refine RA.fr XK 52 4 [2,3] (bt 8 15) rfl rfl (by kernel_rfl) (Tell.of rfl) ?_
   (conv=>whnf);refine ⟨rfl,fun B=>?_⟩
   exact RA.to2 hall hf hb (ro4_0 B) rfl rfl (by kernel_rfl)
  ·rintro ⟨bo4_6_1, go4_4_1, qo4_4_2⟩
   refine CW.seq ?_
   refine CW.region ?_
   refine RW.k XK 52 1 rfl ?_
   (conv=>whnf);refine ⟨rfl,?_⟩
   refine RW.callP (k := 13) (spec_l16Var_fn (numC (⟨t, 1, false⟩ : l16Cur)) (numS_ok (l16Cur.ok1 ht h0))) rfl rfl (Nat.le_of_ble_eq_true rfl) (by decide) rfl (DT.r (DT.r (DT.r DT.e))) (AsPs.here rfl (.nil)) fun g5 q6 => ?_
   refine RW.k XK 52 2 rfl ?_
   (conv=>whnf);refine ⟨rfl,?_⟩
   refine RW.nil ?_
   refine CW.keep 52 [0,2,4,5,13] rfl ?_;(conv=>whnf);refine ⟨?_⟩
   refine CW.seq ?_
   refine CW.region ?_
   refine RW.k XK 52 1 rfl ?_
   (conv=>whnf);refine ⟨rfl,?_⟩
   refine RW.callP (k := 13) (spec_l16ReadShort_fn (numC (numC (⟨t, 1, false⟩ : l16Cur))) (numS_ok (numS_ok (l16Cur.ok1 ht h0)))) rfl rfl (Nat.le_of_ble_eq_true rfl) (by decide) rfl (DT.r (DT.r (DT.r DT.e))) (AsPs.here rfl (.nil)) fun g7 q8 => ?_
   refine RW.k XK 52 2 rfl ?_
   (conv=>whnf);refine ⟨rfl,?_⟩
   refine RW.nil ?_
   refine CW.keep 52 [0,2,4,5,13] rfl ?_;(conv=>whnf);refine ⟨?_⟩
   refine CW.seq ?_
   refine CW.region ?_
   refine RW.k XK 52 1 rfl ?_
   (conv=>whnf);refine ⟨rfl,?_⟩
   refine RW.callP (k := 13) (spec_l16ReadShort_fn (shC (numC (numC (⟨t, 1, false⟩ : l16Cur)))) (shS_ok (numS_ok (numS_ok (l16Cur.ok1 ht h0))))) rfl rfl (Nat.le_of_ble_eq_true rfl) (by decide) rfl (DT.r (DT.r (DT.r DT.e))) (AsPs.here rfl (.nil)) fun g9 q10 => ?_
   refine RW.k XK 52 2 rfl ?_
   (conv=>whnf);refine ⟨rfl,?_⟩
   refine RW.nil ?_
   refine CW.keep 52 [0,2,4,5,13] rfl ?_;(conv=>whnf);refine ⟨?_⟩
   refine CW.seq ?_
   refine CW.region ?_
   refine RW.k XK 52 1 rfl ?_
   (conv=>whnf);refine ⟨rfl,?_⟩
   refine RW.callP (k := 13) (spec_l16Var_fn (shC (shC (numC (numC (⟨t, 1, false⟩ : l16Cur))))) (shS_ok (shS_ok (numS_ok (numS_ok (l16Cur.ok1 ht h0)))))) rfl rfl (Nat.le_of_ble_eq_true rfl) (by decide) rfl (DT.r (DT.r (DT.r DT.e))) (AsPs.here rfl (.nil)) fun g11 q12 => ?_
   refine RW.k XK 52 2 rfl ?_
   (conv=>whnf);refine ⟨rfl,?_⟩
   refine RW.nil ?_
   refine CW.keep 52 [0,2,4,5,13] rfl ?_;(conv=>whnf);refine ⟨?_⟩
   refine CW.seq ?_
   refine CW.region ?_
   refine RW.k XK 52 1 rfl ?_
   (conv=>whnf);refine ⟨rfl,?_⟩
   refine RW.call rfl (spec_CommandText_fn (⟨(IntKind.i64.wrap (bat t 0)), (numW (⟨t, 1, false⟩ : l16Cur)), (numW (numC (⟨t, 1, false⟩ : l16Cur))), (shW (numC (numC (⟨t, 1, false⟩ : l16Cur)))), (shW (shC (numC (numC (⟨t, 1, false⟩ : l16Cur))))), (numW (shC (shC (numC (numC (⟨t, 1, false⟩ : l16Cur))))))⟩ : Command)) rfl (.cons (.agg (.cons (.r .r) (.cons (.r .r) (.cons (.r .r) (.cons (.r .r) (.cons (.r .r) (.cons (.r .r) (.nil)))))))) (.nil)) fun g13 => ?_
   refine RW.k XK 52 5 rfl ?_
   (conv=>whnf);refine ⟨rfl,?_⟩
   refine RW.nil ?_
   refine CW.keep 52 [0,2,4,5,6,7,13] rfl ?_;(conv=>whnf);refine ⟨?_⟩
   refine CW.seq ?_
   refine CW.seqJ 52 (fun (v14 : Bool) => [(2, .obj b1 [I 0, I 0, I 0, S (⟨#[]⟩), S (⟨#[]⟩), I 0]), (5, .obj bo4_6_1 [I (IntKind.i64.wrap (bat t 0)), I (numW (⟨t, 1, false⟩ : l16Cur)), I (numW (numC (⟨t, 1, false⟩ : l16Cur))), S (shW (numC (numC (⟨t, 1, false⟩ : l16Cur)))), S (shW (shC (numC (numC (⟨t, 1, false⟩ : l16Cur))))), I (numW (shC (shC (numC (numC (⟨t, 1, false⟩ : l16Cur))))))]), (49, Bo v14)]) (fun v14 => v14 = (((numC (shC (shC (numC (numC (⟨t, 1, false⟩ : l16Cur)))))).bad || (!((cmdT (⟨(IntKind.i64.wrap (bat t 0)), (numW (⟨t, 1, false⟩ : l16Cur)), (numW (numC (⟨t, 1, false⟩ : l16Cur))), (shW (numC (numC (⟨t, 1, false⟩ : l16Cur)))), (shW (shC (numC (numC (⟨t, 1, false⟩ : l16Cur))))), (numW (shC (shC (numC (numC (⟨t, 1, false⟩ : l16Cur))))))⟩ : Command)).2))) || (!(((cmdT (⟨(IntKind.i64.wrap (bat t 0)), (numW (⟨t, 1, false⟩ : l16Cur)), (numW (numC (⟨t, 1, false⟩ : l16Cur))), (shW (numC (numC (⟨t, 1, false⟩ : l16Cur)))), (shW (shC (numC (numC (⟨t, 1, false⟩ : l16Cur))))), (numW (shC (shC (numC (numC (⟨t, 1, false⟩ : l16Cur))))))⟩ : Command)).1).toList == t.toList)))) ?_ ?_
   ·refine CW.region ?_
    refine RW.k XK 52 5 rfl ?_
    (conv=>whnf);refine ⟨rfl,?_⟩
    refine RW.gv rfl rfl rfl rfl (fun h15 => V.mv (d := Bo ((cmdT (⟨(IntKind.i64.wrap (bat t 0)), (numW (⟨t, 1, false⟩ : l16Cur)), (numW (numC (⟨t, 1, false⟩ : l16Cur))), (shW (numC (numC (⟨t, 1, false⟩ : l16Cur)))), (shW (shC (numC (numC (⟨t, 1, false⟩ : l16Cur))))), (numW (shC (shC (numC (numC (⟨t, 1, false⟩ : l16Cur))))))⟩ : Command)).2)) rfl rfl) (fun h15 => ?_) (fun h15 => ?_)
    ·skip
     refine RW.k XK 52 3 rfl ?_
     (conv=>whnf);refine ⟨rfl,?_⟩
     refine RW.gv rfl rfl rfl rfl (fun h16 => V.mv (d := S ((cmdT (⟨(IntKind.i64.wrap (bat t 0)), (numW (⟨t, 1, false⟩ : l16Cur)), (numW (numC (⟨t, 1, false⟩ : l16Cur))), (shW (numC (numC (⟨t, 1, false⟩ : l16Cur)))), (shW (shC (numC (numC (⟨t, 1, false⟩ : l16Cur))))), (numW (shC (shC (numC (numC (⟨t, 1, false⟩ : l16Cur))))))⟩ : Command)).1)) rfl rfl) (fun h16 => ?_) (fun h16 => ?_)
     ·skip
      refine RW.k XK 52 3 rfl ?_
      (conv=>whnf);refine ⟨rfl,?_⟩
      refine RW.nil ?_
      exact ⟨_, by first | rfl | (simp_all; done) | (simp_all; omega) | grind, rfl, Le.of rfl⟩
     ·skip
      refine RW.k XK 52 3 rfl ?_
      (conv=>whnf);refine ⟨rfl,?_⟩
      refine RW.nil ?_
      exact ⟨_, by first | rfl | (simp_all; done) | (simp_all; omega) | grind, rfl, Le.of rfl⟩
    ·skip
     refine RW.k XK 52 7 rfl ?_
     (conv=>whnf);refine ⟨rfl,?_⟩
     refine RW.nil ?_
     exact ⟨_, by first | rfl | (simp_all; done) | (simp_all; omega) | grind, rfl, Le.of rfl⟩
   ·intro v14 hv17
    refine CW.cond rfl (fun h18 => ?_) (fun h18 => ?_)
    ·skip
     have hvv := hv17.symm.trans h18
     refine CW.k XK 52 1 [2,3] rfl ?_
     (conv=>whnf);refine ⟨rfl,?_⟩
     refine CW.ret ?_
     exact Post.tup (by decide) (RVs.c (RV.c (f := fun e => (Command.c e).map .w) (e' := (⟨0, 0, 0, ⟨#[]⟩, ⟨#[]⟩, 0⟩ : Command)) rfl rfl rfl rfl (DT.v (DT.v (DT.v (DT.v (DT.v (DT.v DT.e)))))) (by rw [← hrd, rdS_bad hne hvv] <;> rfl)) (RVs.c (RV.b rfl (by rw [← hrd, rdS_bad hne hvv] <;> rfl)) RVs.e)) (AOs.r AOs.e)
    ·skip
     have hvv := hv17.symm.trans h18
     refine CW.skip ?_
     refine CW.keep 52 [2,5] rfl ?_;(conv=>whnf);refine ⟨?_⟩
     refine CW.k XK 52 1 [2,3] rfl ?_
     (conv=>whnf);refine ⟨rfl,?_⟩
     refine CW.ret ?_
     exact Post.tup (by decide) (RVs.c (RV.c (f := fun e => (Command.c e).map .w) (e' := (⟨(IntKind.i64.wrap (bat t 0)), (numW (⟨t, 1, false⟩ : l16Cur)), (numW (numC (⟨t, 1, false⟩ : l16Cur))), (shW (numC (numC (⟨t, 1, false⟩ : l16Cur)))), (shW (shC (numC (numC (⟨t, 1, false⟩ : l16Cur))))), (numW (shC (shC (numC (numC (⟨t, 1, false⟩ : l16Cur))))))⟩ : Command)) rfl rfl rfl rfl (DT.v (DT.v (DT.v (DT.v (DT.v (DT.v DT.e)))))) (by rw [← hrd, rdS_good hne hvv] <;> rfl)) (RVs.c (RV.b rfl (by rw [← hrd, rdS_good hne hvv] <;> rfl)) RVs.e)) (AOs.r AOs.e)
set_option maxHeartbeats 4000000 in
theorem impl_Fold_fn (k : Keep) (l : List Entry) (x : Int) (hk : KOk k) (he : ∀ e ∈ l, entOk e) (hll : l.length ≤ 1048576) : Eng.Fn E.P 31 [.agg ((Keep.c k).map .r), .one (.r (sl 3 Entry.c l)), .one (.r (.v (.int .i64 x)))] (.tup [.agg ((Keep.c ((foldR x l 0 k).1)).map .r), .one (.r (sl 1 cS ((foldR x l 0 k).2)))]) [.agg ((Keep.c k).map .r), .one (.r (sl 3 Entry.c l)), .one (.r (.v (.int .i64 x)))] := by
 refine Eng.Fn.intro (E := E) (rvs := [.cell 6 31, .tmp 7]) Tryd.func31 rfl rfl rfl (by simp [outSlots, moved, rvSlot, sl]) ?_
 intro B g bo
 refine CW.bound (x := .tmp 1) (n := l.length) (AsT.r) (fun hl1 => ?_)
 refine CW.keep 60 [0,1,2] rfl ?_;(conv=>whnf);refine ⟨?_⟩
 refine CW.seq ?_
 refine CW.region ?_
 refine RW.k XK 60 1 rfl ?_
 (conv=>whnf);intro b1;(conv=>whnf);refine ⟨rfl,?_⟩
 refine RW.freezeB (ts := (Keep.c k)) 3 rfl (DRd.r (DRd.r DRd.e)) ?_
 refine RW.k XK 60 2 rfl ?_
 (conv=>whnf);intro b2;(conv=>whnf);refine ⟨rfl,?_⟩
 refine RW.nil ?_
 refine CW.keep 60 [1,2,3,6] rfl ?_;(conv=>whnf);refine ⟨?_⟩
 refine CW.seq ?_
 refine CW.region ?_
 refine RW.k XK 60 1 rfl ?_
 (conv=>whnf);refine ⟨rfl,?_⟩
 refine RW.call rfl (impl_copyKeep_fn k hk.okTo) rfl (.cons (.agg (.cons (.r .r) (.cons (.r .r) (.nil)))) (.nil)) fun g3 => ?_
 refine RW.k XK 60 2 rfl ?_
 (conv=>whnf);intro b4;(conv=>whnf);refine ⟨rfl,?_⟩
 refine RW.keep 60 [1,2,6,8,19] rfl ?_;(conv=>whnf);refine ⟨?_⟩
 refine RW.pullA (k := 8) (l := 19) (j := 0) 8 19 0 rfl rfl rfl (by decide) rfl rfl rfl rfl ?_
 refine RW.keep 60 [1,2,6,8,19] rfl ?_;(conv=>whnf);refine ⟨?_⟩
 refine RW.pullA (k := 8) (l := 19) (j := 1) 8 19 1 rfl rfl rfl (by decide) rfl rfl rfl rfl ?_
 refine RW.keep 60 [1,2,6,8] rfl ?_;(conv=>whnf);refine ⟨?_⟩
 refine RW.nil ?_
 refine CW.keep 60 [1,2,6,8] rfl ?_;(conv=>whnf);refine ⟨?_⟩
 refine CW.seq ?_
 refine CW.region ?_
 refine RW.build0 cS rfl rfl rfl rfl rfl fun X5 => ?_
 refine RW.assignMove rfl rfl rfl (by decide) (Nat.le_of_ble_eq_true rfl) (Nat.le_of_ble_eq_true rfl) ?_
 refine RW.nil ?_
 refine CW.keep 60 [1,2,6,8,9] rfl ?_;(conv=>whnf);refine ⟨?_⟩
 refine CW.seq ?_
 refine CW.k XK 60 1 [2,6,8,9,21,22,23] rfl ?_
 (conv=>whnf);refine ⟨rfl,?_⟩
 refine CW.block ?_
 refine CW.freeze 8 (d' := .obj b4 ((Keep.c k).map .r)) rfl rfl ?_
 refine CW.loopI 60 (fun (zz : Nat × Keep × List ByteArray × Value) => match zz with | (i, o, rs, X) => [(2, I x), (6, .obj b2 [.r (.v (.slice none 0 0)), .r (.v (.slice none 0 0))]), (8, .obj b4 ((Keep.c o).map .r)), (9, .w (sl 1 cS rs) X), (21, .r (sl 3 Entry.c l)), (22, I (l.length : Int)), (23, I (i : Int))]) (fun (zz : Nat × Keep × List ByteArray × Value) => match zz with | (i, o, rs, X) => FoP x k l i o rs) (fun (zz : Nat × Keep × List ByteArray × Value) => match zz with | (i, o, rs, X) => l.length - i) (0, _, [], _) rfl (Le.c rfl <| Le.c rfl <| Le.c rfl <| Le.c rfl <| Le.c rfl <| Le.c rfl <| Le.c rfl <| Le.e) (FoP.init hk) ?_
 rintro ⟨i, o, rs, X⟩ hP
 refine CW.k XK 60 1 [2,6,8,9,21,22,23,24] rfl ?_
 (conv=>whnf);refine ⟨rfl,?_⟩
 refine CW.seq ?_
 refine CW.cond rfl (fun h6 => ?_) (fun h6 => ?_)
 ·skip
  have hii : i < l.length := by have := h6; simp at this; first | exact this | omega | (simp; done) | (simp; omega)
  obtain ⟨ei, hei⟩ : ∃ e, l[i]? = some e := ⟨_, List.getElem?_eq_getElem hii⟩
  have hdi := drop_get hei
  refine CW.skip ?_
  refine CW.keep 60 [2,6,8,9,21,22,23] rfl ?_;(conv=>whnf);refine ⟨?_⟩
  refine CW.seq ?_
  refine CW.block ?_
  refine CW.seq ?_
  refine CW.region ?_
  refine RW.k XK 60 1 rfl ?_
  (conv=>whnf);refine ⟨rfl,?_⟩
  refine RW.v rfl (V.indexS rfl rfl rfl rfl rfl rfl Entry.len hei) ?_
  refine RW.k XK 60 4 rfl ?_
  (conv=>whnf);intro b7;(conv=>whnf);refine ⟨rfl,?_⟩
  refine RW.freezeB (ts := (Entry.c ei)) 11 rfl (DRd.r (DRd.r (DRd.r DRd.e))) ?_
  refine RW.nil ?_
  refine CW.keep 60 [2,6,8,9,10,11,21,22,23] rfl ?_;(conv=>whnf);refine ⟨?_⟩
  refine CW.seq ?_
  refine CW.region ?_
  refine RW.k XK 60 2 rfl ?_
  (conv=>whnf);refine ⟨rfl,?_⟩
  refine RW.call rfl (impl_ReadCommand_fn ei.data (he ei (List.mem_of_getElem? hei))) rfl (.cons (.one (.r .r)) (.nil)) fun g8 => ?_
  refine RW.k XK 60 5 rfl ?_
  (conv=>whnf);intro b9;(conv=>whnf);refine ⟨rfl,?_⟩
  refine RW.freezeB (ts := (Command.c ((rdCmd ei.data).1))) 12 rfl (DRd.r (DRd.r (DRd.r (DRd.r (DRd.r (DRd.r DRd.e)))))) ?_
  refine RW.k XK 60 1 rfl ?_
  (conv=>whnf);refine ⟨rfl,?_⟩
  refine RW.nil ?_
  refine CW.keep 60 [2,6,8,9,10,11,12,13,21,22,23] rfl ?_;(conv=>whnf);refine ⟨?_⟩
  refine CW.k XK 60 1 [2,6,8,9,10,11,12,13,14,21,22,23] rfl ?_
  (conv=>whnf);refine ⟨rfl,?_⟩
  refine CW.seq ?_
  refine CW.seqJ 60 (fun (v10 : Bool) => [(2, I x), (6, .obj b2 [.r (.v (.slice none 0 0)), .r (.v (.slice none 0 0))]), (8, .obj b4 ((Keep.c o).map .r)), (9, .w (sl 1 cS rs) X), (10, I (i : Int)), (12, .rp (Command.c ((rdCmd ei.data).1))), (14, S (⟨#[]⟩ : ByteArray)), (21, .r (sl 3 Entry.c l)), (22, I (l.length : Int)), (23, I (i : Int)), (39, Bo v10)]) (fun v10 => v10 = ((ei.kind == 3) && ((rdCmd ei.data).2))) ?_ ?_
  ·refine CW.region ?_
   refine RW.k XK 60 4 rfl ?_
   (conv=>whnf);refine ⟨rfl,?_⟩
   refine RW.gv rfl rfl rfl rfl (fun h11 => V.mv (d := Bo ((rdCmd ei.data).2)) rfl rfl) (fun h11 => ?_) (fun h11 => ?_)
   ·skip
    refine RW.k XK 60 1 rfl ?_
    (conv=>whnf);refine ⟨rfl,?_⟩
    refine RW.nil ?_
    exact ⟨_, by first | rfl | (simp_all; done) | (simp_all; omega) | grind, rfl, Le.of rfl⟩
   ·skip
    refine RW.k XK 60 1 rfl ?_
    (conv=>whnf);refine ⟨rfl,?_⟩
    refine RW.nil ?_
    exact ⟨_, by first | rfl | (simp_all; done) | (simp_all; omega) | grind, rfl, Le.of rfl⟩
  ·intro v10 hv12
   refine CW.cond rfl (fun h13 => ?_) (fun h13 => ?_)
   ·skip
    have hvv := hv12.symm.trans h13
    refine CW.seq ?_
    refine CW.region ?_
    refine RW.k XK 60 5 rfl ?_
    (conv=>whnf);refine ⟨rfl,?_⟩
    refine RW.call rfl (impl_Perform_fn o (IntKind.i64.wrap (x + (i : Int))) ((rdCmd ei.data).1) hP.ok.okTo) rfl (.cons (.agg (.cons (.r .r) (.cons (.r .r) (.nil)))) (.cons (.one (.r .r)) (.cons (.agg (.cons (.r .r) (.cons (.r .r) (.cons (.r .r) (.cons (.r .r) (.cons (.r .r) (.cons (.r .r) (.nil)))))))) (.nil)))) fun g14 => ?_
    refine RW.k XK 60 6 rfl ?_
    (conv=>whnf);intro b15;(conv=>whnf);refine ⟨rfl,?_⟩
    refine RW.freezeB (ts := (Keep.c ((perfK o (IntKind.i64.wrap (x + (i : Int))) ((rdCmd ei.data).1)).1))) 15 rfl (DRd.r (DRd.r DRd.e)) ?_
    refine RW.k XK 60 2 rfl ?_
    (conv=>whnf);refine ⟨rfl,?_⟩
    refine RW.nil ?_
    refine CW.keep 60 [2,6,8,9,14,15,16,17,21,22,23] rfl ?_;(conv=>whnf);refine ⟨?_⟩
    refine CW.k XK 60 1 [2,6,8,9,14,15,16,21,22,23,50] rfl ?_
    (conv=>whnf);refine ⟨rfl,?_⟩
    refine CW.cond rfl (fun h16 => ?_) (fun h16 => ?_)
    ·skip
     have hd := h16
     refine CW.region ?_
     refine RW.k XK 60 4 rfl ?_
     (conv=>whnf);refine ⟨rfl,?_⟩
     refine RW.nil ?_
     refine CW.keep 60 [2,6,8,9,14,21,22,23] rfl ?_;(conv=>whnf);refine ⟨?_⟩
     refine CW.region ?_
     refine RW.k XK 60 2 rfl ?_
     (conv=>whnf);refine ⟨rfl,?_⟩
     refine RW.build1c (c := cS) (v := ((perfK o (IntKind.i64.wrap (x + (i : Int))) ((rdCmd ei.data).1)).2.1)) (u := .v (.string ((perfK o (IntKind.i64.wrap (x + (i : Int))) ((rdCmd ei.data).1)).2.1))) rfl rfl rfl rfl rfl rfl (.inl rfl) rfl rfl fun X17 => ?_
     refine RW.appendSR (c := cS) (l1 := rs) (l2 := [((perfK o (IntKind.i64.wrap (x + (i : Int))) ((rdCmd ei.data).1)).2.1)]) rfl rfl rfl rfl rfl rfl rfl rfl (.al (k := none) (i := 55) (sz := 1) (V := X17) rfl rfl nofun) (by decide) (Nat.le_of_ble_eq_true rfl) cS.len (fun _ => rfl) rfl (by have h9 := hP.len; have h8 := hP.le; simp only [maxLen, List.length_singleton] at *; omega) (by have h9 := hP.len; have h8 := hP.le; simp only [maxLen, List.length_singleton] at *; omega) fun X18 => ?_
     refine RW.assignMove rfl rfl rfl (by decide) (Nat.le_of_ble_eq_true rfl) (Nat.le_of_ble_eq_true rfl) ?_
     refine RW.nil ?_
     refine CW.keep 60 [2,6,8,9,21,22,23] rfl ?_;(conv=>whnf);refine ⟨?_⟩
     refine CW.region ?_
     refine RW.v rfl (V.inc rfl rfl rfl hii hl1) ?_
     refine RW.k XK 60 1 rfl ?_
     (conv=>whnf);refine ⟨rfl,?_⟩
     refine RW.nil ?_
     exact ⟨(i + 1, _, _, _), by simp only []; omega, (by first | exact hP.yes hei hvv hd | exact hP.no hei (by rw [hd]; simp) | exact hP.no hei (by rw [hvv]; rfl)), rfl, Le.c rfl <| Le.c rfl <| Le.c rfl <| Le.c rfl <| Le.c rfl <| Le.c rfl <| Le.c rfl <| Le.e⟩
    ·skip
     have hd := h16
     refine CW.skip ?_
     refine CW.keep 60 [2,6,8,9,14,21,22,23] rfl ?_;(conv=>whnf);refine ⟨?_⟩
     refine CW.region ?_
     refine RW.k XK 60 2 rfl ?_
     (conv=>whnf);refine ⟨rfl,?_⟩
     refine RW.build1c (c := cS) (v := (⟨#[]⟩ : ByteArray)) (u := .v (.string (⟨#[]⟩ : ByteArray))) rfl rfl rfl rfl rfl rfl (.inl rfl) rfl rfl fun X19 => ?_
     refine RW.appendSR (c := cS) (l1 := rs) (l2 := [(⟨#[]⟩ : ByteArray)]) rfl rfl rfl rfl rfl rfl rfl rfl (.al (k := none) (i := 55) (sz := 1) (V := X19) rfl rfl nofun) (by decide) (Nat.le_of_ble_eq_true rfl) cS.len (fun _ => rfl) rfl (by have h9 := hP.len; have h8 := hP.le; simp only [maxLen, List.length_singleton] at *; omega) (by have h9 := hP.len; have h8 := hP.le; simp only [maxLen, List.length_singleton] at *; omega) fun X20 => ?_
     refine RW.assignMove rfl rfl rfl (by decide) (Nat.le_of_ble_eq_true rfl) (Nat.le_of_ble_eq_true rfl) ?_
     refine RW.nil ?_
     refine CW.keep 60 [2,6,8,9,21,22,23] rfl ?_;(conv=>whnf);refine ⟨?_⟩
     refine CW.region ?_
     refine RW.v rfl (V.inc rfl rfl rfl hii hl1) ?_
     refine RW.k XK 60 1 rfl ?_
     (conv=>whnf);refine ⟨rfl,?_⟩
     refine RW.nil ?_
     exact ⟨(i + 1, _, _, _), by simp only []; omega, (by first | exact hP.yes hei hvv hd | exact hP.no hei (by rw [hd]; simp) | exact hP.no hei (by rw [hvv]; rfl)), rfl, Le.c rfl <| Le.c rfl <| Le.c rfl <| Le.c rfl <| Le.c rfl <| Le.c rfl <| Le.c rfl <| Le.e⟩
   ·skip
    have hvv := hv12.symm.trans h13
    refine CW.skip ?_
    refine CW.keep 60 [2,6,8,9,14,21,22,23] rfl ?_;(conv=>whnf);refine ⟨?_⟩
    refine CW.region ?_
    refine RW.k XK 60 2 rfl ?_
    (conv=>whnf);refine ⟨rfl,?_⟩
    refine RW.build1c (c := cS) (v := (⟨#[]⟩ : ByteArray)) (u := .v (.string (⟨#[]⟩ : ByteArray))) rfl rfl rfl rfl rfl rfl (.inl rfl) rfl rfl fun X21 => ?_
    refine RW.appendSR (c := cS) (l1 := rs) (l2 := [(⟨#[]⟩ : ByteArray)]) rfl rfl rfl rfl rfl rfl rfl rfl (.al (k := none) (i := 55) (sz := 1) (V := X21) rfl rfl nofun) (by decide) (Nat.le_of_ble_eq_true rfl) cS.len (fun _ => rfl) rfl (by have h9 := hP.len; have h8 := hP.le; simp only [maxLen, List.length_singleton] at *; omega) (by have h9 := hP.len; have h8 := hP.le; simp only [maxLen, List.length_singleton] at *; omega) fun X22 => ?_
    refine RW.assignMove rfl rfl rfl (by decide) (Nat.le_of_ble_eq_true rfl) (Nat.le_of_ble_eq_true rfl) ?_
    refine RW.nil ?_
    refine CW.keep 60 [2,6,8,9,21,22,23] rfl ?_;(conv=>whnf);refine ⟨?_⟩
    refine CW.region ?_
    refine RW.v rfl (V.inc rfl rfl rfl hii hl1) ?_
    refine RW.k XK 60 1 rfl ?_
    (conv=>whnf);refine ⟨rfl,?_⟩
    refine RW.nil ?_
    exact ⟨(i + 1, _, _, _), by simp only []; omega, (by first | exact hP.yes hei hvv hd | exact hP.no hei (by rw [hd]; simp) | exact hP.no hei (by rw [hvv]; rfl)), rfl, Le.c rfl <| Le.c rfl <| Le.c rfl <| Le.c rfl <| Le.c rfl <| Le.c rfl <| Le.c rfl <| Le.e⟩
 ·skip
  have hii : l.length ≤ i := by have := h6; simp at this; first | exact this | omega | (simp; done) | (simp; omega)
  have hdi : l.drop i = [] := List.drop_eq_nil_of_le hii
  refine CW.exit ?_
  refine CW.keep 60 [6,8,9] rfl ?_;(conv=>whnf);refine ⟨?_⟩
  refine CW.seq ?_
  refine CW.region ?_
  refine RW.k XK 60 4 rfl ?_
  (conv=>whnf);refine ⟨rfl,?_⟩
  refine RW.pullS 7 9 (by decide) rfl rfl ?_
  refine RW.nil ?_
  refine CW.keep 60 [6,7] rfl ?_;(conv=>whnf);refine ⟨?_⟩
  refine CW.freeze 7 (d' := .r (sl 1 cS rs)) rfl rfl ?_
  refine CW.ret ?_
  exact Post.tup (by decide) (RVs.c (RV.c (f := fun e => (Keep.c e).map .r) (e' := o) rfl rfl rfl rfl (DT.r (DT.r DT.e)) (by rw [hP.fin hii])) (RVs.c (RV.r rfl (by rw [hP.fin hii])) RVs.e)) (AOs.a rfl (AOs.r (AOs.r AOs.e)))
set_option maxHeartbeats 4000000 in
theorem spec_Fold_fn (k : Keep) (l : List Entry) (x : Int) (hk : KOk k) (he : ∀ e ∈ l, entOk e) (hll : l.length ≤ 1048576) (hix : idxOk x l.length) : Eng.Fn E.P 32 [.agg ((Keep.c k).map .r), .one (.r (sl 3 Entry.c l)), .one (.r (.v (.int .i64 x)))] (.tup [.agg ((Keep.c ((foldR x l 0 k).1)).map .r), .one (.r (sl 1 cS ((foldR x l 0 k).2)))]) [.agg ((Keep.c k).map .r), .one (.r (sl 3 Entry.c l)), .one (.r (.v (.int .i64 x)))] := by
 refine Eng.Fn.intro (E := E) (rvs := [.cell 6 31, .tmp 7]) Tryd.func32 rfl rfl rfl (by simp [outSlots, moved, rvSlot, sl]) ?_
 intro B g bo
 refine CW.bound (x := .tmp 1) (n := l.length) (AsT.r) (fun hl1 => ?_)
 refine CW.keep 71 [0,1,2] rfl ?_;(conv=>whnf);refine ⟨?_⟩
 refine CW.seq ?_
 refine CW.region ?_
 refine RW.k XK 71 1 rfl ?_
 (conv=>whnf);intro b1;(conv=>whnf);refine ⟨rfl,?_⟩
 refine RW.freezeB (ts := (Keep.c k)) 3 rfl (DRd.r (DRd.r DRd.e)) ?_
 refine RW.k XK 71 2 rfl ?_
 (conv=>whnf);intro b2;(conv=>whnf);refine ⟨rfl,?_⟩
 refine RW.nil ?_
 refine CW.keep 71 [1,2,3,6] rfl ?_;(conv=>whnf);refine ⟨?_⟩
 refine CW.seq ?_
 refine CW.region ?_
 refine RW.k XK 71 1 rfl ?_
 (conv=>whnf);refine ⟨rfl,?_⟩
 refine RW.call rfl (spec_l15Copy_fn k hk.okTo) rfl (.cons (.agg (.cons (.r .r) (.cons (.r .r) (.nil)))) (.nil)) fun g3 => ?_
 refine RW.k XK 71 2 rfl ?_
 (conv=>whnf);intro b4;(conv=>whnf);refine ⟨rfl,?_⟩
 refine RW.keep 71 [1,2,6,8,18] rfl ?_;(conv=>whnf);refine ⟨?_⟩
 refine RW.pullA (k := 8) (l := 18) (j := 0) 8 18 0 rfl rfl rfl (by decide) rfl rfl rfl rfl ?_
 refine RW.keep 71 [1,2,6,8,18] rfl ?_;(conv=>whnf);refine ⟨?_⟩
 refine RW.pullA (k := 8) (l := 18) (j := 1) 8 18 1 rfl rfl rfl (by decide) rfl rfl rfl rfl ?_
 refine RW.keep 71 [1,2,6,8] rfl ?_;(conv=>whnf);refine ⟨?_⟩
 refine RW.nil ?_
 refine CW.keep 71 [1,2,6,8] rfl ?_;(conv=>whnf);refine ⟨?_⟩
 refine CW.seq ?_
 refine CW.region ?_
 refine RW.build0 cS rfl rfl rfl rfl rfl fun X5 => ?_
 refine RW.assignMove rfl rfl rfl (by decide) (Nat.le_of_ble_eq_true rfl) (Nat.le_of_ble_eq_true rfl) ?_
 refine RW.nil ?_
 refine CW.keep 71 [1,2,6,8,9] rfl ?_;(conv=>whnf);refine ⟨?_⟩
 refine CW.seq ?_
 refine CW.k XK 71 1 [1,2,6,8,9,10] rfl ?_
 (conv=>whnf);refine ⟨rfl,?_⟩
 refine CW.block ?_
 refine CW.freeze 8 (d' := .obj b4 ((Keep.c k).map .r)) rfl rfl ?_
 refine CW.loopI 71 (fun (zz : Nat × Keep × List ByteArray × Value) => match zz with | (i, o, rs, X) => [(1, .r (sl 3 Entry.c l)), (2, I x), (6, .obj b2 [.r (.v (.slice none 0 0)), .r (.v (.slice none 0 0))]), (8, .obj b4 ((Keep.c o).map .r)), (9, .w (sl 1 cS rs) X), (10, I (i : Int))]) (fun (zz : Nat × Keep × List ByteArray × Value) => match zz with | (i, o, rs, X) => FoP x k l i o rs) (fun (zz : Nat × Keep × List ByteArray × Value) => match zz with | (i, o, rs, X) => l.length - i) (0, _, [], _) rfl (Le.c rfl <| Le.c rfl <| Le.c rfl <| Le.c rfl <| Le.c rfl <| Le.c rfl <| Le.e) (FoP.init hk) ?_
 rintro ⟨i, o, rs, X⟩ hP
 refine CW.seq ?_
 refine CW.k XK 71 1 [1,2,6,8,9,10,23] rfl ?_
 (conv=>whnf);refine ⟨rfl,?_⟩
 refine CW.cond rfl (fun h6 => ?_) (fun h6 => ?_)
 ·skip
  have hii : i < l.length := by have := h6; simp at this; first | exact this | omega | (simp; done) | (simp; omega)
  obtain ⟨ei, hei⟩ : ∃ e, l[i]? = some e := ⟨_, List.getElem?_eq_getElem hii⟩
  have hdi := drop_get hei
  refine CW.skip ?_
  refine CW.keep 71 [1,2,6,8,9,10] rfl ?_;(conv=>whnf);refine ⟨?_⟩
  refine CW.seq ?_
  refine CW.block ?_
  refine CW.k XK 71 1 [1,2,6,8,9,10,11] rfl ?_
  (conv=>whnf);refine ⟨rfl,?_⟩
  refine CW.seq ?_
  refine CW.seqJ 71 (fun (v7 : Bool) => [(1, .r (sl 3 Entry.c l)), (2, I x), (6, .obj b2 [.r (.v (.slice none 0 0)), .r (.v (.slice none 0 0))]), (8, .obj b4 ((Keep.c o).map .r)), (9, .w (sl 1 cS rs) X), (10, I (i : Int)), (11, S (⟨#[]⟩ : ByteArray)), (39, Bo v7)]) (fun v7 => v7 = (((ei.kind == 3) && decide (x ≥ (-1000000))) && decide (x ≤ 1000000))) ?_ ?_
  ·refine CW.region ?_
   refine RW.k XK 71 2 rfl ?_
   (conv=>whnf);refine ⟨rfl,?_⟩
   refine RW.v rfl (V.indexS rfl rfl rfl rfl rfl rfl Entry.len hei) ?_
   refine RW.k XK 71 4 rfl ?_
   (conv=>whnf);refine ⟨rfl,?_⟩
   refine RW.gv rfl rfl rfl rfl (fun h8 => V.mv (d := I x) rfl rfl) (fun h8 => ?_) (fun h8 => ?_)
   ·skip
    refine RW.k XK 71 3 rfl ?_
    (conv=>whnf);refine ⟨rfl,?_⟩
    refine RW.gv rfl rfl rfl rfl (fun h9 => V.mv (d := I x) rfl rfl) (fun h9 => ?_) (fun h9 => ?_)
    ·skip
     refine RW.k XK 71 2 rfl ?_
     (conv=>whnf);refine ⟨rfl,?_⟩
     refine RW.nil ?_
     exact ⟨_, by first | rfl | (simp_all; done) | (simp_all; omega) | grind, rfl, Le.of rfl⟩
    ·skip
     refine RW.k XK 71 2 rfl ?_
     (conv=>whnf);refine ⟨rfl,?_⟩
     refine RW.nil ?_
     exact ⟨_, by first | rfl | (simp_all; done) | (simp_all; omega) | grind, rfl, Le.of rfl⟩
   ·skip
    refine RW.k XK 71 6 rfl ?_
    (conv=>whnf);refine ⟨rfl,?_⟩
    refine RW.nil ?_
    exact ⟨_, by first | rfl | (simp_all; done) | (simp_all; omega) | grind, rfl, Le.of rfl⟩
  ·intro v7 hv10
   refine CW.cond rfl (fun h11 => ?_) (fun h11 => ?_)
   ·skip
    have hvv := hv10.symm.trans h11
    refine CW.seq ?_
    refine CW.region ?_
    refine RW.k XK 71 2 rfl ?_
    (conv=>whnf);refine ⟨rfl,?_⟩
    refine RW.v rfl (V.indexS rfl rfl rfl rfl rfl rfl Entry.len hei) ?_
    refine RW.k XK 71 2 rfl ?_
    (conv=>whnf);refine ⟨rfl,?_⟩
    refine RW.call rfl (spec_ReadCommand_fn ei.data (he ei (List.mem_of_getElem? hei))) rfl (.cons (.one (.r .r)) (.nil)) fun g12 => ?_
    refine RW.k XK 71 5 rfl ?_
    (conv=>whnf);intro b13;(conv=>whnf);refine ⟨rfl,?_⟩
    refine RW.freezeB (ts := (Command.c ((rdCmd ei.data).1))) 12 rfl (DRd.r (DRd.r (DRd.r (DRd.r (DRd.r (DRd.r DRd.e)))))) ?_
    refine RW.k XK 71 1 rfl ?_
    (conv=>whnf);refine ⟨rfl,?_⟩
    refine RW.nil ?_
    refine CW.keep 71 [1,2,6,8,9,10,11,12,13] rfl ?_;(conv=>whnf);refine ⟨?_⟩
    refine CW.seq ?_
    refine CW.region ?_
    refine RW.k XK 71 5 rfl ?_
    (conv=>whnf);refine ⟨rfl,?_⟩
    refine RW.call rfl (spec_Perform_fn o (IntKind.i64.wrap (x + (i : Int))) ((rdCmd ei.data).1) hP.ok.okTo) rfl (.cons (.agg (.cons (.r .r) (.cons (.r .r) (.nil)))) (.cons (.one (.r .r)) (.cons (.agg (.cons (.r .r) (.cons (.r .r) (.cons (.r .r) (.cons (.r .r) (.cons (.r .r) (.cons (.r .r) (.nil)))))))) (.nil)))) fun g14 => ?_
    refine RW.k XK 71 6 rfl ?_
    (conv=>whnf);intro b15;(conv=>whnf);refine ⟨rfl,?_⟩
    refine RW.freezeB (ts := (Keep.c ((perfK o (IntKind.i64.wrap (x + (i : Int))) ((rdCmd ei.data).1)).1))) 14 rfl (DRd.r (DRd.r DRd.e)) ?_
    refine RW.k XK 71 2 rfl ?_
    (conv=>whnf);refine ⟨rfl,?_⟩
    refine RW.nil ?_
    refine CW.keep 71 [1,2,6,8,9,10,11,13,14,15,16] rfl ?_;(conv=>whnf);refine ⟨?_⟩
    refine CW.seqJ 71 (fun (v16 : Bool) => [(1, .r (sl 3 Entry.c l)), (2, I x), (6, .obj b2 [.r (.v (.slice none 0 0)), .r (.v (.slice none 0 0))]), (8, .obj b4 ((Keep.c o).map .r)), (9, .w (sl 1 cS rs) X), (10, I (i : Int)), (11, S (⟨#[]⟩ : ByteArray)), (14, .rp (Keep.c ((perfK o (IntKind.i64.wrap (x + (i : Int))) ((rdCmd ei.data).1)).1))), (15, S ((perfK o (IntKind.i64.wrap (x + (i : Int))) ((rdCmd ei.data).1)).2.1)), (62, Bo v16)]) (fun v16 => v16 = (((rdCmd ei.data).2) && ((perfK o (IntKind.i64.wrap (x + (i : Int))) ((rdCmd ei.data).1)).2.2))) ?_ ?_
    ·refine CW.region ?_
     refine RW.k XK 71 2 rfl ?_
     (conv=>whnf);refine ⟨rfl,?_⟩
     refine RW.gv rfl rfl rfl rfl (fun h17 => V.mv (d := Bo ((perfK o (IntKind.i64.wrap (x + (i : Int))) ((rdCmd ei.data).1)).2.2)) rfl rfl) (fun h17 => ?_) (fun h17 => ?_)
     ·skip
      refine RW.k XK 71 1 rfl ?_
      (conv=>whnf);refine ⟨rfl,?_⟩
      refine RW.nil ?_
      exact ⟨_, by first | rfl | (simp_all; done) | (simp_all; omega) | grind, rfl, Le.of rfl⟩
     ·skip
      refine RW.k XK 71 1 rfl ?_
      (conv=>whnf);refine ⟨rfl,?_⟩
      refine RW.nil ?_
      exact ⟨_, by first | rfl | (simp_all; done) | (simp_all; omega) | grind, rfl, Le.of rfl⟩
    ·intro v16 hv18
     refine CW.cond rfl (fun h19 => ?_) (fun h19 => ?_)
     ·skip
      have hww := hv18.symm.trans h19
      refine CW.k XK 71 1 [1,2,6,8,9,10,15] rfl ?_
      (conv=>whnf);refine ⟨rfl,?_⟩
      refine CW.region ?_
      refine RW.k XK 71 2 rfl ?_
      (conv=>whnf);refine ⟨rfl,?_⟩
      refine RW.nil ?_
      refine CW.keep 71 [1,2,6,8,9,10,11] rfl ?_;(conv=>whnf);refine ⟨?_⟩
      refine CW.region ?_
      refine RW.k XK 71 2 rfl ?_
      (conv=>whnf);refine ⟨rfl,?_⟩
      refine RW.build1c (c := cS) (v := ((perfK o (IntKind.i64.wrap (x + (i : Int))) ((rdCmd ei.data).1)).2.1)) (u := .v (.string ((perfK o (IntKind.i64.wrap (x + (i : Int))) ((rdCmd ei.data).1)).2.1))) rfl rfl rfl rfl rfl rfl (.inl rfl) rfl rfl fun X20 => ?_
      refine RW.appendSR (c := cS) (l1 := rs) (l2 := [((perfK o (IntKind.i64.wrap (x + (i : Int))) ((rdCmd ei.data).1)).2.1)]) rfl rfl rfl rfl rfl rfl rfl rfl (.al (k := none) (i := 67) (sz := 1) (V := X20) rfl rfl nofun) (by decide) (Nat.le_of_ble_eq_true rfl) cS.len (fun _ => rfl) rfl (by have h9 := hP.len; have h8 := hP.le; simp only [maxLen, List.length_singleton] at *; omega) (by have h9 := hP.len; have h8 := hP.le; simp only [maxLen, List.length_singleton] at *; omega) fun X21 => ?_
      refine RW.assignMove rfl rfl rfl (by decide) (Nat.le_of_ble_eq_true rfl) (Nat.le_of_ble_eq_true rfl) ?_
      refine RW.nil ?_
      refine CW.keep 71 [1,2,6,8,9,10] rfl ?_;(conv=>whnf);refine ⟨?_⟩
      refine CW.region ?_
      refine RW.k XK 71 1 rfl ?_
      (conv=>whnf);refine ⟨rfl,?_⟩
      refine RW.v rfl (V.inc rfl rfl rfl hii hl1) ?_
      refine RW.k XK 71 1 rfl ?_
      (conv=>whnf);refine ⟨rfl,?_⟩
      refine RW.nil ?_
      exact ⟨(i + 1, _, _, _), by simp only []; omega, (by first | exact hP.yes hei (fo_y hvv hww).1 (fo_y hvv hww).2 | exact hP.no hei (fo_n hww) | exact hP.no hei (idx_no hix hii hvv)), rfl, Le.c rfl <| Le.c rfl <| Le.c rfl <| Le.c rfl <| Le.c rfl <| Le.c rfl <| Le.e⟩
     ·skip
      have hww := hv18.symm.trans h19
      refine CW.skip ?_
      refine CW.keep 71 [1,2,6,8,9,10,11] rfl ?_;(conv=>whnf);refine ⟨?_⟩
      refine CW.region ?_
      refine RW.k XK 71 2 rfl ?_
      (conv=>whnf);refine ⟨rfl,?_⟩
      refine RW.build1c (c := cS) (v := (⟨#[]⟩ : ByteArray)) (u := .v (.string (⟨#[]⟩ : ByteArray))) rfl rfl rfl rfl rfl rfl (.inl rfl) rfl rfl fun X22 => ?_
      refine RW.appendSR (c := cS) (l1 := rs) (l2 := [(⟨#[]⟩ : ByteArray)]) rfl rfl rfl rfl rfl rfl rfl rfl (.al (k := none) (i := 67) (sz := 1) (V := X22) rfl rfl nofun) (by decide) (Nat.le_of_ble_eq_true rfl) cS.len (fun _ => rfl) rfl (by have h9 := hP.len; have h8 := hP.le; simp only [maxLen, List.length_singleton] at *; omega) (by have h9 := hP.len; have h8 := hP.le; simp only [maxLen, List.length_singleton] at *; omega) fun X23 => ?_
      refine RW.assignMove rfl rfl rfl (by decide) (Nat.le_of_ble_eq_true rfl) (Nat.le_of_ble_eq_true rfl) ?_
      refine RW.nil ?_
      refine CW.keep 71 [1,2,6,8,9,10] rfl ?_;(conv=>whnf);refine ⟨?_⟩
      refine CW.region ?_
      refine RW.k XK 71 1 rfl ?_
      (conv=>whnf);refine ⟨rfl,?_⟩
      refine RW.v rfl (V.inc rfl rfl rfl hii hl1) ?_
      refine RW.k XK 71 1 rfl ?_
      (conv=>whnf);refine ⟨rfl,?_⟩
      refine RW.nil ?_
      exact ⟨(i + 1, _, _, _), by simp only []; omega, (by first | exact hP.yes hei (fo_y hvv hww).1 (fo_y hvv hww).2 | exact hP.no hei (fo_n hww) | exact hP.no hei (idx_no hix hii hvv)), rfl, Le.c rfl <| Le.c rfl <| Le.c rfl <| Le.c rfl <| Le.c rfl <| Le.c rfl <| Le.e⟩
   ·skip
    have hvv := hv10.symm.trans h11
    refine CW.skip ?_
    refine CW.keep 71 [1,2,6,8,9,10,11] rfl ?_;(conv=>whnf);refine ⟨?_⟩
    refine CW.region ?_
    refine RW.k XK 71 2 rfl ?_
    (conv=>whnf);refine ⟨rfl,?_⟩
    refine RW.build1c (c := cS) (v := (⟨#[]⟩ : ByteArray)) (u := .v (.string (⟨#[]⟩ : ByteArray))) rfl rfl rfl rfl rfl rfl (.inl rfl) rfl rfl fun X24 => ?_
    refine RW.appendSR (c := cS) (l1 := rs) (l2 := [(⟨#[]⟩ : ByteArray)]) rfl rfl rfl rfl rfl rfl rfl rfl (.al (k := none) (i := 67) (sz := 1) (V := X24) rfl rfl nofun) (by decide) (Nat.le_of_ble_eq_true rfl) cS.len (fun _ => rfl) rfl (by have h9 := hP.len; have h8 := hP.le; simp only [maxLen, List.length_singleton] at *; omega) (by have h9 := hP.len; have h8 := hP.le; simp only [maxLen, List.length_singleton] at *; omega) fun X25 => ?_
    refine RW.assignMove rfl rfl rfl (by decide) (Nat.le_of_ble_eq_true rfl) (Nat.le_of_ble_eq_true rfl) ?_
    refine RW.nil ?_
    refine CW.keep 71 [1,2,6,8,9,10] rfl ?_;(conv=>whnf);refine ⟨?_⟩
    refine CW.region ?_
    refine RW.k XK 71 1 rfl ?_
    (conv=>whnf);refine ⟨rfl,?_⟩
    refine RW.v rfl (V.inc rfl rfl rfl hii hl1) ?_
    refine RW.k XK 71 1 rfl ?_
    (conv=>whnf);refine ⟨rfl,?_⟩
    refine RW.nil ?_
    exact ⟨(i + 1, _, _, _), by simp only []; omega, (by first | exact hP.yes hei (fo_y hvv hww).1 (fo_y hvv hww).2 | exact hP.no hei (fo_n hww) | exact hP.no hei (idx_no hix hii hvv)), rfl, Le.c rfl <| Le.c rfl <| Le.c rfl <| Le.c rfl <| Le.c rfl <| Le.c rfl <| Le.e⟩
 ·skip
  have hii : l.length ≤ i := by have := h6; simp at this; first | exact this | omega | (simp; done) | (simp; omega)
  have hdi : l.drop i = [] := List.drop_eq_nil_of_le hii
  refine CW.exit ?_
  refine CW.keep 71 [6,8,9] rfl ?_;(conv=>whnf);refine ⟨?_⟩
  refine CW.seq ?_
  refine CW.region ?_
  refine RW.k XK 71 4 rfl ?_
  (conv=>whnf);refine ⟨rfl,?_⟩
  refine RW.pullS 7 9 (by decide) rfl rfl ?_
  refine RW.nil ?_
  refine CW.keep 71 [6,7] rfl ?_;(conv=>whnf);refine ⟨?_⟩
  refine CW.freeze 7 (d' := .r (sl 1 cS rs)) rfl rfl ?_
  refine CW.ret ?_
  exact Post.tup (by decide) (RVs.c (RV.c (f := fun e => (Keep.c e).map .r) (e' := o) rfl rfl rfl rfl (DT.r (DT.r DT.e)) (by rw [hP.fin hii])) (RVs.c (RV.r rfl (by rw [hP.fin hii])) RVs.e)) (AOs.a rfl (AOs.r (AOs.r AOs.e)))
end Go.Proofs.YtaeagpakloggfaaDoor.Y
