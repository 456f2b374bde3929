import Derived.Test.YtdipdkfbaehglaaGreatDoorWSoundJ
namespace Go.Proofs.YtdipdkfbaehglaaGreatDoor.Y
open Go Go.RowKit Go.Eng Go.Proofs
set_option maxRecDepth 10000
set_option maxHeartbeats 4000000 in
theorem __impl_scan__number_fn (s : scan) (hs : s.ok) : Eng.Fn E.P 118 [.ob ((scan.c s).map .r)] (.one (.one (.w (.v (.int .i64 (numV s)))))) [.ob ((scan.c (numS s)).map .r)] := by
 refine Eng.Fn.intro (E := E) (rvs := [.tmp 2]) Tryz.func118 rfl rfl rfl (by simp [outSlots, moved, rvSlot, sl]) ?_
 intro B g bo
 refine CW.g XK 35 [.e [0],.n 1,.e [0]] rfl rfl rfl ?_
 refine CW.anyJ2 (fc := [(0, (bo 0), [.string s.text, .int .i64 s.at_, .bool s.bad])]) (L0 := [(0, .obj (bo 0) ((scan.c s).map .r))]) 35 (fun (go1_8_1 : (Nat → Nat → Value)) => [(3, I ((rdVar s.text s.at_).1)), (4, I ((rdVar s.text s.at_).2.1)), (5, Bo ((rdVar s.text s.at_).2.2))]) (fun all hall f hf b0 hb K hK => ?_) ?_
 have ro1_9 : ∀ B, ∀ (go1_8_1 : Nat → Nat → Value), RA f E B all 0 (bt 16 65535) ⟨35, [(3, I ((rdVar s.text s.at_).1)), (4, I ((rdVar s.text s.at_).2.1)), (5, Bo ((rdVar s.text s.at_).2.2))] ++ b0⟩ K := by
  intro B go1_8_1
  exact RA.of2 hall hf hb (RA.finH (Tell.of rfl) (by kernel_rfl) (hK go1_8_1 _ rfl (Le.of rfl)))
 have ro1_8 : ∀ B, ∀ (go1_8_1 : Nat → Nat → Value), RA f E B all 2 (bt 16 28671) ⟨35, [(3, I ((rdVar s.text s.at_).1)), (4, I ((rdVar s.text s.at_).2.1)), (6, .tup [.u, .u, Bo ((rdVar s.text s.at_).2.2)])] ++ b0⟩ K := by
  intro B go1_8_1
  refine RA.of2 hall hf hb (RA.stepH (L := [12]) (Tell.of rfl) (by kernel_rfl) (by simp) (RA.each ?_ (RA.each0)))
  refine RO.extract (d := Bo ((rdVar s.text s.at_).2.2)) rfl rfl rfl rfl rfl (by decide) (Nat.le_of_ble_eq_true rfl) rfl rfl ?_
  refine RA.fr XK 35 0 [15] (bt 16 65535) rfl rfl (by kernel_rfl) (Tell.of rfl) ?_
  (conv=>whnf);refine ⟨rfl,fun B=>?_⟩
  exact RA.to2 hall hf hb (ro1_9 B go1_8_1) rfl rfl (by kernel_rfl)
 have ro1_7 : ∀ B, ∀ (go1_8_1 : Nat → Nat → Value), RA f E B all 3 (bt 16 14335) ⟨35, [(3, I ((rdVar s.text s.at_).1)), (6, .tup [.u, I ((rdVar s.text s.at_).2.1), .u]), (18, Bo ((rdVar s.text s.at_).2.2))] ++ b0⟩ K := by
  intro B go1_8_1
  refine RA.of2 hall hf hb (RA.stepH (L := [11]) (Tell.of rfl) (by kernel_rfl) (by simp) (RA.each ?_ (RA.each0)))
  refine RO.extract (d := I ((rdVar s.text s.at_).2.1)) rfl rfl rfl rfl rfl (by decide) (Nat.le_of_ble_eq_true rfl) rfl rfl ?_
  refine RA.fr XK 35 0 [14,15] (bt 16 65535) rfl rfl (by kernel_rfl) (Tell.of rfl) ?_
  (conv=>whnf);refine ⟨rfl,fun B=>?_⟩
  exact RA.to2 hall hf hb (ro1_9 B go1_8_1) rfl rfl (by kernel_rfl)
 have ro1_6 : ∀ B, ∀ (go1_8_1 : Nat → Nat → Value), RA f E B all 4 (bt 16 7167) ⟨35, [(6, .tup [I ((rdVar s.text s.at_).1), .u, .u]), (17, I ((rdVar s.text s.at_).2.1)), (18, Bo ((rdVar s.text s.at_).2.2))] ++ b0⟩ K := by
  intro B go1_8_1
  refine RA.of2 hall hf hb (RA.stepH (L := [10]) (Tell.of rfl) (by kernel_rfl) (by simp) (RA.each ?_ (RA.each0)))
  refine RO.extract (d := I ((rdVar s.text s.at_).1)) rfl rfl rfl rfl rfl (by decide) (Nat.le_of_ble_eq_true rfl) rfl rfl ?_
  refine RA.fr XK 35 0 [13,14,15] (bt 16 65535) rfl rfl (by kernel_rfl) (Tell.of rfl) ?_
  (conv=>whnf);refine ⟨rfl,fun B=>?_⟩
  exact RA.to2 hall hf hb (ro1_9 B go1_8_1) rfl rfl (by kernel_rfl)
 have ro1_5 : ∀ B, ∀ (go1_8_1 : Nat → Nat → Value), RA f E B all 4 (bt 16 10239) ⟨35, [(3, I ((rdVar s.text s.at_).1)), (6, .tup [.u, I ((rdVar s.text s.at_).2.1), Bo ((rdVar s.text s.at_).2.2)])] ++ b0⟩ K := by
  intro B go1_8_1
  refine RA.of2 hall hf hb (RA.stepH (L := [11, 12]) (Tell.of rfl) (by kernel_rfl) (by simp) (RA.each ?_ (RA.each ?_ (RA.each0))))
  refine RO.extract (d := I ((rdVar s.text s.at_).2.1)) rfl rfl rfl rfl rfl (by decide) (Nat.le_of_ble_eq_true rfl) rfl rfl ?_
  refine RA.fr XK 35 2 [14] (bt 16 28671) rfl rfl (by kernel_rfl) (Tell.of rfl) ?_
  (conv=>whnf);refine ⟨rfl,fun B=>?_⟩
  exact RA.to2 hall hf hb (ro1_8 B go1_8_1) rfl rfl (by kernel_rfl)
  refine RO.extract (d := Bo ((rdVar s.text s.at_).2.2)) rfl rfl rfl rfl rfl (by decide) (Nat.le_of_ble_eq_true rfl) rfl rfl ?_
  exact RA.to2 hall hf hb (ro1_7 B go1_8_1) rfl rfl (by kernel_rfl)
 have ro1_4 : ∀ B, ∀ (go1_8_1 : Nat → Nat → Value), RA f E B all 5 (bt 16 5119) ⟨35, [(6, .tup [I ((rdVar s.text s.at_).1), I ((rdVar s.text s.at_).2.1), .u]), (18, Bo ((rdVar s.text s.at_).2.2))] ++ b0⟩ K := by
  intro B go1_8_1
  refine RA.of2 hall hf hb (RA.stepH (L := [10, 11]) (Tell.of rfl) (by kernel_rfl) (by simp) (RA.each ?_ (RA.each ?_ (RA.each0))))
  refine RO.extract (d := I ((rdVar s.text s.at_).1)) rfl rfl rfl rfl rfl (by decide) (Nat.le_of_ble_eq_true rfl) rfl rfl ?_
  refine RA.fr XK 35 3 [13] (bt 16 14335) rfl rfl (by kernel_rfl) (Tell.of rfl) ?_
  (conv=>whnf);refine ⟨rfl,fun B=>?_⟩
  exact RA.to2 hall hf hb (ro1_7 B go1_8_1) rfl rfl (by kernel_rfl)
  refine RO.extract (d := I ((rdVar s.text s.at_).2.1)) rfl rfl rfl rfl rfl (by decide) (Nat.le_of_ble_eq_true rfl) rfl rfl ?_
  exact RA.to2 hall hf hb (ro1_6 B go1_8_1) rfl rfl (by kernel_rfl)
 have ro1_3 : ∀ B, ∀ (go1_8_1 : Nat → Nat → Value), RA f E B all 5 (bt 16 3071) ⟨35, [(6, .tup [I ((rdVar s.text s.at_).1), .u, Bo ((rdVar s.text s.at_).2.2)]), (17, I ((rdVar s.text s.at_).2.1))] ++ b0⟩ K := by
  intro B go1_8_1
  refine RA.of2 hall hf hb (RA.stepH (L := [10, 12]) (Tell.of rfl) (by kernel_rfl) (by simp) (RA.each ?_ (RA.each ?_ (RA.each0))))
  refine RO.extract (d := I ((rdVar s.text s.at_).1)) rfl rfl rfl rfl rfl (by decide) (Nat.le_of_ble_eq_true rfl) rfl rfl ?_
  refine RA.fr XK 35 2 [13,14] (bt 16 28671) rfl rfl (by kernel_rfl) (Tell.of rfl) ?_
  (conv=>whnf);refine ⟨rfl,fun B=>?_⟩
  exact RA.to2 hall hf hb (ro1_8 B go1_8_1) rfl rfl (by kernel_rfl)
  refine RO.extract (d := Bo ((rdVar s.text s.at_).2.2)) rfl rfl rfl rfl rfl (by decide) (Nat.le_of_ble_eq_true rfl) rfl rfl ?_
  exact RA.to2 hall hf hb (ro1_6 B go1_8_1) rfl rfl (by kernel_rfl)
 have ro1_2 : ∀ B, ∀ (go1_8_1 : Nat → Nat → Value), RA f E B all 6 (bt 16 1023) ⟨35, [(6, .tup [I ((rdVar s.text s.at_).1), I ((rdVar s.text s.at_).2.1), Bo ((rdVar s.text s.at_).2.2)])] ++ b0⟩ K := by
  intro B go1_8_1
  refine RA.of2 hall hf hb (RA.stepH (L := [10, 11, 12]) (Tell.of rfl) (by kernel_rfl) (by simp) (RA.each ?_ (RA.each ?_ (RA.each ?_ (RA.each0)))))
  refine RO.extract (d := I ((rdVar s.text s.at_).1)) rfl rfl rfl rfl rfl (by decide) (Nat.le_of_ble_eq_true rfl) rfl rfl ?_
  refine RA.fr XK 35 4 [13] (bt 16 10239) rfl rfl (by kernel_rfl) (Tell.of rfl) ?_
  (conv=>whnf);refine ⟨rfl,fun B=>?_⟩
  exact RA.to2 hall hf hb (ro1_5 B go1_8_1) rfl rfl (by kernel_rfl)
  refine RO.extract (d := I ((rdVar s.text s.at_).2.1)) rfl rfl rfl rfl rfl (by decide) (Nat.le_of_ble_eq_true rfl) rfl rfl ?_
  exact RA.to2 hall hf hb (ro1_3 B go1_8_1) rfl rfl (by kernel_rfl)
  refine RO.extract (d := Bo ((rdVar s.text s.at_).2.2)) rfl rfl rfl rfl rfl (by decide) (Nat.le_of_ble_eq_true rfl) rfl rfl ?_
  exact RA.to2 hall hf hb (ro1_4 B go1_8_1) rfl rfl (by kernel_rfl)
 have ro1_1 : ∀ B, ∀ (go1_8_1 : Nat → Nat → Value), RA f E B all 7 (bt 16 511) ⟨35, [(15, .tup [I ((rdVar s.text s.at_).1), I ((rdVar s.text s.at_).2.1), Bo ((rdVar s.text s.at_).2.2)])] ++ b0⟩ K := by
  intro B go1_8_1
  refine RA.of2 hall hf hb (RA.stepH (L := [9]) (Tell.of rfl) (by kernel_rfl) (by simp) (RA.each ?_ (RA.each0)))
  refine RO.moveMove rfl rfl rfl rfl rfl (by decide) (Nat.le_of_ble_eq_true rfl) (Nat.le_of_ble_eq_true rfl) ?_
  exact RA.to2 hall hf hb (ro1_2 B go1_8_1) rfl rfl (by kernel_rfl)
 have ro1_0 : ∀ B, RA f E B all 8 (bt 16 255) ⟨35, [(10, S s.text), (14, I s.at_)] ++ b0⟩ K := by
  intro B
  refine RA.of2 hall hf hb (RA.stepH (L := [8]) (Tell.of rfl) (by kernel_rfl) (by simp) (RA.each ?_ (RA.each0)))
  refine RO.call rfl rfl (impl_ReadVar_fn s.text s.at_ hs.2.2) rfl (.cons (.one (.r .r)) (.cons (.one (.r .r)) (.nil))) rfl fun go1_8_1 => ?_
  exact RA.to2 hall hf hb (ro1_1 B go1_8_1) rfl rfl (by kernel_rfl)
 refine RA.start (by kernel_rfl) (by kernel_rfl) (m := 16) (ls' := (bt 16 0)) ?_
 refine RA.fr XK 35 8 [0,1,2,3,4,5,6,7] (bt 16 255) rfl rfl (by kernel_rfl) (Tell.of rfl) ?_
 (conv=>whnf);refine ⟨rfl,fun B=>?_⟩
 exact RA.to2 hall hf hb (ro1_0 B) rfl rfl (by kernel_rfl)
 rintro go1_8_1
 refine CW.g XK 35 [.p] rfl rfl rfl ?_
 refine CW.seqJ 35 (fun (v2 : Bool) => [(0, .obj (bo 0) ((scan.c s).map .r)), (3, I ((rdVar s.text s.at_).1)), (4, I ((rdVar s.text s.at_).2.1)), (26, Bo v2)]) (fun v2 => v2 = (s.bad || (!((rdVar s.text s.at_).2.2)))) ?_ ?_
 refine CW.g XK 35 [.o 5] rfl rfl rfl ?_
 refine RW.gv rfl rfl rfl rfl (fun h3 => V.mv (d := Bo ((rdVar s.text s.at_).2.2)) rfl rfl) (fun h3 => ?_) (fun h3 => ?_)
 refine RW.g XK 35 [.o 2,.p] rfl rfl rfl ?_
 exact ⟨_, by first | rfl | (simp_all; done) | (simp_all; omega) | grind, rfl, Le.of rfl⟩
 refine RW.g XK 35 [.o 2,.p] rfl rfl rfl ?_
 exact ⟨_, by first | rfl | (simp_all; done) | (simp_all; omega) | grind, rfl, Le.of rfl⟩
 intro v2 hv4
 refine CW.cond rfl (fun h5 => ?_) (fun h5 => ?_)
 have hvv := hv4.symm.trans h5
 refine CW.g XK 35 [.n 2,.e [0,2]] rfl rfl rfl ?_
 refine CW.ret ?_
 exact Post.one (RV.i rfl (by simp only [numV]; rw [scNum, if_pos hvv])) (AOs.obE (f := fun e => (scan.c e).map .r) (e' := (⟨s.text, s.at_, true⟩ : scan)) rfl (DT.r (DT.r (DT.r DT.e))) (by simp only [numS]; rw [scNum, if_pos hvv]) AOs.e)
 have hvv := hv4.symm.trans h5
 refine CW.g XK 35 [.p,.e [0,3,4],.n 2,.e [0,2]] rfl rfl rfl ?_
 refine CW.ret ?_
 exact Post.one (RV.i rfl (by simp only [numV]; rw [scNum, if_neg (by rw [hvv]; simp)])) (AOs.obE (f := fun e => (scan.c e).map .r) (e' := (⟨s.text, ((rdVar s.text s.at_).2.1), s.bad⟩ : scan)) rfl (DT.r (DT.r (DT.r DT.e))) (by simp only [numS]; rw [scNum, if_neg (by rw [hvv]; simp), (Bool.or_eq_false_iff.1 hvv).1]) AOs.e)
set_option maxHeartbeats 4000000 in
theorem impl_ReadShort_fn (t : ByteArray) (a : Int) (ht : t.size ≤ 1048576) : Eng.Fn E.P 144 [.one (.r (.v (.string t))), .one (.r (.v (.int .i64 a)))] (.tup [.one (.w (.v (.string ((rdShort t a).1)))), .one (.w (.v (.int .i64 ((rdShort t a).2.1)))), .one (.w (.v (.bool ((rdShort t a).2.2))))]) [.one (.r (.v (.string t))), .one (.r (.v (.int .i64 a)))] := by
 refine Eng.Fn.intro (E := E) (rvs := [.tmp 4, .tmp 5, .tmp 6]) Tryz.func144 rfl rfl rfl (by simp [outSlots, moved, rvSlot, sl]) ?_
 intro B g bo
 refine CW.g XK 40 [.e [0,1],.n 1,.e [0,1],.o 2] rfl rfl rfl ?_
 refine RW.call rfl (impl_ReadVar_fn t a ht) rfl (.cons (.one (.r .r)) (.cons (.one (.r .r)) (.nil))) fun g1 => ?_
 refine RW.g XK 40 [.o 7,.p,.e [0,7,8,9],.p] rfl rfl rfl ?_
 refine CW.seqJ 40 (fun (v2 : Bool) => [(0, S t), (7, I ((rdVar t a).1)), (8, I ((rdVar t a).2.1)), (30, Bo v2)]) (fun v2 => v2 = (((!((rdVar t a).2.2)) || decide (((rdVar t a).1) > 20000)) || decide (((rdVar t a).1) > (IntKind.i64.wrap ((t.size : Int) - ((rdVar t a).2.1)))))) ?_ ?_
 refine CW.g XK 40 [.o 3] rfl rfl rfl ?_
 refine RW.gv rfl rfl rfl rfl (fun h3 => V.mv (d := I ((rdVar t a).1)) rfl rfl) (fun h3 => ?_) (fun h3 => ?_)
 refine RW.g XK 40 [.o 3] rfl rfl rfl ?_
 refine RW.gv rfl rfl rfl rfl (fun h4 => V.mv (d := I ((rdVar t a).1)) rfl rfl) (fun h4 => ?_) (fun h4 => ?_)
 refine RW.g XK 40 [.o 6,.p] rfl rfl rfl ?_
 exact ⟨_, by first | rfl | (simp_all; done) | (simp_all; omega) | grind, rfl, Le.of rfl⟩
 refine RW.g XK 40 [.o 6,.p] rfl rfl rfl ?_
 exact ⟨_, by first | rfl | (simp_all; done) | (simp_all; omega) | grind, rfl, Le.of rfl⟩
 refine RW.g XK 40 [.o 10,.p] rfl rfl rfl ?_
 exact ⟨_, by first | rfl | (simp_all; done) | (simp_all; omega) | grind, rfl, Le.of rfl⟩
 intro v2 hv5
 refine CW.cond rfl (fun h6 => ?_) (fun h6 => ?_)
 have hvv := hv5.symm.trans h6
 refine CW.g XK 40 [.n 1,.e [4,5,6]] rfl rfl rfl ?_
 refine CW.ret ?_
 exact Post.tup (by decide) (RVs.c (RV.s rfl (by rw [rdS_no hvv ht])) (RVs.c (RV.i rfl (by rw [rdS_no hvv ht])) (RVs.c (RV.b rfl (by rw [rdS_no hvv ht])) RVs.e))) (AOs.r (AOs.r AOs.e))
 have hvv := hv5.symm.trans h6
 refine CW.g XK 40 [.p,.e [0,7,8],.o 5] rfl rfl rfl ?_
 refine RW.v rfl (V.strSlice (l := ((rdVar t a).2.1)) (h := (IntKind.i64.wrap (((rdVar t a).2.1) + ((rdVar t a).1)))) rfl (by kernel_rfl) rfl (.inr ⟨_, _, rfl, rfl⟩) (.inr ⟨_, _, rfl, rfl⟩) (rdS_yes hvv ht).2) ?_
 refine RW.g XK 40 [.o 6,.p,.e [4,5,6]] rfl rfl rfl ?_
 refine CW.ret ?_
 exact Post.tup (by decide) (RVs.c (RV.s rfl (by rw [(rdS_yes hvv ht).1])) (RVs.c (RV.i rfl (by rw [(rdS_yes hvv ht).1])) (RVs.c (RV.b rfl (by rw [(rdS_yes hvv ht).1])) RVs.e))) (AOs.r (AOs.r AOs.e))
set_option maxHeartbeats 4000000 in
theorem __impl_scan__short_fn (s : scan) (hs : s.ok) : Eng.Fn E.P 119 [.ob ((scan.c s).map .r)] (.one (.one (.w (.v (.string (shV s)))))) [.ob ((scan.c (shS s)).map .r)] := by
 refine Eng.Fn.intro (E := E) (rvs := [.tmp 2]) Tryz.func119 rfl rfl rfl (by simp [outSlots, moved, rvSlot, sl]) ?_
 intro B g bo
 refine CW.g XK 35 [.e [0],.n 1,.e [0]] rfl rfl rfl ?_
 refine CW.anyJ2 (fc := [(0, (bo 0), [.string s.text, .int .i64 s.at_, .bool s.bad])]) (L0 := [(0, .obj (bo 0) ((scan.c s).map .r))]) 35 (fun (go1_8_1 : (Nat → Nat → Value)) => [(3, S ((rdShort s.text s.at_).1)), (4, I ((rdShort s.text s.at_).2.1)), (5, Bo ((rdShort s.text s.at_).2.2))]) (fun all hall f hf b0 hb K hK => ?_) ?_
 have ro1_9 : ∀ B, ∀ (go1_8_1 : Nat → Nat → Value), RA f E B all 0 (bt 16 65535) ⟨35, [(3, S ((rdShort s.text s.at_).1)), (4, I ((rdShort s.text s.at_).2.1)), (5, Bo ((rdShort s.text s.at_).2.2))] ++ b0⟩ K := by
  intro B go1_8_1
  exact RA.of2 hall hf hb (RA.finH (Tell.of rfl) (by kernel_rfl) (hK go1_8_1 _ rfl (Le.of rfl)))
 have ro1_8 : ∀ B, ∀ (go1_8_1 : Nat → Nat → Value), RA f E B all 2 (bt 16 28671) ⟨35, [(3, S ((rdShort s.text s.at_).1)), (4, I ((rdShort s.text s.at_).2.1)), (6, .tup [.u, .u, Bo ((rdShort s.text s.at_).2.2)])] ++ b0⟩ K := by
  intro B go1_8_1
  refine RA.of2 hall hf hb (RA.stepH (L := [12]) (Tell.of rfl) (by kernel_rfl) (by simp) (RA.each ?_ (RA.each0)))
  refine RO.extract (d := Bo ((rdShort s.text s.at_).2.2)) rfl rfl rfl rfl rfl (by decide) (Nat.le_of_ble_eq_true rfl) rfl rfl ?_
  refine RA.fr XK 35 0 [15] (bt 16 65535) rfl rfl (by kernel_rfl) (Tell.of rfl) ?_
  (conv=>whnf);refine ⟨rfl,fun B=>?_⟩
  exact RA.to2 hall hf hb (ro1_9 B go1_8_1) rfl rfl (by kernel_rfl)
 have ro1_7 : ∀ B, ∀ (go1_8_1 : Nat → Nat → Value), RA f E B all 3 (bt 16 14335) ⟨35, [(3, S ((rdShort s.text s.at_).1)), (6, .tup [.u, I ((rdShort s.text s.at_).2.1), .u]), (18, Bo ((rdShort s.text s.at_).2.2))] ++ b0⟩ K := by
  intro B go1_8_1
  refine RA.of2 hall hf hb (RA.stepH (L := [11]) (Tell.of rfl) (by kernel_rfl) (by simp) (RA.each ?_ (RA.each0)))
  refine RO.extract (d := I ((rdShort s.text s.at_).2.1)) rfl rfl rfl rfl rfl (by decide) (Nat.le_of_ble_eq_true rfl) rfl rfl ?_
  refine RA.fr XK 35 0 [14,15] (bt 16 65535) rfl rfl (by kernel_rfl) (Tell.of rfl) ?_
  (conv=>whnf);refine ⟨rfl,fun B=>?_⟩
  exact RA.to2 hall hf hb (ro1_9 B go1_8_1) rfl rfl (by kernel_rfl)
 have ro1_6 : ∀ B, ∀ (go1_8_1 : Nat → Nat → Value), RA f E B all 4 (bt 16 7167) ⟨35, [(6, .tup [S ((rdShort s.text s.at_).1), .u, .u]), (17, I ((rdShort s.text s.at_).2.1)), (18, Bo ((rdShort s.text s.at_).2.2))] ++ b0⟩ K := by
  intro B go1_8_1
  refine RA.of2 hall hf hb (RA.stepH (L := [10]) (Tell.of rfl) (by kernel_rfl) (by simp) (RA.each ?_ (RA.each0)))
  refine RO.extract (d := S ((rdShort s.text s.at_).1)) rfl rfl rfl rfl rfl (by decide) (Nat.le_of_ble_eq_true rfl) rfl rfl ?_
  refine RA.fr XK 35 0 [13,14,15] (bt 16 65535) rfl rfl (by kernel_rfl) (Tell.of rfl) ?_
  (conv=>whnf);refine ⟨rfl,fun B=>?_⟩
  exact RA.to2 hall hf hb (ro1_9 B go1_8_1) rfl rfl (by kernel_rfl)
 have ro1_5 : ∀ B, ∀ (go1_8_1 : Nat → Nat → Value), RA f E B all 4 (bt 16 10239) ⟨35, [(3, S ((rdShort s.text s.at_).1)), (6, .tup [.u, I ((rdShort s.text s.at_).2.1), Bo ((rdShort s.text s.at_).2.2)])] ++ b0⟩ K := by
  intro B go1_8_1
  refine RA.of2 hall hf hb (RA.stepH (L := [11, 12]) (Tell.of rfl) (by kernel_rfl) (by simp) (RA.each ?_ (RA.each ?_ (RA.each0))))
  refine RO.extract (d := I ((rdShort s.text s.at_).2.1)) rfl rfl rfl rfl rfl (by decide) (Nat.le_of_ble_eq_true rfl) rfl rfl ?_
  refine RA.fr XK 35 2 [14] (bt 16 28671) rfl rfl (by kernel_rfl) (Tell.of rfl) ?_
  (conv=>whnf);refine ⟨rfl,fun B=>?_⟩
  exact RA.to2 hall hf hb (ro1_8 B go1_8_1) rfl rfl (by kernel_rfl)
  refine RO.extract (d := Bo ((rdShort s.text s.at_).2.2)) rfl rfl rfl rfl rfl (by decide) (Nat.le_of_ble_eq_true rfl) rfl rfl ?_
  exact RA.to2 hall hf hb (ro1_7 B go1_8_1) rfl rfl (by kernel_rfl)
 have ro1_4 : ∀ B, ∀ (go1_8_1 : Nat → Nat → Value), RA f E B all 5 (bt 16 5119) ⟨35, [(6, .tup [S ((rdShort s.text s.at_).1), I ((rdShort s.text s.at_).2.1), .u]), (18, Bo ((rdShort s.text s.at_).2.2))] ++ b0⟩ K := by
  intro B go1_8_1
  refine RA.of2 hall hf hb (RA.stepH (L := [10, 11]) (Tell.of rfl) (by kernel_rfl) (by simp) (RA.each ?_ (RA.each ?_ (RA.each0))))
  refine RO.extract (d := S ((rdShort s.text s.at_).1)) rfl rfl rfl rfl rfl (by decide) (Nat.le_of_ble_eq_true rfl) rfl rfl ?_
  refine RA.fr XK 35 3 [13] (bt 16 14335) rfl rfl (by kernel_rfl) (Tell.of rfl) ?_
  (conv=>whnf);refine ⟨rfl,fun B=>?_⟩
  exact RA.to2 hall hf hb (ro1_7 B go1_8_1) rfl rfl (by kernel_rfl)
  refine RO.extract (d := I ((rdShort s.text s.at_).2.1)) rfl rfl rfl rfl rfl (by decide) (Nat.le_of_ble_eq_true rfl) rfl rfl ?_
  exact RA.to2 hall hf hb (ro1_6 B go1_8_1) rfl rfl (by kernel_rfl)
 have ro1_3 : ∀ B, ∀ (go1_8_1 : Nat → Nat → Value), RA f E B all 5 (bt 16 3071) ⟨35, [(6, .tup [S ((rdShort s.text s.at_).1), .u, Bo ((rdShort s.text s.at_).2.2)]), (17, I ((rdShort s.text s.at_).2.1))] ++ b0⟩ K := by
  intro B go1_8_1
  refine RA.of2 hall hf hb (RA.stepH (L := [10, 12]) (Tell.of rfl) (by kernel_rfl) (by simp) (RA.each ?_ (RA.each ?_ (RA.each0))))
  refine RO.extract (d := S ((rdShort s.text s.at_).1)) rfl rfl rfl rfl rfl (by decide) (Nat.le_of_ble_eq_true rfl) rfl rfl ?_
  refine RA.fr XK 35 2 [13,14] (bt 16 28671) rfl rfl (by kernel_rfl) (Tell.of rfl) ?_
  (conv=>whnf);refine ⟨rfl,fun B=>?_⟩
  exact RA.to2 hall hf hb (ro1_8 B go1_8_1) rfl rfl (by kernel_rfl)
  refine RO.extract (d := Bo ((rdShort s.text s.at_).2.2)) rfl rfl rfl rfl rfl (by decide) (Nat.le_of_ble_eq_true rfl) rfl rfl ?_
  exact RA.to2 hall hf hb (ro1_6 B go1_8_1) rfl rfl (by kernel_rfl)
 have ro1_2 : ∀ B, ∀ (go1_8_1 : Nat → Nat → Value), RA f E B all 6 (bt 16 1023) ⟨35, [(6, .tup [S ((rdShort s.text s.at_).1), I ((rdShort s.text s.at_).2.1), Bo ((rdShort s.text s.at_).2.2)])] ++ b0⟩ K := by
  intro B go1_8_1
  refine RA.of2 hall hf hb (RA.stepH (L := [10, 11, 12]) (Tell.of rfl) (by kernel_rfl) (by simp) (RA.each ?_ (RA.each ?_ (RA.each ?_ (RA.each0)))))
  refine RO.extract (d := S ((rdShort s.text s.at_).1)) rfl rfl rfl rfl rfl (by decide) (Nat.le_of_ble_eq_true rfl) rfl rfl ?_
  refine RA.fr XK 35 4 [13] (bt 16 10239) rfl rfl (by kernel_rfl) (Tell.of rfl) ?_
  (conv=>whnf);refine ⟨rfl,fun B=>?_⟩
  exact RA.to2 hall hf hb (ro1_5 B go1_8_1) rfl rfl (by kernel_rfl)
  refine RO.extract (d := I ((rdShort s.text s.at_).2.1)) rfl rfl rfl rfl rfl (by decide) (Nat.le_of_ble_eq_true rfl) rfl rfl ?_
  exact RA.to2 hall hf hb (ro1_3 B go1_8_1) rfl rfl (by kernel_rfl)
  refine RO.extract (d := Bo ((rdShort s.text s.at_).2.2)) rfl rfl rfl rfl rfl (by decide) (Nat.le_of_ble_eq_true rfl) rfl rfl ?_
  exact RA.to2 hall hf hb (ro1_4 B go1_8_1) rfl rfl (by kernel_rfl)
 have ro1_1 : ∀ B, ∀ (go1_8_1 : Nat → Nat → Value), RA f E B all 7 (bt 16 511) ⟨35, [(15, .tup [S ((rdShort s.text s.at_).1), I ((rdShort s.text s.at_).2.1), Bo ((rdShort s.text s.at_).2.2)])] ++ b0⟩ K := by
  intro B go1_8_1
  refine RA.of2 hall hf hb (RA.stepH (L := [9]) (Tell.of rfl) (by kernel_rfl) (by simp) (RA.each ?_ (RA.each0)))
  refine RO.moveMove rfl rfl rfl rfl rfl (by decide) (Nat.le_of_ble_eq_true rfl) (Nat.le_of_ble_eq_true rfl) ?_
  exact RA.to2 hall hf hb (ro1_2 B go1_8_1) rfl rfl (by kernel_rfl)
 have ro1_0 : ∀ B, RA f E B all 8 (bt 16 255) ⟨35, [(10, S s.text), (14, I s.at_)] ++ b0⟩ K := by
  intro B
  refine RA.of2 hall hf hb (RA.stepH (L := [8]) (Tell.of rfl) (by kernel_rfl) (by simp) (RA.each ?_ (RA.each0)))
  refine RO.call rfl rfl (impl_ReadShort_fn s.text s.at_ hs.2.2) rfl (.cons (.one (.r .r)) (.cons (.one (.r .r)) (.nil))) rfl fun go1_8_1 => ?_
  exact RA.to2 hall hf hb (ro1_1 B go1_8_1) rfl rfl (by kernel_rfl)
 refine RA.start (by kernel_rfl) (by kernel_rfl) (m := 16) (ls' := (bt 16 0)) ?_
 refine RA.fr XK 35 8 [0,1,2,3,4,5,6,7] (bt 16 255) rfl rfl (by kernel_rfl) (Tell.of rfl) ?_
 (conv=>whnf);refine ⟨rfl,fun B=>?_⟩
 exact RA.to2 hall hf hb (ro1_0 B) rfl rfl (by kernel_rfl)
 rintro go1_8_1
 refine CW.g XK 35 [.p] rfl rfl rfl ?_
 refine CW.seqJ 35 (fun (v2 : Bool) => [(0, .obj (bo 0) ((scan.c s).map .r)), (3, S ((rdShort s.text s.at_).1)), (4, I ((rdShort s.text s.at_).2.1)), (26, Bo v2)]) (fun v2 => v2 = (s.bad || (!((rdShort s.text s.at_).2.2)))) ?_ ?_
 refine CW.g XK 35 [.o 5] rfl rfl rfl ?_
 refine RW.gv rfl rfl rfl rfl (fun h3 => V.mv (d := Bo ((rdShort s.text s.at_).2.2)) rfl rfl) (fun h3 => ?_) (fun h3 => ?_)
 refine RW.g XK 35 [.o 2,.p] rfl rfl rfl ?_
 exact ⟨_, by first | rfl | (simp_all; done) | (simp_all; omega) | grind, rfl, Le.of rfl⟩
 refine RW.g XK 35 [.o 2,.p] rfl rfl rfl ?_
 exact ⟨_, by first | rfl | (simp_all; done) | (simp_all; omega) | grind, rfl, Le.of rfl⟩
 intro v2 hv4
 refine CW.cond rfl (fun h5 => ?_) (fun h5 => ?_)
 have hvv := hv4.symm.trans h5
 refine CW.g XK 35 [.n 2,.e [0,2]] rfl rfl rfl ?_
 refine CW.ret ?_
 exact Post.one (RV.s rfl (by simp only [shV]; rw [scShort, if_pos hvv])) (AOs.obE (f := fun e => (scan.c e).map .r) (e' := (⟨s.text, s.at_, true⟩ : scan)) rfl (DT.r (DT.r (DT.r DT.e))) (by simp only [shS]; rw [scShort, if_pos hvv]) AOs.e)
 have hvv := hv4.symm.trans h5
 refine CW.g XK 35 [.p,.e [0,3,4],.n 2,.e [0,2]] rfl rfl rfl ?_
 refine CW.ret ?_
 exact Post.one (RV.s rfl (by simp only [shV]; rw [scShort, if_neg (by rw [hvv]; simp)])) (AOs.obE (f := fun e => (scan.c e).map .r) (e' := (⟨s.text, ((rdShort s.text s.at_).2.1), s.bad⟩ : scan)) rfl (DT.r (DT.r (DT.r DT.e))) (by simp only [shS]; rw [scShort, if_neg (by rw [hvv]; simp), (Bool.or_eq_false_iff.1 hvv).1]) AOs.e)
set_option maxHeartbeats 4000000 in
theorem __impl_scan__done_fn (s : scan) : Eng.Fn E.P 120 [.one (.r (.f none (scan.c s)))] (.one (.one (.w (.v (.bool (doneB s)))))) [.one (.r (.f none (scan.c s)))] := by
 refine Eng.Fn.intro (E := E) (rvs := [.tmp 2]) Tryz.func120 rfl rfl rfl (by simp [outSlots, moved, rvSlot, sl]) ?_
 intro B g bo
 refine CW.asRp 0 rfl ?_
 refine CW.g XK 20 [.e [0],.n 1,.e [0]] rfl rfl rfl ?_
 refine CW.seqJ 20 (fun (v1 : Bool) => [(2, Bo v1)]) (fun v1 => v1 = ((!s.bad) && (s.at_ == (s.text.size : Int)))) ?_ ?_
 refine CW.drawn (by kernel_rfl) ?_
 refine RQ.k XK 20 6 rfl ?_
 (conv=>whnf);refine ⟨rfl,?_⟩
 refine RQ.gv rfl rfl rfl rfl (fun h2 => V.mv (d := .rp (scan.c s)) rfl rfl) (fun h2 => ?_) (fun h2 => ?_)
 refine RQ.k XK 20 11 rfl ?_
 (conv=>whnf);refine ⟨rfl,?_⟩
 refine RQ.nil ?_
 exact ⟨_, by first | rfl | (simp_all; done) | (simp_all; omega) | grind, rfl, Le.of rfl⟩
 refine RQ.k XK 20 11 rfl ?_
 (conv=>whnf);refine ⟨rfl,?_⟩
 refine RQ.nil ?_
 exact ⟨_, by first | rfl | (simp_all; done) | (simp_all; omega) | grind, rfl, Le.of rfl⟩
 intro v1 hv3
 refine CW.ret ?_
 exact Post.one (RV.b rfl (by simp_all [doneB])) (AOs.r AOs.e)
set_option maxHeartbeats 4000000 in
theorem impl_isIndex_fn (n : Int) : Eng.Fn E.P 145 [.one (.r (.v (.int .i64 n)))] (.one (.one (.w (.v (.bool (inR n 0 1000000)))))) [.one (.r (.v (.int .i64 n)))] := by
 refine Eng.Fn.intro (E := E) (rvs := [.tmp 2]) Tryz.func145 rfl rfl rfl (by simp [outSlots, moved, rvSlot, sl]) ?_
 intro B g bo
 refine CW.g XK 5 [.e [0],.n 1,.e [0],.o 1] rfl rfl rfl ?_
 refine RW.call rfl (impl_within_fn n 0 1000000) rfl (.cons (.one (.r .r)) (.cons (.one (.r .r)) (.cons (.one (.r .r)) (.nil)))) fun g1 => ?_
 refine RW.g XK 5 [.o 1,.p,.e [2]] rfl rfl rfl ?_
 refine CW.ret ?_
 exact Post.one (RV.b rfl (by rfl)) (AOs.r AOs.e)
set_option maxHeartbeats 4000000 in
theorem impl_keyOk_fn (s : ByteArray) : Eng.Fn E.P 146 [.one (.r (.v (.string s)))] (.one (.one (.w (.v (.bool (inR (s.size : Int) 1 8)))))) [.one (.r (.v (.string s)))] := by
 refine Eng.Fn.intro (E := E) (rvs := [.tmp 2]) Tryz.func146 rfl rfl rfl (by simp [outSlots, moved, rvSlot, sl]) ?_
 intro B g bo
 refine CW.g XK 6 [.e [0],.n 1,.e [0],.o 2] rfl rfl rfl ?_
 refine RW.call rfl (impl_within_fn (s.size : Int) 1 8) rfl (.cons (.one (.r .r)) (.cons (.one (.r .r)) (.cons (.one (.r .r)) (.nil)))) fun g1 => ?_
 refine RW.g XK 6 [.o 1,.p,.e [2]] rfl rfl rfl ?_
 refine CW.ret ?_
 exact Post.one (RV.b rfl (by rfl)) (AOs.r AOs.e)
set_option maxHeartbeats 4000000 in
theorem impl_valOk_fn (s : ByteArray) : Eng.Fn E.P 147 [.one (.r (.v (.string s)))] (.one (.one (.w (.v (.bool (decide ((s.size : Int) ≤ 20))))))) [.one (.r (.v (.string s)))] := by
 refine Eng.Fn.intro (E := E) (rvs := [.tmp 2]) Tryz.func147 rfl rfl rfl (by simp [outSlots, moved, rvSlot, sl]) ?_
 intro B g bo
 refine CW.g XK 6 [.e [0],.n 2,.e [2]] rfl rfl rfl ?_
 refine CW.ret ?_
 exact Post.one (RV.b rfl (by rfl)) (AOs.r AOs.e)
set_option maxHeartbeats 4000000 in
theorem impl_CommandOk_fn (x : Command) : Eng.Fn E.P 121 [.agg ((Command.c x).map .r)] (.one (.one (.w (.v (.bool (cmdOk x)))))) [.agg ((Command.c x).map .r)] := by
 refine Eng.Fn.intro (E := E) (rvs := [.tmp 2]) Tryz.func121 rfl rfl rfl (by simp [outSlots, moved, rvSlot, sl]) ?_
 intro B g bo
 refine CW.h XK 50 [.e [0],.o 1] rfl ?_;(conv=>whnf);intro b1;(conv=>whnf);refine ⟨rfl,?_⟩
 refine RW.freezeB (ts := (Command.c x)) 1 rfl (DRd.r (DRd.r (DRd.r (DRd.r (DRd.r (DRd.r DRd.e)))))) ?_
 refine RW.g XK 50 [.o 1,.p,.e [1],.n 1,.e [1,4],.n 1,.e [1,4,5]] rfl rfl rfl ?_
 refine CW.cond rfl (fun h2 => ?_) (fun h2 => ?_)
 refine CW.g XK 50 [.o 2] rfl rfl rfl ?_
 refine RW.v rfl (V.eqAgg (xs := Command.vs x) (ys := Command.vs (⟨1, 0, 0, ⟨#[]⟩, ⟨#[]⟩, 0⟩ : Command)) rfl rfl rfl (by kernel_rfl) (eq63 x (⟨1, 0, 0, ⟨#[]⟩, ⟨#[]⟩, 0⟩ : Command)) (.inl ⟨rfl, rfl⟩)) ?_
 refine RW.g XK 50 [.o 1,.p,.e [2]] rfl rfl rfl ?_
 refine CW.ret ?_
 exact Post.one (RV.b rfl (by exact cmd_open (by simpa using h2))) (AOs.a rfl AOs.e)
 refine CW.g XK 50 [.n 1,.e [1,4,10]] rfl rfl rfl ?_
 refine CW.cond rfl (fun h3 => ?_) (fun h3 => ?_)
 refine CW.le [(1, .rp (Command.c x)), (4, I x.op), (10, Bo true)] rfl (Le.c rfl <| Le.c rfl <| Le.c (congrArg Bo h3) <| Le.e) ?_
 refine CW.g XK 50 [.p,.e [1,4,10]] rfl rfl rfl ?_
 refine CW.condT rfl ?_
 refine CW.seqJ 50 (fun (v5 : Bool) => [(1, .rp (Command.c x)), (20, Bo v5)]) (fun v5 => v5 = ((!(x.val.toList == (⟨#[]⟩ : ByteArray).toList)) || (x.ver != 0))) ?_ ?_
 refine CW.g XK 50 [.o 4] rfl rfl rfl ?_
 refine RW.gv rfl rfl rfl rfl (fun h6 => V.fieldR rfl rfl rfl rfl (by decide) rfl (Nat.le_of_ble_eq_true rfl)) (fun h6 => ?_) (fun h6 => ?_)
 refine RW.g XK 50 [.o 3,.p] rfl rfl rfl ?_
 exact ⟨_, by first | rfl | (simp_all; done) | (simp_all; omega) | grind, rfl, Le.of rfl⟩
 refine RW.g XK 50 [.o 3,.p] rfl rfl rfl ?_
 exact ⟨_, by first | rfl | (simp_all; done) | (simp_all; omega) | grind, rfl, Le.of rfl⟩
 intro v5 hv7
 refine CW.cond rfl (fun h8 => ?_) (fun h8 => ?_)
 refine CW.g XK 50 [.n 1,.e [2]] rfl rfl rfl ?_
 refine CW.ret ?_
 exact Post.one (RV.b rfl q10) (AOs.a rfl AOs.e)
 refine CW.g XK 50 [.p,.e [1]] rfl rfl rfl ?_
 refine CW.seqJ 50 (fun (v9 : Bool) => [(2, Bo v9)]) (fun v9 => v9 = ((((inR x.token 0 1000000) && (inR x.seq 0 1000000)) && (inR (x.key.size : Int) 1 8)) && (decide ((x.val.size : Int) ≤ 20)))) ?_ ?_
 refine CW.g XK 50 [.o 2] rfl rfl rfl ?_
 refine RW.call rfl (impl_isIndex_fn x.token) rfl (.cons (.one (.r .r)) (.nil)) fun g10 => ?_
 refine RW.g XK 50 [.o 1] rfl rfl rfl ?_
 refine RW.gv rfl rfl rfl rfl (fun h11 => V.fieldR rfl rfl rfl rfl (by decide) rfl (Nat.le_of_ble_eq_true rfl)) (fun h11 => ?_) (fun h11 => ?_)
 refine RW.g XK 50 [.o 1] rfl rfl rfl ?_
 refine RW.gcall rfl rfl rfl rfl (impl_isIndex_fn x.seq) rfl (.cons (.one (.r .r)) (.nil)) fun g12 => ?_
 refine RW.g XK 50 [.o 2] rfl rfl rfl ?_
 refine RW.gv rfl rfl rfl rfl (fun h13 => V.fieldR rfl rfl rfl rfl (by decide) rfl (Nat.le_of_ble_eq_true rfl)) (fun h13 => ?_) (fun h13 => ?_)
 refine RW.g XK 50 [.o 1] rfl rfl rfl ?_
 refine RW.gcall rfl rfl rfl rfl (impl_keyOk_fn x.key) rfl (.cons (.one (.r .r)) (.nil)) fun g14 => ?_
 refine RW.g XK 50 [.o 2] rfl rfl rfl ?_
 refine RW.gv rfl rfl rfl rfl (fun h15 => V.fieldR rfl rfl rfl rfl (by decide) rfl (Nat.le_of_ble_eq_true rfl)) (fun h15 => ?_) (fun h15 => ?_)
 refine RW.g XK 50 [.o 1] rfl rfl rfl ?_
 refine RW.gcall rfl rfl rfl rfl (impl_valOk_fn x.val) rfl (.cons (.one (.r .r)) (.nil)) fun g16 => ?_
 refine RW.g XK 50 [.o 2,.p] rfl rfl rfl ?_
 exact ⟨_, by first | rfl | (simp_all; done) | (simp_all; omega) | grind, rfl, Le.of rfl⟩
 refine RW.g XK 50 [.o 4,.p] rfl rfl rfl ?_
 exact ⟨_, by first | rfl | (simp_all; done) | (simp_all; omega) | grind, rfl, Le.of rfl⟩
 refine RW.g XK 50 [.o 9,.p] rfl rfl rfl ?_
 exact ⟨_, by first | rfl | (simp_all; done) | (simp_all; omega) | grind, rfl, Le.of rfl⟩
 refine RW.g XK 50 [.o 14,.p] rfl rfl rfl ?_
 exact ⟨_, by first | rfl | (simp_all; done) | (simp_all; omega) | grind, rfl, Le.of rfl⟩
 intro v9 hv17
 refine CW.ret ?_
 exact Post.one (RV.b rfl q10) (AOs.a rfl AOs.e)
 refine CW.g XK 50 [.o 2,.p,.e [1,4,10]] rfl rfl rfl ?_
 refine CW.cond rfl (fun h18 => ?_) (fun h18 => ?_)
 refine CW.seqJ 50 (fun (v19 : Bool) => [(1, .rp (Command.c x)), (20, Bo v19)]) (fun v19 => v19 = ((!(x.val.toList == (⟨#[]⟩ : ByteArray).toList)) || (x.ver != 0))) ?_ ?_
 refine CW.g XK 50 [.o 4] rfl rfl rfl ?_
 refine RW.gv rfl rfl rfl rfl (fun h20 => V.fieldR rfl rfl rfl rfl (by decide) rfl (Nat.le_of_ble_eq_true rfl)) (fun h20 => ?_) (fun h20 => ?_)
 refine RW.g XK 50 [.o 3,.p] rfl rfl rfl ?_
 exact ⟨_, by first | rfl | (simp_all; done) | (simp_all; omega) | grind, rfl, Le.of rfl⟩
 refine RW.g XK 50 [.o 3,.p] rfl rfl rfl ?_
 exact ⟨_, by first | rfl | (simp_all; done) | (simp_all; omega) | grind, rfl, Le.of rfl⟩
 intro v19 hv21
 refine CW.cond rfl (fun h22 => ?_) (fun h22 => ?_)
 refine CW.g XK 50 [.n 1,.e [2]] rfl rfl rfl ?_
 refine CW.ret ?_
 exact Post.one (RV.b rfl q10) (AOs.a rfl AOs.e)
 refine CW.g XK 50 [.p,.e [1]] rfl rfl rfl ?_
 refine CW.seqJ 50 (fun (v23 : Bool) => [(2, Bo v23)]) (fun v23 => v23 = ((((inR x.token 0 1000000) && (inR x.seq 0 1000000)) && (inR (x.key.size : Int) 1 8)) && (decide ((x.val.size : Int) ≤ 20)))) ?_ ?_
 refine CW.g XK 50 [.o 2] rfl rfl rfl ?_
 refine RW.call rfl (impl_isIndex_fn x.token) rfl (.cons (.one (.r .r)) (.nil)) fun g24 => ?_
 refine RW.g XK 50 [.o 1] rfl rfl rfl ?_
 refine RW.gv rfl rfl rfl rfl (fun h25 => V.fieldR rfl rfl rfl rfl (by decide) rfl (Nat.le_of_ble_eq_true rfl)) (fun h25 => ?_) (fun h25 => ?_)
 refine RW.g XK 50 [.o 1] rfl rfl rfl ?_
 refine RW.gcall rfl rfl rfl rfl (impl_isIndex_fn x.seq) rfl (.cons (.one (.r .r)) (.nil)) fun g26 => ?_
 refine RW.g XK 50 [.o 2] rfl rfl rfl ?_
 refine RW.gv rfl rfl rfl rfl (fun h27 => V.fieldR rfl rfl rfl rfl (by decide) rfl (Nat.le_of_ble_eq_true rfl)) (fun h27 => ?_) (fun h27 => ?_)
 refine RW.g XK 50 [.o 1] rfl rfl rfl ?_
 refine RW.gcall rfl rfl rfl rfl (impl_keyOk_fn x.key) rfl (.cons (.one (.r .r)) (.nil)) fun g28 => ?_
 refine RW.g XK 50 [.o 2] rfl rfl rfl ?_
 refine RW.gv rfl rfl rfl rfl (fun h29 => V.fieldR rfl rfl rfl rfl (by decide) rfl (Nat.le_of_ble_eq_true rfl)) (fun h29 => ?_) (fun h29 => ?_)
 refine RW.g XK 50 [.o 1] rfl rfl rfl ?_
 refine RW.gcall rfl rfl rfl rfl (impl_valOk_fn x.val) rfl (.cons (.one (.r .r)) (.nil)) fun g30 => ?_
 refine RW.g XK 50 [.o 2,.p] rfl rfl rfl ?_
 exact ⟨_, by first | rfl | (simp_all; done) | (simp_all; omega) | grind, rfl, Le.of rfl⟩
 refine RW.g XK 50 [.o 4,.p] rfl rfl rfl ?_
 exact ⟨_, by first | rfl | (simp_all; done) | (simp_all; omega) | grind, rfl, Le.of rfl⟩
 refine RW.g XK 50 [.o 9,.p] rfl rfl rfl ?_
 exact ⟨_, by first | rfl | (simp_all; done) | (simp_all; omega) | grind, rfl, Le.of rfl⟩
 refine RW.g XK 50 [.o 14,.p] rfl rfl rfl ?_
 exact ⟨_, by first | rfl | (simp_all; done) | (simp_all; omega) | grind, rfl, Le.of rfl⟩
 intro v23 hv31
 refine CW.ret ?_
 exact Post.one (RV.b rfl q10) (AOs.a rfl AOs.e)
 refine CW.g XK 50 [.n 1,.e [1,4,21]] rfl rfl rfl ?_
 refine CW.cond rfl (fun h32 => ?_) (fun h32 => ?_)
 refine CW.g XK 50 [.n 1,.e [1,25]] rfl rfl rfl ?_
 refine CW.cond rfl (fun h33 => ?_) (fun h33 => ?_)
 refine CW.g XK 50 [.n 1,.e [2]] rfl rfl rfl ?_
 refine CW.ret ?_
 exact Post.one (RV.b rfl q10) (AOs.a rfl AOs.e)
 refine CW.g XK 50 [.p,.e [1]] rfl rfl rfl ?_
 refine CW.seqJ 50 (fun (v34 : Bool) => [(2, Bo v34)]) (fun v34 => v34 = ((((inR x.token 0 1000000) && (inR x.seq 0 1000000)) && (inR (x.key.size : Int) 1 8)) && (decide ((x.val.size : Int) ≤ 20)))) ?_ ?_
 refine CW.g XK 50 [.o 2] rfl rfl rfl ?_
 refine RW.call rfl (impl_isIndex_fn x.token) rfl (.cons (.one (.r .r)) (.nil)) fun g35 => ?_
 refine RW.g XK 50 [.o 1] rfl rfl rfl ?_
 refine RW.gv rfl rfl rfl rfl (fun h36 => V.fieldR rfl rfl rfl rfl (by decide) rfl (Nat.le_of_ble_eq_true rfl)) (fun h36 => ?_) (fun h36 => ?_)
 refine RW.g XK 50 [.o 1] rfl rfl rfl ?_
 refine RW.gcall rfl rfl rfl rfl (impl_isIndex_fn x.seq) rfl (.cons (.one (.r .r)) (.nil)) fun g37 => ?_
 refine RW.g XK 50 [.o 2] rfl rfl rfl ?_
 refine RW.gv rfl rfl rfl rfl (fun h38 => V.fieldR rfl rfl rfl rfl (by decide) rfl (Nat.le_of_ble_eq_true rfl)) (fun h38 => ?_) (fun h38 => ?_)
 refine RW.g XK 50 [.o 1] rfl rfl rfl ?_
 refine RW.gcall rfl rfl rfl rfl (impl_keyOk_fn x.key) rfl (.cons (.one (.r .r)) (.nil)) fun g39 => ?_
 refine RW.g XK 50 [.o 2] rfl rfl rfl ?_
 refine RW.gv rfl rfl rfl rfl (fun h40 => V.fieldR rfl rfl rfl rfl (by decide) rfl (Nat.le_of_ble_eq_true rfl)) (fun h40 => ?_) (fun h40 => ?_)
 refine RW.g XK 50 [.o 1] rfl rfl rfl ?_
 refine RW.gcall rfl rfl rfl rfl (impl_valOk_fn x.val) rfl (.cons (.one (.r .r)) (.nil)) fun g41 => ?_
 refine RW.g XK 50 [.o 2,.p] rfl rfl rfl ?_
 exact ⟨_, by first | rfl | (simp_all; done) | (simp_all; omega) | grind, rfl, Le.of rfl⟩
 refine RW.g XK 50 [.o 4,.p] rfl rfl rfl ?_
 exact ⟨_, by first | rfl | (simp_all; done) | (simp_all; omega) | grind, rfl, Le.of rfl⟩
 refine RW.g XK 50 [.o 9,.p] rfl rfl rfl ?_
 exact ⟨_, by first | rfl | (simp_all; done) | (simp_all; omega) | grind, rfl, Le.of rfl⟩
 refine RW.g XK 50 [.o 14,.p] rfl rfl rfl ?_
 exact ⟨_, by first | rfl | (simp_all; done) | (simp_all; omega) | grind, rfl, Le.of rfl⟩
 intro v34 hv42
 refine CW.ret ?_
 exact Post.one (RV.b rfl q10) (AOs.a rfl AOs.e)
 refine CW.g XK 50 [.n 1,.e [1,26]] rfl rfl rfl ?_
 refine CW.cond rfl (fun h43 => ?_) (fun h43 => ?_)
 refine CW.g XK 50 [.o 2] rfl rfl rfl ?_
 refine RW.call rfl (impl_within_fn x.ver 1 1000000000) rfl (.cons (.one (.r .r)) (.cons (.one (.r .r)) (.cons (.one (.r .r)) (.nil)))) fun g44 => ?_
 refine RW.g XK 50 [.o 1,.p,.e [1,31]] rfl rfl rfl ?_
 refine CW.cond rfl (fun h45 => ?_) (fun h45 => ?_)
 refine CW.g XK 50 [.n 1,.e [2]] rfl rfl rfl ?_
 refine CW.ret ?_
 exact Post.one (RV.b rfl q10) (AOs.a rfl AOs.e)
 refine CW.g XK 50 [.p,.e [1]] rfl rfl rfl ?_
 refine CW.seqJ 50 (fun (v46 : Bool) => [(2, Bo v46)]) (fun v46 => v46 = ((((inR x.token 0 1000000) && (inR x.seq 0 1000000)) && (inR (x.key.size : Int) 1 8)) && (decide ((x.val.size : Int) ≤ 20)))) ?_ ?_
 refine CW.g XK 50 [.o 2] rfl rfl rfl ?_
 refine RW.call rfl (impl_isIndex_fn x.token) rfl (.cons (.one (.r .r)) (.nil)) fun g47 => ?_
 refine RW.g XK 50 [.o 1] rfl rfl rfl ?_
 refine RW.gv rfl rfl rfl rfl (fun h48 => V.fieldR rfl rfl rfl rfl (by decide) rfl (Nat.le_of_ble_eq_true rfl)) (fun h48 => ?_) (fun h48 => ?_)
 refine RW.g XK 50 [.o 1] rfl rfl rfl ?_
 refine RW.gcall rfl rfl rfl rfl (impl_isIndex_fn x.seq) rfl (.cons (.one (.r .r)) (.nil)) fun g49 => ?_
 refine RW.g XK 50 [.o 2] rfl rfl rfl ?_
 refine RW.gv rfl rfl rfl rfl (fun h50 => V.fieldR rfl rfl rfl rfl (by decide) rfl (Nat.le_of_ble_eq_true rfl)) (fun h50 => ?_) (fun h50 => ?_)
 refine RW.g XK 50 [.o 1] rfl rfl rfl ?_
 refine RW.gcall rfl rfl rfl rfl (impl_keyOk_fn x.key) rfl (.cons (.one (.r .r)) (.nil)) fun g51 => ?_
 refine RW.g XK 50 [.o 2] rfl rfl rfl ?_
 refine RW.gv rfl rfl rfl rfl (fun h52 => V.fieldR rfl rfl rfl rfl (by decide) rfl (Nat.le_of_ble_eq_true rfl)) (fun h52 => ?_) (fun h52 => ?_)
 refine RW.g XK 50 [.o 1] rfl rfl rfl ?_
 refine RW.gcall rfl rfl rfl rfl (impl_valOk_fn x.val) rfl (.cons (.one (.r .r)) (.nil)) fun g53 => ?_
 refine RW.g XK 50 [.o 2,.p] rfl rfl rfl ?_
 exact ⟨_, by first | rfl | (simp_all; done) | (simp_all; omega) | grind, rfl, Le.of rfl⟩
 refine RW.g XK 50 [.o 4,.p] rfl rfl rfl ?_
 exact ⟨_, by first | rfl | (simp_all; done) | (simp_all; omega) | grind, rfl, Le.of rfl⟩
 refine RW.g XK 50 [.o 9,.p] rfl rfl rfl ?_
 exact ⟨_, by first | rfl | (simp_all; done) | (simp_all; omega) | grind, rfl, Le.of rfl⟩
 refine RW.g XK 50 [.o 14,.p] rfl rfl rfl ?_
 exact ⟨_, by first | rfl | (simp_all; done) | (simp_all; omega) | grind, rfl, Le.of rfl⟩
 intro v46 hv54
 refine CW.ret ?_
 exact Post.one (RV.b rfl q10) (AOs.a rfl AOs.e)
 refine CW.g XK 50 [.n 1,.e [2]] rfl rfl rfl ?_
 refine CW.ret ?_
 exact Post.one (RV.b rfl q10) (AOs.a rfl AOs.e)
set_option maxHeartbeats 4000000 in
theorem impl_ReadCommand_fn (t : ByteArray) (ht : t.size ≤ 1048576) : Eng.Fn E.P 79 [.one (.r (.v (.string t)))] (.tup [.agg ((Command.c ((rdCmd t).1)).map .w), .one (.w (.v (.bool ((rdCmd t).2))))]) [.one (.r (.v (.string t)))] := by
 refine Eng.Fn.intro (E := E) (rvs := [.cell 2 63, .tmp 3]) Tryz.func79 rfl rfl rfl (by simp [outSlots, moved, rvSlot, sl]) ?_
 intro B g bo
 refine CW.h XK 38 [.e [0],.n 3,.e [2,4,5,8],.o 1] rfl ?_;(conv=>whnf);intro b1;(conv=>whnf);intro b2;(conv=>whnf);intro b3;(conv=>whnf);refine ⟨rfl,?_⟩
 refine RW.callP (k := 8) (__impl_scan__one_fn (⟨t, 0, false⟩ : scan) (scan.ok0 ht)) rfl rfl (Nat.le_of_ble_eq_true rfl) (by decide) rfl (DT.r (DT.r (DT.r DT.e))) (AsPs.here rfl (.nil)) fun g4 q5 => ?_
 refine RW.g XK 38 [.o 2,.p,.e [2,4,5,8],.o 1] rfl rfl rfl ?_
 refine RW.callP (k := 8) (__impl_scan__number_fn (oneS (⟨t, 0, false⟩ : scan)) (oneS_ok (scan.ok0 ht))) rfl rfl (Nat.le_of_ble_eq_true rfl) (by decide) rfl (DT.r (DT.r (DT.r DT.e))) (AsPs.here rfl (.nil)) fun g6 q7 => ?_
 refine RW.g XK 38 [.o 2,.p,.e [2,4,5,8],.o 1] rfl rfl rfl ?_
 refine RW.callP (k := 8) (__impl_scan__number_fn (numS (oneS (⟨t, 0, false⟩ : scan))) (numS_ok (oneS_ok (scan.ok0 ht)))) rfl rfl (Nat.le_of_ble_eq_true rfl) (by decide) rfl (DT.r (DT.r (DT.r DT.e))) (AsPs.here rfl (.nil)) fun g8 q9 => ?_
 refine RW.g XK 38 [.o 2,.p,.e [2,4,5,8],.o 1] rfl rfl rfl ?_
 refine RW.callP (k := 8) (__impl_scan__short_fn (numS (numS (oneS (⟨t, 0, false⟩ : scan)))) (numS_ok (numS_ok (oneS_ok (scan.ok0 ht))))) rfl rfl (Nat.le_of_ble_eq_true rfl) (by decide) rfl (DT.r (DT.r (DT.r DT.e))) (AsPs.here rfl (.nil)) fun g10 q11 => ?_
 refine RW.g XK 38 [.o 2,.p,.e [2,4,5,8],.o 1] rfl rfl rfl ?_
 refine RW.callP (k := 8) (__impl_scan__short_fn (shS (numS (numS (oneS (⟨t, 0, false⟩ : scan))))) (shS_ok (numS_ok (numS_ok (oneS_ok (scan.ok0 ht)))))) rfl rfl (Nat.le_of_ble_eq_true rfl) (by decide) rfl (DT.r (DT.r (DT.r DT.e))) (AsPs.here rfl (.nil)) fun g12 q13 => ?_
 refine RW.g XK 38 [.o 2,.p,.e [2,4,5,8],.o 1] rfl rfl rfl ?_
 refine RW.callP (k := 8) (__impl_scan__number_fn (shS (shS (numS (numS (oneS (⟨t, 0, false⟩ : scan)))))) (shS_ok (shS_ok (numS_ok (numS_ok (oneS_ok (scan.ok0 ht))))))) rfl rfl (Nat.le_of_ble_eq_true rfl) (by decide) rfl (DT.r (DT.r (DT.r DT.e))) (AsPs.here rfl (.nil)) fun g14 q15 => ?_
 refine RW.g XK 38 [.o 2,.p,.e [2,4,5,8],.p] rfl rfl rfl ?_
 refine CW.seqJ 38 (fun (v16 : Bool) => [(2, .obj b1 [I 0, I 0, I 0, S (⟨#[]⟩), S (⟨#[]⟩), I 0]), (5, .obj b3 [I (oneV (⟨t, 0, false⟩ : scan)), I (numV (oneS (⟨t, 0, false⟩ : scan))), I (numV (numS (oneS (⟨t, 0, false⟩ : scan)))), S (shV (numS (numS (oneS (⟨t, 0, false⟩ : scan))))), S (shV (shS (numS (numS (oneS (⟨t, 0, false⟩ : scan)))))), I (numV (shS (shS (numS (numS (oneS (⟨t, 0, false⟩ : scan)))))))]), (35, Bo v16)]) (fun v16 => v16 = ((!(doneB (numS (shS (shS (numS (numS (oneS (⟨t, 0, false⟩ : scan))))))))) || (!(cmdOk (⟨(oneV (⟨t, 0, false⟩ : scan)), (numV (oneS (⟨t, 0, false⟩ : scan))), (numV (numS (oneS (⟨t, 0, false⟩ : scan)))), (shV (numS (numS (oneS (⟨t, 0, false⟩ : scan))))), (shV (shS (numS (numS (oneS (⟨t, 0, false⟩ : scan)))))), (numV (shS (shS (numS (numS (oneS (⟨t, 0, false⟩ : scan)))))))⟩ : Command))))) ?_ ?_
 refine CW.g XK 38 [.o 1] rfl rfl rfl ?_
 refine RW.callOwn rfl (__impl_scan__done_fn (numS (shS (shS (numS (numS (oneS (⟨t, 0, false⟩ : scan)))))))) rfl (.cons (.one (.r (.pt rfl rfl (DRd.r (DRd.r (DRd.r DRd.e))) nofun))) (.nil)) rfl fun g17 => ?_
 refine RW.g XK 38 [.o 2] rfl rfl rfl ?_
 refine RW.gv rfl rfl rfl rfl (fun h18 => V.loadAgg rfl rfl rfl rfl rfl (Nat.le_of_ble_eq_true rfl)) (fun h18 => ?_) (fun h18 => ?_)
 refine RW.gcall rfl rfl rfl rfl (impl_CommandOk_fn (⟨(oneV (⟨t, 0, false⟩ : scan)), (numV (oneS (⟨t, 0, false⟩ : scan))), (numV (numS (oneS (⟨t, 0, false⟩ : scan)))), (shV (numS (numS (oneS (⟨t, 0, false⟩ : scan))))), (shV (shS (numS (numS (oneS (⟨t, 0, false⟩ : scan)))))), (numV (shS (shS (numS (numS (oneS (⟨t, 0, false⟩ : scan)))))))⟩ : Command)) rfl (.cons (.agg (.cons (.r .r) (.cons (.r .r) (.cons (.r .r) (.cons (.r .r) (.cons (.r .r) (.cons (.r .r) (.nil)))))))) (.nil)) fun g19 => ?_
 refine RW.g XK 38 [.o 2,.p] rfl rfl rfl ?_
 exact ⟨_, by first | rfl | (simp_all; done) | (simp_all; omega) | grind, rfl, Le.of rfl⟩
 refine RW.g XK 38 [.o 3,.p] rfl rfl rfl ?_
 exact ⟨_, by first | rfl | (simp_all; done) | (simp_all; omega) | grind, rfl, Le.of rfl⟩
 intro v16 hv20
 refine CW.cond rfl (fun h21 => ?_) (fun h21 => ?_)
 have hvv := hv20.symm.trans h21
 refine CW.g XK 38 [.n 1,.e [2,3]] rfl rfl rfl ?_
 refine CW.ret ?_
 exact Post.tup (by decide) (RVs.c (RV.c (f := fun e => (Command.c e).map .w) (e' := (⟨0, 0, 0, ⟨#[]⟩, ⟨#[]⟩, 0⟩ : Command)) rfl rfl rfl rfl (DT.v (DT.v (DT.v (DT.v (DT.v (DT.v DT.e)))))) (by rw [rdCmd_no hvv] <;> rfl)) (RVs.c (RV.b rfl (by rw [rdCmd_no hvv] <;> rfl)) RVs.e)) (AOs.r AOs.e)
 have hvv := hv20.symm.trans h21
 refine CW.g XK 38 [.p,.e [2,5],.n 1,.e [2,3]] rfl rfl rfl ?_
 refine CW.ret ?_
 exact Post.tup (by decide) (RVs.c (RV.c (f := fun e => (Command.c e).map .w) (e' := (⟨(oneV (⟨t, 0, false⟩ : scan)), (numV (oneS (⟨t, 0, false⟩ : scan))), (numV (numS (oneS (⟨t, 0, false⟩ : scan)))), (shV (numS (numS (oneS (⟨t, 0, false⟩ : scan))))), (shV (shS (numS (numS (oneS (⟨t, 0, false⟩ : scan)))))), (numV (shS (shS (numS (numS (oneS (⟨t, 0, false⟩ : scan)))))))⟩ : Command)) rfl rfl rfl rfl (DT.v (DT.v (DT.v (DT.v (DT.v (DT.v DT.e)))))) (by rw [rdCmd_yes hvv] <;> rfl)) (RVs.c (RV.b rfl (by rw [rdCmd_yes hvv] <;> rfl)) RVs.e)) (AOs.r AOs.e)
end Go.Proofs.YtdipdkfbaehglaaGreatDoor.Y
