import Derived.Test.YtaneihnomaagoaaGreatDoorWFormatsB
namespace Go.Proofs.YtaneihnomaagoaaGreatDoor.Y
open Go Go.RowKit Go.Eng Go.Proofs
set_option maxRecDepth 10000
set_option maxHeartbeats 4000000 in
theorem __impl_scan__short_fn (s : scan) (hs : s.ok) : Eng.Fn E.P 96 [.ob ((scan.c s).map .r)] (.one (.one (.w (.v (.string (shV s)))))) [.ob ((scan.c (shS s)).map .r)] := by
 refine Eng.Fn.intro (E := E) (rvs := [.tmp 2]) Tryz.func96 rfl rfl rfl (by simp [outSlots, moved, rvSlot, sl]) ?_
 intro B g bo
 refine CW.g XK 35 [.e [0],.n 1,.e [0]] rfl rfl rfl ?_
 refine CW.anyJ2 (fc := [(0, (bo 0), [.string s.text, .int .i64 s.at_, .bool s.bad])]) (L0 := [(0, .obj (bo 0) ((scan.c s).map .r))]) 35 (fun (go1_8_1 : (Nat → Nat → Value)) => [(3, S ((rdShort s.text s.at_).1)), (4, I ((rdShort s.text s.at_).2.1)), (5, Bo ((rdShort s.text s.at_).2.2))]) (fun all hall f hf b0 hb K hK => ?_) ?_
 have ro1_9 : ∀ B, ∀ (go1_8_1 : Nat → Nat → Value), RA f E B all 0 (bt 16 65535) ⟨35, [(3, S ((rdShort s.text s.at_).1)), (4, I ((rdShort s.text s.at_).2.1)), (5, Bo ((rdShort s.text s.at_).2.2))] ++ b0⟩ K := by
  intro B go1_8_1
  exact RA.of2 hall hf hb (RA.finH (Tell.of rfl) (by kernel_rfl) (hK go1_8_1 _ rfl (Le.of rfl)))
 have ro1_8 : ∀ B, ∀ (go1_8_1 : Nat → Nat → Value), RA f E B all 2 (bt 16 28671) ⟨35, [(3, S ((rdShort s.text s.at_).1)), (4, I ((rdShort s.text s.at_).2.1)), (6, .tup [.u, .u, Bo ((rdShort s.text s.at_).2.2)])] ++ b0⟩ K := by
  intro B go1_8_1
  refine RA.of2 hall hf hb (RA.stepH (L := [12]) (Tell.of rfl) (by kernel_rfl) (by simp) (RA.each ?_ (RA.each0)))
  refine RO.extract (d := Bo ((rdShort s.text s.at_).2.2)) rfl rfl rfl rfl rfl (by decide) (Nat.le_of_ble_eq_true rfl) rfl rfl ?_
  refine RA.fr XK 35 0 [15] (bt 16 65535) rfl rfl (by kernel_rfl) (Tell.of rfl) ?_
  (conv=>whnf);refine ⟨rfl,fun B=>?_⟩
  exact RA.to2 hall hf hb (ro1_9 B go1_8_1) rfl rfl (by kernel_rfl)
 have ro1_7 : ∀ B, ∀ (go1_8_1 : Nat → Nat → Value), RA f E B all 3 (bt 16 14335) ⟨35, [(3, S ((rdShort s.text s.at_).1)), (6, .tup [.u, I ((rdShort s.text s.at_).2.1), .u]), (18, Bo ((rdShort s.text s.at_).2.2))] ++ b0⟩ K := by
  intro B go1_8_1
  refine RA.of2 hall hf hb (RA.stepH (L := [11]) (Tell.of rfl) (by kernel_rfl) (by simp) (RA.each ?_ (RA.each0)))
  refine RO.extract (d := I ((rdShort s.text s.at_).2.1)) rfl rfl rfl rfl rfl (by decide) (Nat.le_of_ble_eq_true rfl) rfl rfl ?_
  refine RA.fr XK 35 0 [14,15] (bt 16 65535) rfl rfl (by kernel_rfl) (Tell.of rfl) ?_
  (conv=>whnf);refine ⟨rfl,fun B=>?_⟩
  exact RA.to2 hall hf hb (ro1_9 B go1_8_1) rfl rfl (by kernel_rfl)
 have ro1_6 : ∀ B, ∀ (go1_8_1 : Nat → Nat → Value), RA f E B all 4 (bt 16 7167) ⟨35, [(6, .tup [S ((rdShort s.text s.at_).1), .u, .u]), (17, I ((rdShort s.text s.at_).2.1)), (18, Bo ((rdShort s.text s.at_).2.2))] ++ b0⟩ K := by
  intro B go1_8_1
  refine RA.of2 hall hf hb (RA.stepH (L := [10]) (Tell.of rfl) (by kernel_rfl) (by simp) (RA.each ?_ (RA.each0)))
  refine RO.extract (d := S ((rdShort s.text s.at_).1)) rfl rfl rfl rfl rfl (by decide) (Nat.le_of_ble_eq_true rfl) rfl rfl ?_
  refine RA.fr XK 35 0 [13,14,15] (bt 16 65535) rfl rfl (by kernel_rfl) (Tell.of rfl) ?_
  (conv=>whnf);refine ⟨rfl,fun B=>?_⟩
  exact RA.to2 hall hf hb (ro1_9 B go1_8_1) rfl rfl (by kernel_rfl)
 have ro1_5 : ∀ B, ∀ (go1_8_1 : Nat → Nat → Value), RA f E B all 4 (bt 16 10239) ⟨35, [(3, S ((rdShort s.text s.at_).1)), (6, .tup [.u, I ((rdShort s.text s.at_).2.1), Bo ((rdShort s.text s.at_).2.2)])] ++ b0⟩ K := by
  intro B go1_8_1
  refine RA.of2 hall hf hb (RA.stepH (L := [11, 12]) (Tell.of rfl) (by kernel_rfl) (by simp) (RA.each ?_ (RA.each ?_ (RA.each0))))
  refine RO.extract (d := I ((rdShort s.text s.at_).2.1)) rfl rfl rfl rfl rfl (by decide) (Nat.le_of_ble_eq_true rfl) rfl rfl ?_
  refine RA.fr XK 35 2 [14] (bt 16 28671) rfl rfl (by kernel_rfl) (Tell.of rfl) ?_
  (conv=>whnf);refine ⟨rfl,fun B=>?_⟩
  exact RA.to2 hall hf hb (ro1_8 B go1_8_1) rfl rfl (by kernel_rfl)
  refine RO.extract (d := Bo ((rdShort s.text s.at_).2.2)) rfl rfl rfl rfl rfl (by decide) (Nat.le_of_ble_eq_true rfl) rfl rfl ?_
  exact RA.to2 hall hf hb (ro1_7 B go1_8_1) rfl rfl (by kernel_rfl)
 have ro1_4 : ∀ B, ∀ (go1_8_1 : Nat → Nat → Value), RA f E B all 5 (bt 16 5119) ⟨35, [(6, .tup [S ((rdShort s.text s.at_).1), I ((rdShort s.text s.at_).2.1), .u]), (18, Bo ((rdShort s.text s.at_).2.2))] ++ b0⟩ K := by
  intro B go1_8_1
  refine RA.of2 hall hf hb (RA.stepH (L := [10, 11]) (Tell.of rfl) (by kernel_rfl) (by simp) (RA.each ?_ (RA.each ?_ (RA.each0))))
  refine RO.extract (d := S ((rdShort s.text s.at_).1)) rfl rfl rfl rfl rfl (by decide) (Nat.le_of_ble_eq_true rfl) rfl rfl ?_
  refine RA.fr XK 35 3 [13] (bt 16 14335) rfl rfl (by kernel_rfl) (Tell.of rfl) ?_
  (conv=>whnf);refine ⟨rfl,fun B=>?_⟩
  exact RA.to2 hall hf hb (ro1_7 B go1_8_1) rfl rfl (by kernel_rfl)
  refine RO.extract (d := I ((rdShort s.text s.at_).2.1)) rfl rfl rfl rfl rfl (by decide) (Nat.le_of_ble_eq_true rfl) rfl rfl ?_
  exact RA.to2 hall hf hb (ro1_6 B go1_8_1) rfl rfl (by kernel_rfl)
 have ro1_3 : ∀ B, ∀ (go1_8_1 : Nat → Nat → Value), RA f E B all 5 (bt 16 3071) ⟨35, [(6, .tup [S ((rdShort s.text s.at_).1), .u, Bo ((rdShort s.text s.at_).2.2)]), (17, I ((rdShort s.text s.at_).2.1))] ++ b0⟩ K := by
  intro B go1_8_1
  refine RA.of2 hall hf hb (RA.stepH (L := [10, 12]) (Tell.of rfl) (by kernel_rfl) (by simp) (RA.each ?_ (RA.each ?_ (RA.each0))))
  refine RO.extract (d := S ((rdShort s.text s.at_).1)) rfl rfl rfl rfl rfl (by decide) (Nat.le_of_ble_eq_true rfl) rfl rfl ?_
  refine RA.fr XK 35 2 [13,14] (bt 16 28671) rfl rfl (by kernel_rfl) (Tell.of rfl) ?_
  (conv=>whnf);refine ⟨rfl,fun B=>?_⟩
  exact RA.to2 hall hf hb (ro1_8 B go1_8_1) rfl rfl (by kernel_rfl)
  refine RO.extract (d := Bo ((rdShort s.text s.at_).2.2)) rfl rfl rfl rfl rfl (by decide) (Nat.le_of_ble_eq_true rfl) rfl rfl ?_
  exact RA.to2 hall hf hb (ro1_6 B go1_8_1) rfl rfl (by kernel_rfl)
 have ro1_2 : ∀ B, ∀ (go1_8_1 : Nat → Nat → Value), RA f E B all 6 (bt 16 1023) ⟨35, [(6, .tup [S ((rdShort s.text s.at_).1), I ((rdShort s.text s.at_).2.1), Bo ((rdShort s.text s.at_).2.2)])] ++ b0⟩ K := by
  intro B go1_8_1
  refine RA.of2 hall hf hb (RA.stepH (L := [10, 11, 12]) (Tell.of rfl) (by kernel_rfl) (by simp) (RA.each ?_ (RA.each ?_ (RA.each ?_ (RA.each0)))))
  refine RO.extract (d := S ((rdShort s.text s.at_).1)) rfl rfl rfl rfl rfl (by decide) (Nat.le_of_ble_eq_true rfl) rfl rfl ?_
  refine RA.fr XK 35 4 [13] (bt 16 10239) rfl rfl (by kernel_rfl) (Tell.of rfl) ?_
  (conv=>whnf);refine ⟨rfl,fun B=>?_⟩
  exact RA.to2 hall hf hb (ro1_5 B go1_8_1) rfl rfl (by kernel_rfl)
  refine RO.extract (d := I ((rdShort s.text s.at_).2.1)) rfl rfl rfl rfl rfl (by decide) (Nat.le_of_ble_eq_true rfl) rfl rfl ?_
  exact RA.to2 hall hf hb (ro1_3 B go1_8_1) rfl rfl (by kernel_rfl)
  refine RO.extract (d := Bo ((rdShort s.text s.at_).2.2)) rfl rfl rfl rfl rfl (by decide) (Nat.le_of_ble_eq_true rfl) rfl rfl ?_
  exact RA.to2 hall hf hb (ro1_4 B go1_8_1) rfl rfl (by kernel_rfl)
 have ro1_1 : ∀ B, ∀ (go1_8_1 : Nat → Nat → Value), RA f E B all 7 (bt 16 511) ⟨35, [(15, .tup [S ((rdShort s.text s.at_).1), I ((rdShort s.text s.at_).2.1), Bo ((rdShort s.text s.at_).2.2)])] ++ b0⟩ K := by
  intro B go1_8_1
  refine RA.of2 hall hf hb (RA.stepH (L := [9]) (Tell.of rfl) (by kernel_rfl) (by simp) (RA.each ?_ (RA.each0)))
  refine RO.moveMove rfl rfl rfl rfl rfl (by decide) (Nat.le_of_ble_eq_true rfl) (Nat.le_of_ble_eq_true rfl) ?_
  exact RA.to2 hall hf hb (ro1_2 B go1_8_1) rfl rfl (by kernel_rfl)
 have ro1_0 : ∀ B, RA f E B all 8 (bt 16 255) ⟨35, [(10, S s.text), (14, I s.at_)] ++ b0⟩ K := by
  intro B
  refine RA.of2 hall hf hb (RA.stepH (L := [8]) (Tell.of rfl) (by kernel_rfl) (by simp) (RA.each ?_ (RA.each0)))
  refine RO.call rfl rfl (impl_ReadShort_fn s.text s.at_ hs.2.2) rfl (.cons (.one (.r .r)) (.cons (.one (.r .r)) (.nil))) rfl fun go1_8_1 => ?_
  exact RA.to2 hall hf hb (ro1_1 B go1_8_1) rfl rfl (by kernel_rfl)
 refine RA.start (by kernel_rfl) (by kernel_rfl) (m := 16) (ls' := (bt 16 0)) ?_
 refine RA.fr XK 35 8 [0,1,2,3,4,5,6,7] (bt 16 255) rfl rfl (by kernel_rfl) (Tell.of rfl) ?_
 (conv=>whnf);refine ⟨rfl,fun B=>?_⟩
 exact RA.to2 hall hf hb (ro1_0 B) rfl rfl (by kernel_rfl)
 rintro go1_8_1
 refine CW.g XK 35 [.p] rfl rfl rfl ?_
 refine CW.seqJ 35 (fun (v2 : Bool) => [(0, .obj (bo 0) ((scan.c s).map .r)), (3, S ((rdShort s.text s.at_).1)), (4, I ((rdShort s.text s.at_).2.1)), (26, Bo v2)]) (fun v2 => v2 = (s.bad || (!((rdShort s.text s.at_).2.2)))) ?_ ?_
 refine CW.g XK 35 [.o 5] rfl rfl rfl ?_
 refine RW.gv rfl rfl rfl rfl (fun h3 => V.mv (d := Bo ((rdShort s.text s.at_).2.2)) rfl rfl) (fun h3 => ?_) (fun h3 => ?_)
 refine RW.g XK 35 [.o 2,.p] rfl rfl rfl ?_
 exact ⟨_, by first | rfl | (simp_all; done) | (simp_all; omega) | grind, rfl, Le.of rfl⟩
 refine RW.g XK 35 [.o 2,.p] rfl rfl rfl ?_
 exact ⟨_, by first | rfl | (simp_all; done) | (simp_all; omega) | grind, rfl, Le.of rfl⟩
 intro v2 hv4
 refine CW.cond rfl (fun h5 => ?_) (fun h5 => ?_)
 have hvv := hv4.symm.trans h5
 refine CW.g XK 35 [.n 2,.e [0,2]] rfl rfl rfl ?_
 refine CW.ret ?_
 exact Post.one (RV.s rfl (by simp only [shV]; rw [scShort, if_pos hvv])) (AOs.obE (f := fun e => (scan.c e).map .r) (e' := (⟨s.text, s.at_, true⟩ : scan)) rfl (DT.r (DT.r (DT.r DT.e))) (by simp only [shS]; rw [scShort, if_pos hvv]) AOs.e)
 have hvv := hv4.symm.trans h5
 refine CW.g XK 35 [.p,.e [0,3,4],.n 2,.e [0,2]] rfl rfl rfl ?_
 refine CW.ret ?_
 exact Post.one (RV.s rfl (by simp only [shV]; rw [scShort, if_neg (by rw [hvv]; simp)])) (AOs.obE (f := fun e => (scan.c e).map .r) (e' := (⟨s.text, ((rdShort s.text s.at_).2.1), s.bad⟩ : scan)) rfl (DT.r (DT.r (DT.r DT.e))) (by simp only [shS]; rw [scShort, if_neg (by rw [hvv]; simp), (Bool.or_eq_false_iff.1 hvv).1]) AOs.e)
set_option maxHeartbeats 4000000 in
theorem __impl_scan__done_fn (s : scan) : Eng.Fn E.P 97 [.one (.r (.f none (scan.c s)))] (.one (.one (.w (.v (.bool (doneB s)))))) [.one (.r (.f none (scan.c s)))] := by
 refine Eng.Fn.intro (E := E) (rvs := [.tmp 2]) Tryz.func97 rfl rfl rfl (by simp [outSlots, moved, rvSlot, sl]) ?_
 intro B g bo
 refine CW.asRp 0 rfl ?_
 refine CW.g XK 20 [.e [0],.n 1,.e [0]] rfl rfl rfl ?_
 refine CW.seqJ 20 (fun (v1 : Bool) => [(2, Bo v1)]) (fun v1 => v1 = ((!s.bad) && (s.at_ == (s.text.size : Int)))) ?_ ?_
 refine CW.drawn (by kernel_rfl) ?_
 refine RQ.k XK 20 6 rfl ?_
 (conv=>whnf);refine ⟨rfl,?_⟩
 refine RQ.gv rfl rfl rfl rfl (fun h2 => V.mv (d := .rp (scan.c s)) rfl rfl) (fun h2 => ?_) (fun h2 => ?_)
 refine RQ.k XK 20 11 rfl ?_
 (conv=>whnf);refine ⟨rfl,?_⟩
 refine RQ.nil ?_
 exact ⟨_, by first | rfl | (simp_all; done) | (simp_all; omega) | grind, rfl, Le.of rfl⟩
 refine RQ.k XK 20 11 rfl ?_
 (conv=>whnf);refine ⟨rfl,?_⟩
 refine RQ.nil ?_
 exact ⟨_, by first | rfl | (simp_all; done) | (simp_all; omega) | grind, rfl, Le.of rfl⟩
 intro v1 hv3
 refine CW.ret ?_
 exact Post.one (RV.b rfl (by simp_all [doneB])) (AOs.r AOs.e)
set_option maxHeartbeats 4000000 in
theorem impl_ReadSnap_fn (t : ByteArray) (ht : t.size ≤ 1048576) : Eng.Fn E.P 93 [.one (.r (.v (.string t)))] (.tup [.agg ((Snap.c ((rdSnap t).1)).map .w), .one (.w (.v (.bool ((rdSnap t).2))))]) [.one (.r (.v (.string t)))] := by
 refine Eng.Fn.intro (E := E) (rvs := [.cell 2 77, .tmp 3]) Tryz.func93 rfl rfl rfl (by simp [outSlots, moved, rvSlot, sl]) ?_
 intro B g bo
 refine CW.g XK 66 [.e [0]] rfl rfl rfl ?_
 have hz := unsT_size t
 have hok := scU_ok t
 have ho1 := numS_ok hok
 have ho2 := s2U_ok t
 have ho3 := shS_ok ho2
 refine CW.h XK 66 [.n 1,.e [0,2],.o 1] rfl ?_;(conv=>whnf);intro b1;(conv=>whnf);refine ⟨rfl,?_⟩
 refine RW.call rfl (impl_Unsealed_fn t ht) rfl (.cons (.one (.r .r)) (.nil)) fun g2 => ?_
 refine RW.h XK 66 [.o 5,.p,.e [0,2,4,5],.n 2,.e [0,2,6,7,20],.o 1] rfl ?_;(conv=>whnf);intro b3;(conv=>whnf);intro b4;(conv=>whnf);refine ⟨rfl,?_⟩
 refine RW.callP (k := 20) (__impl_scan__number_fn (⟨((unsT t).1), 0, (!((unsT t).2))⟩ : scan) hok) rfl rfl (Nat.le_of_ble_eq_true rfl) (by decide) rfl (DT.r (DT.r (DT.r DT.e))) (AsPs.here rfl (.nil)) fun g5 q6 => ?_
 refine RW.g XK 66 [.o 2,.p,.e [0,2,6,7,20],.o 1] rfl rfl rfl ?_
 refine RW.callP (k := 20) (__impl_scan__number_fn (numS (⟨((unsT t).1), 0, (!((unsT t).2))⟩ : scan)) ho1) rfl rfl (Nat.le_of_ble_eq_true rfl) (by decide) rfl (DT.r (DT.r (DT.r DT.e))) (AsPs.here rfl (.nil)) fun g7 q8 => ?_
 refine RW.g XK 66 [.o 2,.p,.e [0,2,6,7,20],.o 1] rfl rfl rfl ?_
 refine RW.callP (k := 20) (__impl_scan__short_fn (numS (numS (⟨((unsT t).1), 0, (!((unsT t).2))⟩ : scan))) ho2) rfl rfl (Nat.le_of_ble_eq_true rfl) (by decide) rfl (DT.r (DT.r (DT.r DT.e))) (AsPs.here rfl (.nil)) fun g9 q10 => ?_
 refine RW.g XK 66 [.o 1,.p,.e [0,2,6,7,8,20],.o 1] rfl rfl rfl ?_
 refine RW.callP (k := 20) (__impl_scan__short_fn (shS (numS (numS (⟨((unsT t).1), 0, (!((unsT t).2))⟩ : scan)))) ho3) rfl rfl (Nat.le_of_ble_eq_true rfl) (by decide) rfl (DT.r (DT.r (DT.r DT.e))) (AsPs.here rfl (.nil)) fun g11 q12 => ?_
 refine RW.g XK 66 [.o 2,.p,.e [0,2,6,7,8,20],.o 1] rfl rfl rfl ?_
 refine RW.call rfl (impl_ReadConf_fn (shV (numS (numS (⟨((unsT t).1), 0, (!((unsT t).2))⟩ : scan)))) (shV_size ho2)) rfl (.cons (.one (.r .r)) (.nil)) fun g13 => ?_
 refine RW.g XK 66 [.o 3] rfl rfl rfl ?_
 refine RW.assignMove rfl rfl rfl (by decide) (Nat.le_of_ble_eq_true rfl) (Nat.le_of_ble_eq_true rfl) ?_
 refine RW.g XK 66 [.o 1,.p,.e [0,2,6,7,9,10,20],.o 3,.e [0,2,6,7,9,10,20]] rfl rfl rfl ?_
 refine RW.pullT (k := 7) (l := 9) (j := 2) 7 9 2 rfl rfl rfl (by decide) rfl rfl rfl ?_
 refine RW.g XK 66 [.e [0,2,6,7,10,20],.p,.e [0,2,6,7,10,20],.p] rfl rfl rfl ?_
 refine CW.seqJ 66 (fun (v14 : Bool) => [(2, .obj b1 [I 0, I 0, .r (.v (.slice none 0 0)), S (⟨#[]⟩)]), (7, .obj b4 [I (numV (⟨((unsT t).1), 0, (!((unsT t).2))⟩ : scan)), I (numV (numS (⟨((unsT t).1), 0, (!((unsT t).2))⟩ : scan))), .w (sl 1 cI ((readConf (shV (numS (numS (⟨((unsT t).1), 0, (!((unsT t).2))⟩ : scan))))).1)) (g13 0 0), S (shV (shS (numS (numS (⟨((unsT t).1), 0, (!((unsT t).2))⟩ : scan)))))]), (63, Bo v14)]) (fun v14 => v14 = (((((!(doneB (shS (shS (numS (numS (⟨((unsT t).1), 0, (!((unsT t).2))⟩ : scan))))))) || (!((readConf (shV (numS (numS (⟨((unsT t).1), 0, (!((unsT t).2))⟩ : scan))))).2))) || (!(inR (numV (⟨((unsT t).1), 0, (!((unsT t).2))⟩ : scan)) 0 1000000))) || (!(inR (numV (numS (⟨((unsT t).1), 0, (!((unsT t).2))⟩ : scan))) 0 100000))) || decide ((t.size : Int) > 20000))) ?_ ?_
 refine CW.g XK 66 [.o 1] rfl rfl rfl ?_
 refine RW.callOwn rfl (__impl_scan__done_fn (shS (shS (numS (numS (⟨((unsT t).1), 0, (!((unsT t).2))⟩ : scan)))))) rfl (.cons (.one (.r (.pt rfl rfl (DRd.r (DRd.r (DRd.r DRd.e))) nofun))) (.nil)) rfl fun g15 => ?_
 refine RW.g XK 66 [.o 2] rfl rfl rfl ?_
 refine RW.gv rfl rfl rfl rfl (fun h16 => V.mv (d := Bo ((readConf (shV (numS (numS (⟨((unsT t).1), 0, (!((unsT t).2))⟩ : scan))))).2)) rfl rfl) (fun h16 => ?_) (fun h16 => ?_)
 refine RW.g XK 66 [.o 3] rfl rfl rfl ?_
 refine RW.gv rfl rfl rfl rfl (fun h17 => V.field rfl rfl rfl rfl (by decide) rfl) (fun h17 => ?_) (fun h17 => ?_)
 refine RW.g XK 66 [.o 1] rfl rfl rfl ?_
 refine RW.gcall rfl rfl rfl rfl (impl_isIndex_fn (numV (⟨((unsT t).1), 0, (!((unsT t).2))⟩ : scan))) rfl (.cons (.one (.r .r)) (.nil)) fun g18 => ?_
 refine RW.g XK 66 [.o 3] rfl rfl rfl ?_
 refine RW.gv rfl rfl rfl rfl (fun h19 => V.field rfl rfl rfl rfl (by decide) rfl) (fun h19 => ?_) (fun h19 => ?_)
 refine RW.g XK 66 [.o 1] rfl rfl rfl ?_
 refine RW.gcall rfl rfl rfl rfl (impl_isTerm_fn (numV (numS (⟨((unsT t).1), 0, (!((unsT t).2))⟩ : scan)))) rfl (.cons (.one (.r .r)) (.nil)) fun g20 => ?_
 refine RW.g XK 66 [.o 3] rfl rfl rfl ?_
 refine RW.gv rfl rfl rfl rfl (fun h21 => V.mv (d := S t) rfl rfl) (fun h21 => ?_) (fun h21 => ?_)
 refine RW.g XK 66 [.o 3,.p] rfl rfl rfl ?_
 exact ⟨_, by first | rfl | (simp_all; done) | (simp_all; omega) | grind, rfl, Le.of rfl⟩
 refine RW.g XK 66 [.o 3,.p] rfl rfl rfl ?_
 exact ⟨_, by first | rfl | (simp_all; done) | (simp_all; omega) | grind, rfl, Le.of rfl⟩
 refine RW.g XK 66 [.o 9,.p] rfl rfl rfl ?_
 exact ⟨_, by first | rfl | (simp_all; done) | (simp_all; omega) | grind, rfl, Le.of rfl⟩
 refine RW.g XK 66 [.o 15,.p] rfl rfl rfl ?_
 exact ⟨_, by first | rfl | (simp_all; done) | (simp_all; omega) | grind, rfl, Le.of rfl⟩
 refine RW.g XK 66 [.o 19,.p] rfl rfl rfl ?_
 exact ⟨_, by first | rfl | (simp_all; done) | (simp_all; omega) | grind, rfl, Le.of rfl⟩
 intro v14 hv22
 refine CW.cond rfl (fun h23 => ?_) (fun h23 => ?_)
 have hvv := hv22.symm.trans h23
 refine CW.g XK 66 [.n 1,.e [2,3]] rfl rfl rfl ?_
 refine CW.ret ?_
 exact Post.tup (by decide) (RVs.c (RV.c (f := fun e => (Snap.c e).map .w) (e' := (⟨0, 0, [], ⟨#[]⟩⟩ : Snap)) rfl rfl rfl rfl (DT.v (DT.v (DT.n (DT.v DT.e)))) (by rw [rdSnap, if_pos (show snC t = true from hvv)]; rfl)) (RVs.c (RV.b rfl (by rw [rdSnap, if_pos (show snC t = true from hvv)])) RVs.e)) (AOs.r AOs.e)
 have hvv := hv22.symm.trans h23
 refine CW.g XK 66 [.p,.e [2,7],.o 2,.e [2,7]] rfl rfl rfl ?_
 refine RW.pullO (k := 2) (l := 7) (j := 2) 2 7 2 rfl rfl rfl (by decide) rfl rfl rfl rfl ?_
 refine RW.g XK 66 [.e [2],.o 1,.p,.e [2,3]] rfl rfl rfl ?_
 refine CW.ret ?_
 exact Post.tup (by decide) (RVs.c (RV.c (f := fun e => (Snap.c e).map .w) (e' := (⟨(numV (⟨((unsT t).1), 0, (!((unsT t).2))⟩ : scan)), (numV (numS (⟨((unsT t).1), 0, (!((unsT t).2))⟩ : scan))), (readConf (shV (numS (numS (⟨((unsT t).1), 0, (!((unsT t).2))⟩ : scan))))).1, (shV (shS (numS (numS (⟨((unsT t).1), 0, (!((unsT t).2))⟩ : scan)))))⟩ : Snap)) rfl rfl rfl rfl (DT.v (DT.v (DT.w (DT.v DT.e)))) (by rw [rdSnap, if_neg (by rw [show snC t = false from hvv]; simp)]; rfl)) (RVs.c (RV.b rfl (by rw [rdSnap, if_neg (by rw [show snC t = false from hvv]; simp)])) RVs.e)) (AOs.r AOs.e)
theorem numS_fn (t : ByteArray) (h : t.size ≤ 1048576) : Eng.Fn E.P 92 [.one (.r (.v (.string t))), .one (.r (.v (.string (⟨#[115]⟩ : ByteArray)))), .one (.r (.v (.int .i64 1000000)))] (.one (.one (.w (.v (.int .i64 (snIx t)))))) [.one (.r (.v (.string t))), .one (.r (.v (.string (⟨#[115]⟩ : ByteArray)))), .one (.r (.v (.int .i64 1000000)))] := by
 have h9 := impl_numberOf_fn t (⟨#[115]⟩ : ByteArray) 1000000 h
 rw [show numOf t (⟨#[115]⟩ : ByteArray) 1000000 = snIx t from numOf_s t] at h9
 exact h9
set_option maxHeartbeats 4000000 in
theorem impl_NewestSnap_fn (d : Disk) (hok : okToDisk d) : Eng.Fn E.P 31 [.agg ((Disk.c d).map .r)] (.tup [.agg ((Snap.c ((newest d).1)).map .w), .one (.w (.v (.bool ((newest d).2))))]) [.agg ((Disk.c d).map .r)] := by
 refine Eng.Fn.intro (E := E) (rvs := [.cell 2 77, .tmp 3]) Tryz.func31 rfl rfl rfl (by simp [outSlots, moved, rvSlot, sl]) ?_
 intro B g bo
 refine CW.g XK 55 [.e [0]] rfl rfl rfl ?_
 have hl1 : d.files.length ≤ maxLen := by have := hok.1; simp only [maxLen]; omega
 refine CW.h XK 55 [.o 1] rfl ?_;(conv=>whnf);intro b1;(conv=>whnf);refine ⟨rfl,?_⟩
 refine RW.freezeB (ts := (Disk.c d)) 1 rfl (DRd.r DRd.e) ?_
 refine RW.h XK 55 [.o 2,.p,.e [1,2],.n 1,.e [1,2,4],.o 1] rfl ?_;(conv=>whnf);intro b2;(conv=>whnf);intro b3;(conv=>whnf);refine ⟨rfl,?_⟩
 refine RW.call rfl (impl_DiskOk_fn d hok) rfl (.cons (.agg (.cons (.r .r) (.nil))) (.nil)) fun g4 => ?_
 refine RW.g XK 55 [.o 1,.p,.e [1,2,4,13]] rfl rfl rfl ?_
 refine CW.cond rfl (fun h5 => ?_) (fun h5 => ?_)
 have hno := nT h5
 refine CW.g XK 55 [.n 1,.e [2,3]] rfl rfl rfl ?_
 refine CW.ret ?_
 exact Post.tup (by decide) (RVs.c (RV.c (f := fun e => (Snap.c e).map .w) (e' := (⟨0, 0, [], ⟨#[]⟩⟩ : Snap)) rfl rfl rfl rfl (DT.v (DT.v (DT.n (DT.v DT.e)))) (by rw [newest_bad hno]; rfl)) (RVs.c (RV.b rfl (by rw [newest_bad hno])) RVs.e)) (AOs.a rfl AOs.e)
 have hdk := nF h5
 refine CW.g XK 55 [.p,.e [1,2,4],.n 1,.e [2,4,16,17,18],.p] rfl rfl rfl ?_
 refine CW.nilCell 4 2 1 cI rfl rfl ?_
 refine CW.loopI 55 (fun (zz : Nat × Snap × Value) => match zz with | (i, b, X) => [(2, .obj b2 [I 0, I 0, .r (.v (.slice none 0 0)), S (⟨#[]⟩)]), (4, .obj b3 [I b.index, I b.term_, .w (sl 1 cI b.conf) X, S b.body]), (16, .r (sl 3 File.c d.files)), (17, I (d.files.length : Int)), (18, I (i : Int))]) (fun (zz : Nat × Snap × Value) => match zz with | (i, b, X) => BsP d i b) (fun (zz : Nat × Snap × Value) => match zz with | (i, b, X) => d.files.length - i) (0, bst0, _) rfl (Le.c rfl <| Le.c rfl <| Le.c rfl <| Le.c rfl <| Le.c rfl <| Le.e) (BsP.init d) ?_
 rintro ⟨i, b, X⟩ hP
 refine CW.g XK 55 [.n 1,.e [2,4,16,17,18,19],.p] rfl rfl rfl ?_
 refine CW.cond rfl (fun h6 => ?_) (fun h6 => ?_)
 have hii : i < d.files.length := by have := h6; simp at this; first | exact this | omega | (simp; done) | (simp; omega)
 obtain ⟨ei, hei⟩ : ∃ e, d.files[i]? = some e := ⟨_, List.getElem?_eq_getElem hii⟩
 have hdi := drop_get hei
 refine CW.g XK 55 [.p,.e [2,4,16,17,18],.p,.p,.p,.p] rfl rfl rfl ?_
 refine RW.v rfl (V.indexS rfl rfl rfl rfl rfl rfl File.len hei) ?_
 refine RW.h XK 55 [.o 3] rfl ?_;(conv=>whnf);intro b7;(conv=>whnf);refine ⟨rfl,?_⟩
 refine RW.freezeB (ts := (File.c ei)) 6 rfl (DRd.r (DRd.r (DRd.r DRd.e))) ?_
 refine RW.g XK 55 [.p,.e [2,4,6,16,17,18],.o 2] rfl rfl rfl ?_
 refine RW.call rfl (numS_fn ei.name (hok.2 ei (List.mem_of_getElem? hei)).1) rfl (.cons (.one (.r .r)) (.cons (.one (.r .r)) (.cons (.one (.r .r)) (.nil)))) fun g8 => ?_
 refine RW.g XK 55 [.o 1,.p,.e [2,4,6,7,16,17,18],.o 2] rfl rfl rfl ?_
 refine RW.call rfl (impl_ReadSnap_fn ei.text (hok.2 ei (List.mem_of_getElem? hei)).2) rfl (.cons (.one (.r .r)) (.nil)) fun g9 => ?_
 refine RW.h XK 55 [.o 5,.e [2,4,7,8,16,17,18,29,30]] rfl ?_;(conv=>whnf);intro b10;(conv=>whnf);refine ⟨rfl,?_⟩
 refine RW.pullA (k := 8) (l := 29) (j := 2) 8 29 2 rfl rfl rfl (by decide) rfl rfl rfl rfl ?_
 refine RW.g XK 55 [.e [2,4,7,8,16,17,18,30],.o 1,.p,.e [2,4,7,8,9,16,17,18]] rfl rfl rfl ?_
 refine CW.seqJ 55 (fun (v11 : Bool) => [(2, .obj b2 [I 0, I 0, .r (.v (.slice none 0 0)), S (⟨#[]⟩)]), (4, .obj b3 [I b.index, I b.term_, .w (sl 1 cI b.conf) X, S b.body]), (8, .obj b10 [I (((rdSnap ei.text).1).index), I (((rdSnap ei.text).1).term_), .w (sl 1 cI (((rdSnap ei.text).1).conf)) (g9 0 2), S (((rdSnap ei.text).1).body)]), (16, .r (sl 3 File.c d.files)), (17, I (d.files.length : Int)), (18, I (i : Int)), (47, Bo v11)]) (fun v11 => v11 = (((decide ((snIx ei.name) ≥ 0) && ((rdSnap ei.text).2)) && (((rdSnap ei.text).1).index == (snIx ei.name))) && decide ((snIx ei.name) > b.index))) ?_ ?_
 refine CW.g XK 55 [.o 3] rfl rfl rfl ?_
 refine RW.gv rfl rfl rfl rfl (fun h12 => V.mv (d := Bo ((rdSnap ei.text).2)) rfl rfl) (fun h12 => ?_) (fun h12 => ?_)
 refine RW.g XK 55 [.o 2] rfl rfl rfl ?_
 refine RW.gv rfl rfl rfl rfl (fun h13 => V.field rfl rfl rfl rfl (by decide) rfl) (fun h13 => ?_) (fun h13 => ?_)
 refine RW.g XK 55 [.o 5] rfl rfl rfl ?_
 refine RW.gv rfl rfl rfl rfl (fun h14 => V.mv (d := I (snIx ei.name)) rfl rfl) (fun h14 => ?_) (fun h14 => ?_)
 refine RW.g XK 55 [.o 4,.p] rfl rfl rfl ?_
 exact ⟨_, by first | rfl | (simp_all; done) | (simp_all; omega) | grind, rfl, Le.of rfl⟩
 refine RW.g XK 55 [.o 4,.p] rfl rfl rfl ?_
 exact ⟨_, by first | rfl | (simp_all; done) | (simp_all; omega) | grind, rfl, Le.of rfl⟩
 refine RW.g XK 55 [.o 10,.p] rfl rfl rfl ?_
 exact ⟨_, by first | rfl | (simp_all; done) | (simp_all; omega) | grind, rfl, Le.of rfl⟩
 refine RW.g XK 55 [.o 13,.p] rfl rfl rfl ?_
 exact ⟨_, by first | rfl | (simp_all; done) | (simp_all; omega) | grind, rfl, Le.of rfl⟩
 intro v11 hv15
 refine CW.cond rfl (fun h16 => ?_) (fun h16 => ?_)
 have hvv := hv15.symm.trans h16
 refine CW.g XK 55 [.o 2,.e [2,4,8,16,17,18]] rfl rfl rfl ?_
 refine RW.pullO (k := 4) (l := 8) (j := 2) 4 8 2 rfl rfl rfl (by decide) rfl rfl rfl rfl ?_
 refine RW.g XK 55 [.e [2,4,16,17,18],.p,.e [2,4,16,17,18],.p] rfl rfl rfl ?_
 refine RW.v rfl (V.inc rfl rfl rfl hii hl1) ?_
 refine RW.g XK 55 [.o 1,.p] rfl rfl rfl ?_
 exact ⟨(i + 1, ((rdSnap ei.text).1), _), by simp only []; omega, (by first | exact hP.y hei hdk hvv | exact hP.n hei hdk hvv), rfl, Le.c rfl <| Le.c rfl <| Le.c rfl <| Le.c rfl <| Le.c rfl <| Le.e⟩
 have hvv := hv15.symm.trans h16
 refine CW.g XK 55 [.p,.e [2,4,16,17,18],.p] rfl rfl rfl ?_
 refine RW.v rfl (V.inc rfl rfl rfl hii hl1) ?_
 refine RW.g XK 55 [.o 1,.p] rfl rfl rfl ?_
 exact ⟨(i + 1, b, _), by simp only []; omega, (by first | exact hP.y hei hdk hvv | exact hP.n hei hdk hvv), rfl, Le.c rfl <| Le.c rfl <| Le.c rfl <| Le.c rfl <| Le.c rfl <| Le.e⟩
 have hx9 : (decide ((i : Int) < (d.files.length : Int)) && diskOk d) = false := by rw [h6]; rfl
 have hii : d.files.length ≤ i := by have := h6; simp at this; first | exact this | omega | (simp; done) | (simp; omega)
 have hdi : d.files.drop i = [] := List.drop_eq_nil_of_le hii
 refine CW.exit ?_
 refine CW.g XK 55 [.e [2,4],.n 1,.e [2,4,52]] rfl rfl rfl ?_
 refine CW.cond rfl (fun h17 => ?_) (fun h17 => ?_)
 have hng := h17
 refine CW.g XK 55 [.n 1,.e [2,3]] rfl rfl rfl ?_
 refine CW.ret ?_
 exact Post.tup (by decide) (RVs.c (RV.c (f := fun e => (Snap.c e).map .w) (e' := (⟨0, 0, [], ⟨#[]⟩⟩ : Snap)) rfl rfl rfl rfl (DT.v (DT.v (DT.n (DT.v DT.e)))) (by rw [hP.no hx9 hng]; rfl)) (RVs.c (RV.b rfl (by rw [hP.no hx9 hng])) RVs.e)) (AOs.a rfl AOs.e)
 have hng := h17
 refine CW.g XK 55 [.p,.e [2,4],.o 2,.e [2,4]] rfl rfl rfl ?_
 refine RW.pullO (k := 2) (l := 4) (j := 2) 2 4 2 rfl rfl rfl (by decide) rfl rfl rfl rfl ?_
 refine RW.g XK 55 [.e [2],.o 1,.p,.e [2,3]] rfl rfl rfl ?_
 refine CW.ret ?_
 exact Post.tup (by decide) (RVs.c (RV.c (f := fun e => (Snap.c e).map .w) (e' := b) rfl rfl rfl rfl (DT.v (DT.v (DT.w (DT.v DT.e)))) (by rw [hP.yes hx9 hng])) (RVs.c (RV.b rfl (by rw [hP.yes hx9 hng])) RVs.e)) (AOs.a rfl AOs.e)
set_option maxHeartbeats 4000000 in
theorem __impl_scan__count_fn (s : scan) (m : Int) (hs : s.ok) : Eng.Fn E.P 94 [.ob ((scan.c s).map .r), .one (.r (.v (.int .i64 m)))] (.one (.one (.w (.v (.int .i64 (cntV s m)))))) [.ob ((scan.c (cntS s m)).map .r), .one (.r (.v (.int .i64 m)))] := by
 refine Eng.Fn.intro (E := E) (rvs := [.tmp 4]) Tryz.func94 rfl rfl rfl (by simp [outSlots, moved, rvSlot, sl]) ?_
 intro B g bo
 refine CW.g XK 15 [.e [0,1],.n 1,.e [0,1],.o 1] rfl rfl rfl ?_
 refine RW.callP (k := 0) (__impl_scan__number_fn s hs) rfl rfl (Nat.le_of_ble_eq_true rfl) (by decide) rfl (DT.r (DT.r (DT.r DT.e))) (AsPs.here rfl (.nil)) fun g1 q2 => ?_
 refine RW.g XK 15 [.o 1,.p,.e [0,1,5],.n 1,.e [0,5,10]] rfl rfl rfl ?_
 refine CW.cond rfl (fun h3 => ?_) (fun h3 => ?_)
 have hgt := h3
 refine CW.g XK 15 [.n 2,.e [0,4]] rfl rfl rfl ?_
 refine CW.ret ?_
 exact Post.one (RV.i rfl (by rw [cntV, if_pos hgt])) (AOs.obE (f := fun e => (scan.c e).map .r) (e' := (⟨(numS s).text, (numS s).at_, true⟩ : scan)) rfl (DT.r (DT.r (DT.r DT.e))) (by rw [cntS, if_pos hgt]; rfl) (AOs.r AOs.e))
 have hgt := h3
 refine CW.g XK 15 [.p,.e [0,5],.n 1,.e [0,4]] rfl rfl rfl ?_
 refine CW.ret ?_
 exact Post.one (RV.i rfl (by rw [cntV, if_neg (by rw [hgt]; simp)])) (AOs.obE (f := fun e => (scan.c e).map .r) (e' := (numS s)) rfl (DT.r (DT.r (DT.r DT.e))) (by rw [cntS, if_neg (by rw [hgt]; simp)]) (AOs.r AOs.e))
set_option maxHeartbeats 4000000 in
theorem impl_ReadKeep_fn (t : ByteArray) (ht : t = kT) : Eng.Fn E.P 32 [.one (.r (.v (.string t)))] (.tup [.agg ((Keep.c keepNew).map .r), .one (.w (.v (.bool true)))]) [.one (.r (.v (.string t)))] := by
 refine Eng.Fn.intro (E := E) (rvs := [.cell 2 43, .tmp 3]) Tryz.func32 rfl rfl rfl (by simp [outSlots, moved, rvSlot, sl]) ?_
 intro B g bo
 refine CW.g XK 68 [.e [0]] rfl rfl rfl ?_
 have k0 := kr_0 ht
 have kok := kr_ok ht
 refine CW.h XK 68 [.n 3,.e [2,4,5,12],.o 1] rfl ?_;(conv=>whnf);intro b1;(conv=>whnf);intro b2;(conv=>whnf);intro b3;(conv=>whnf);refine ⟨rfl,?_⟩
 refine RW.callP (k := 12) (__impl_scan__count_fn (⟨t, 0, false⟩ : scan) 3 kok.1) rfl rfl (Nat.le_of_ble_eq_true rfl) (by decide) rfl (DT.r (DT.r (DT.r DT.e))) (AsPs.here rfl (.cons (.one (.r .r)) (.nil))) fun g4 q5 => ?_
 refine RW.g XK 68 [.o 1,.p,.e [2,4,5,6,12],.n 1,.e [2,4,5,12,16,17],.p] rfl rfl rfl ?_
 refine CW.loopI 68 (fun (i : Nat) => [(2, .obj b1 [.r (.v (.slice none 0 0)), .r (.v (.slice none 0 0))]), (4, .pt 12 b2 0), (5, .obj b3 [.r (.v (.slice none 0 0)), .r (.v (.slice none 0 0))]), (12, .obj b2 ((scan.c (cntS (⟨t, 0, false⟩ : scan) 3)).map .r)), (16, I (cntV (⟨t, 0, false⟩ : scan) 3)), (17, I (i : Int))]) (fun (i : Nat) => i = 0) (fun (i : Nat) => 0) 0 rfl (Le.c rfl <| Le.c rfl <| Le.c rfl <| Le.c rfl <| Le.c rfl <| Le.c rfl <| Le.e) rfl ?_
 rintro i hi0
 refine CW.g XK 68 [.n 1,.e [2,4,5,12,16,17,18],.p] rfl rfl rfl ?_
 refine CW.cond rfl (fun h6 => ?_) (fun h6 => ?_)
 have hbad := h6
 exact absurd hbad (by rw [k0, hi0]; decide)
 refine CW.exit ?_
 refine CW.g XK 68 [.e [2,4,5,12],.o 1] rfl rfl rfl ?_
 refine RW.callP (k := 12) (__impl_scan__count_fn (cntS (⟨t, 0, false⟩ : scan) 3) 8 kok.2) rfl rfl (Nat.le_of_ble_eq_true rfl) (by decide) rfl (DT.r (DT.r (DT.r DT.e))) (AsPs.here rfl (.cons (.one (.r .r)) (.nil))) fun g7 q8 => ?_
 refine RW.g XK 68 [.o 1,.p,.e [2,4,5,8,12],.n 1,.e [2,4,5,12,38,39],.p] rfl rfl rfl ?_
 refine CW.nilCell 5 1 3 Item.c rfl rfl ?_
 refine CW.loopI 68 (fun (zz : Nat × scan × List Item × Value) => match zz with | (j, s, es, X) => [(2, .obj b1 [.r (.v (.slice none 0 0)), .r (.v (.slice none 0 0))]), (4, .pt 12 b2 0), (5, .obj b3 [.r (.v (.slice none 0 0)), .w (sl 3 Item.c es) X]), (12, .obj b2 ((scan.c s).map .r)), (38, I (cntV (cntS (⟨t, 0, false⟩ : scan) 3) 8)), (39, I (j : Int))]) (fun (zz : Nat × scan × List Item × Value) => match zz with | (j, s, es, X) => KrP t j s es) (fun (zz : Nat × scan × List Item × Value) => match zz with | (j, s, es, X) => 1 - j) (0, _, [], _) rfl (Le.c rfl <| Le.c rfl <| Le.c rfl <| Le.c rfl <| Le.c rfl <| Le.c rfl <| Le.e) (KrP.init ht) ?_
 rintro ⟨j, s, es, X⟩ hP
 refine CW.g XK 68 [.n 1,.e [2,4,5,12,38,39,40],.p] rfl rfl rfl ?_
 refine CW.cond rfl (fun h9 => ?_) (fun h9 => ?_)
 have hlt : j = 0 := hP.lt h9
 refine CW.h XK 68 [.p,.e [2,4,5,12,38,39],.n 1,.e [2,4,5,9,12,38,39],.o 1] rfl ?_;(conv=>whnf);intro b10;(conv=>whnf);refine ⟨rfl,?_⟩
 refine RW.callP (k := 12) (__impl_scan__short_fn s (hP.o1 hlt)) rfl rfl (Nat.le_of_ble_eq_true rfl) (by decide) rfl (DT.r (DT.r (DT.r DT.e))) (AsPs.here rfl (.nil)) fun g11 q12 => ?_
 refine RW.g XK 68 [.o 2,.p,.e [2,4,5,9,12,38,39],.o 1] rfl rfl rfl ?_
 refine RW.callP (k := 12) (__impl_scan__short_fn (shS s) (hP.o2 hlt)) rfl rfl (Nat.le_of_ble_eq_true rfl) (by decide) rfl (DT.r (DT.r (DT.r DT.e))) (AsPs.here rfl (.nil)) fun g13 q14 => ?_
 refine RW.g XK 68 [.o 2,.p,.e [2,4,5,9,12,38,39],.o 1] rfl rfl rfl ?_
 refine RW.callP (k := 12) (__impl_scan__number_fn (shS (shS s)) (hP.o3 hlt)) rfl rfl (Nat.le_of_ble_eq_true rfl) (by decide) rfl (DT.r (DT.r (DT.r DT.e))) (AsPs.here rfl (.nil)) fun g15 q16 => ?_
 refine RW.g XK 68 [.o 2,.p,.e [2,4,5,9,12,38,39],.o 3] rfl rfl rfl ?_
 refine RW.build1 (c := Item.c) (v := (⟨(shV s), (shV (shS s)), (numV (shS (shS s)))⟩ : Item)) rfl rfl rfl rfl rfl rfl (DW.v (DW.v (DW.v DW.e))) Item.len (by decide) (by decide) fun X17 => ?_
 refine RW.takeO 52 5 1 (by decide) rfl rfl rfl ?_
 refine RW.appendSR (c := Item.c) (l1 := es) (l2 := [(⟨(shV s), (shV (shS s)), (numV (shS (shS s)))⟩ : Item)]) rfl rfl rfl rfl rfl rfl rfl rfl (.al (k := none) (i := 54) (sz := 3) (V := X17) rfl rfl nofun) (by decide) (Nat.le_of_ble_eq_true rfl) Item.len (fun _ => rfl) rfl (by have h9 := hP.em hlt; simp only [h9, maxLen, List.length_singleton, List.length_nil]; omega) (by have h9 := hP.em hlt; simp only [h9, maxLen, List.length_singleton, List.length_nil]; omega) fun X18 => ?_
 refine RW.g XK 68 [.o 2,.e [2,4,5,12,38,39,55]] rfl rfl rfl ?_
 refine RW.pullT (k := 5) (l := 55) (j := 1) 5 55 1 rfl rfl rfl (by decide) rfl rfl rfl ?_
 refine RW.g XK 68 [.e [2,4,5,12,38,39],.p,.e [2,4,5,12,38,39],.p] rfl rfl rfl ?_
 refine RW.v rfl (V.inc rfl rfl rfl (show j < 1 by omega) (by simp only [maxLen]; omega)) ?_
 refine RW.g XK 68 [.o 1,.p] rfl rfl rfl ?_
 exact ⟨(j + 1, _, _, _), by have h9 := hlt; simp only []; omega, (hP.step hlt), rfl, Le.c rfl <| Le.c rfl <| Le.c rfl <| Le.c rfl <| Le.c rfl <| Le.c rfl <| Le.e⟩
 have hge : j = 1 := hP.ge h9
 refine CW.exit ?_
 refine CW.g XK 68 [.e [2,4,5,12],.p] rfl rfl rfl ?_
 refine CW.seqJ 68 (fun (v19 : Bool) => [(2, .obj b1 [.r (.v (.slice none 0 0)), .r (.v (.slice none 0 0))]), (5, .obj b3 [.r (.v (.slice none 0 0)), .w (sl 3 Item.c es) X]), (65, Bo v19)]) (fun v19 => v19 = ((!(doneB s)) || (!(keepOk (⟨[], es⟩ : Keep))))) ?_ ?_
 refine CW.g XK 68 [.o 1] rfl rfl rfl ?_
 refine RW.callOwn rfl (__impl_scan__done_fn s) rfl (.cons (.one (.r (.pt rfl rfl (DRd.r (DRd.r (DRd.r DRd.e))) nofun))) (.nil)) rfl fun g20 => ?_
 refine RW.g XK 68 [.o 2] rfl rfl rfl ?_
 refine RW.gv rfl rfl rfl rfl (fun h21 => V.loadAgg rfl rfl rfl rfl rfl (Nat.le_of_ble_eq_true rfl)) (fun h21 => ?_) (fun h21 => ?_)
 refine RW.gcallOwn rfl rfl rfl rfl (impl_KeepOk_fn (⟨[], es⟩ : Keep) (by rw [hP.es hge]; exact keepNew_to)) rfl (.cons (.agg (.cons (.r .nil) (.cons (.r (.alo (k := none) (i := 5) (j := 1) (sz := 3) (V := X) rfl rfl rfl nofun)) (.nil)))) (.nil)) rfl fun g22 => ?_
 refine RW.g XK 68 [.o 2,.p] rfl rfl rfl ?_
 exact ⟨_, by first | rfl | (simp_all; done) | (simp_all; omega) | grind, rfl, Le.of rfl⟩
 refine RW.g XK 68 [.o 3,.p] rfl rfl rfl ?_
 exact ⟨_, by first | rfl | (simp_all; done) | (simp_all; omega) | grind, rfl, Le.of rfl⟩
 intro v19 hv23
 refine CW.cond rfl (fun h24 => ?_) (fun h24 => ?_)
 have hvv := hv23.symm.trans h24
 exact absurd hvv (by rw [hP.es hge, hP.dn hge]; exact kr_v)
 have hvv := hv23.symm.trans h24
 refine CW.g XK 68 [.p,.e [2,5],.o 2,.e [2,5]] rfl rfl rfl ?_
 refine RW.pullO (k := 2) (l := 5) (j := 1) 2 5 1 rfl rfl rfl (by decide) rfl rfl rfl rfl ?_
 refine RW.g XK 68 [.e [2],.o 1,.p,.e [2,3]] rfl rfl rfl ?_
 refine CW.freeze 2 (d' := .obj b1 [.r (.v (.slice none 0 0)), .r (sl 3 Item.c es)]) rfl rfl ?_
 refine CW.ret ?_
 exact Post.tup (by decide) (RVs.c (RV.c (f := fun e => (Keep.c e).map .r) (e' := (⟨[], es⟩ : Keep)) rfl rfl rfl rfl (DT.nr (DT.r DT.e)) (by rw [hP.es hge]; rfl)) (RVs.c (RV.b rfl (by rfl)) RVs.e)) (AOs.r AOs.e)
set_option maxHeartbeats 4000000 in
theorem impl_AllKept_fn (d : Disk) (hok : okToDisk d) : Eng.Fn E.P 33 [.agg ((Disk.c d).map .r)] (.one (.one (.w (.v (.bool (allK d)))))) [.agg ((Disk.c d).map .r)] := by
 refine Eng.Fn.intro (E := E) (rvs := [.tmp 2]) Tryz.func33 rfl rfl rfl (by simp [outSlots, moved, rvSlot, sl]) ?_
 intro B g bo
 refine CW.g XK 21 [.e [0]] rfl rfl rfl ?_
 have hl1 : d.files.length ≤ maxLen := by have := hok.1; simp only [maxLen]; omega
 refine CW.h XK 21 [.o 1] rfl ?_;(conv=>whnf);intro b1;(conv=>whnf);refine ⟨rfl,?_⟩
 refine RW.freezeB (ts := (Disk.c d)) 1 rfl (DRd.r DRd.e) ?_
 refine RW.g XK 21 [.o 1,.p,.e [1],.n 1,.e [1,6,7,8],.p] rfl rfl rfl ?_
 refine CW.loopI 21 (fun (i : Nat) => [(1, .rp (Disk.c d)), (6, .r (sl 3 File.c d.files)), (7, I (d.files.length : Int)), (8, I (i : Int))]) (fun (i : Nat) => i ≤ d.files.length ∧ ((d.files.drop i).all kpF && diskOk d) = allK d) (fun (i : Nat) => d.files.length - i) 0 rfl (Le.c rfl <| Le.c rfl <| Le.c rfl <| Le.c rfl <| Le.e) ⟨by omega, rfl⟩ ?_
 rintro i ⟨hb, hr⟩
 refine CW.g XK 21 [.n 1,.e [1,6,7,8,9],.p] rfl rfl rfl ?_
 refine CW.cond rfl (fun h2 => ?_) (fun h2 => ?_)
 have hii : i < d.files.length := by have := h2; simp at this; first | exact this | omega | (simp; done) | (simp; omega)
 obtain ⟨ei, hei⟩ : ∃ e, d.files[i]? = some e := ⟨_, List.getElem?_eq_getElem hii⟩
 have hdi := drop_get hei
 refine CW.g XK 21 [.p,.e [1,6,7,8],.p,.p,.p,.p] rfl rfl rfl ?_
 refine RW.v rfl (V.indexS rfl rfl rfl rfl rfl rfl File.len hei) ?_
 refine RW.h XK 21 [.o 3] rfl ?_;(conv=>whnf);intro b3;(conv=>whnf);refine ⟨rfl,?_⟩
 refine RW.freezeB (ts := (File.c ei)) 4 rfl (DRd.r (DRd.r (DRd.r DRd.e))) ?_
 refine RW.g XK 21 [.p,.e [1,4,6,7,8],.n 1,.e [1,6,7,8,17]] rfl rfl rfl ?_
 refine CW.cond rfl (fun h4 => ?_) (fun h4 => ?_)
 have hkp : kpF ei = false := by simpa [kpF] using h4
 refine CW.g XK 21 [.n 1,.e [2]] rfl rfl rfl ?_
 refine CW.ret ?_
 exact Post.one (RV.b rfl (by rw [← hr, hdi, List.all_cons, hkp, Bool.false_and, Bool.false_and])) (AOs.a rfl AOs.e)
 have hkp : kpF ei = true := by simpa [kpF] using h4
 refine CW.g XK 21 [.p,.e [1,6,7,8],.p] rfl rfl rfl ?_
 refine RW.v rfl (V.inc rfl rfl rfl hii hl1) ?_
 refine RW.g XK 21 [.o 1,.p] rfl rfl rfl ?_
 exact ⟨i + 1, by omega, ⟨by omega, by rw [← hr, hdi, List.all_cons, hkp, Bool.true_and]⟩, rfl, Le.c rfl <| Le.c rfl <| Le.c rfl <| Le.c rfl <| Le.e⟩
 have hii : d.files.length ≤ i := by have := h2; simp at this; first | exact this | omega | (simp; done) | (simp; omega)
 have hdi : d.files.drop i = [] := List.drop_eq_nil_of_le hii
 refine CW.exit ?_
 refine CW.g XK 21 [.e [1],.o 1] rfl rfl rfl ?_
 refine RW.call rfl (impl_DiskOk_fn d hok) rfl (.cons (.agg (.cons (.r .r) (.nil))) (.nil)) fun g5 => ?_
 refine RW.g XK 21 [.o 1,.p,.e [2]] rfl rfl rfl ?_
 refine CW.ret ?_
 exact Post.one (RV.b rfl (by rw [← hr, List.drop_of_length_le (by omega)]; rfl)) (AOs.a rfl AOs.e)
set_option maxHeartbeats 4000000 in
theorem impl_placeOf_1_fn (f : File) (c : ByteArray) : Eng.Fn E.P 229 [.agg ((File.c f).map .r), .one (.r (.f none [.v (.string c)]))] (.one (.one (.w (.v (.bool (f.name.toList == c.toList)))))) [.agg ((File.c f).map .r), .one (.r (.f none [.v (.string c)]))] := by
 refine Eng.Fn.intro (E := E) (rvs := [.tmp 3]) Tryz.func229 rfl rfl rfl (by simp [outSlots, moved, rvSlot, sl]) ?_
 intro B g bo
 refine CW.asRp 1 rfl ?_
 refine CW.h XK 8 [.e [0,1],.o 1] rfl ?_;(conv=>whnf);intro b1;(conv=>whnf);refine ⟨rfl,?_⟩
 refine RW.freezeB (ts := (File.c f)) 2 rfl (DRd.r (DRd.r (DRd.r DRd.e))) ?_
 refine RW.g XK 8 [.o 1,.p,.e [1,2],.n 1,.e [3]] rfl rfl rfl ?_
 refine CW.ret ?_
 exact Post.one (RV.b rfl (by rfl)) (AOs.a rfl (AOs.r AOs.e))
set_option maxHeartbeats 4000000 in
theorem impl_File__fn (a : List File) (f_id : Nat) (f_ts : List T) (f_p : File → Bool) (f_h : ∀ x, Eng.Fn E.P f_id [.agg ((File.c x).map .r), .one (.r (.f none f_ts))] (wB (f_p x)) [.agg ((File.c x).map .r), .one (.r (.f none f_ts))]) : Eng.Fn E.P 228 [.one (.r (sl 3 File.c a)), .one (.r (.f (some f_id) f_ts))] (.one (.one (.w (.v (.int .i64 (idxF f_p a)))))) [.one (.r (sl 3 File.c a)), .one (.r (.f (some f_id) f_ts))] := by
 refine Eng.Fn.intro (E := E) (rvs := [.tmp 4]) Tryz.func228 rfl rfl rfl (by simp [outSlots, moved, rvSlot, sl]) ?_
 intro B g bo
 refine CW.bound (x := .tmp 0) (n := a.length) (AsT.r) (fun hl0 => ?_)
 refine CW.g XK 19 [.e [0,1],.n 1,.e [0,1],.n 1,.e [0,1,7,8],.p] rfl rfl rfl ?_
 refine CW.loopI 19 (fun (i : Nat) => [(0, .r (sl 3 File.c a)), (1, .r (.f (some f_id) f_ts)), (7, I (a.length : Int)), (8, I (i : Int))]) (fun (i : Nat) => i ≤ a.length ∧ (a.take i).any f_p = false) (fun (i : Nat) => a.length - i) 0 rfl (Le.c rfl <| Le.c rfl <| Le.c rfl <| Le.c rfl <| Le.e) ⟨by omega, by simp⟩ ?_
 rintro i ⟨hb, hr⟩
 refine CW.g XK 19 [.n 1,.e [0,1,7,8,9],.p] rfl rfl rfl ?_
 refine CW.cond rfl (fun h1 => ?_) (fun h1 => ?_)
 have hii : i < a.length := by have := h1; simp at this; first | exact this | omega | (simp; done) | (simp; omega)
 obtain ⟨ei, hei⟩ : ∃ e, a[i]? = some e := ⟨_, List.getElem?_eq_getElem hii⟩
 have hdi := drop_get hei
 refine CW.g XK 19 [.p,.e [0,1,7,8],.n 1,.e [0,1,5,7,8],.o 3] rfl rfl rfl ?_
 refine RW.v rfl (V.indexS rfl rfl rfl rfl rfl rfl File.len hei) ?_
 refine RW.g XK 19 [.o 1] rfl rfl rfl ?_
 refine RW.callF (ars := [.agg ((File.c ei).map .r)]) rfl (f_h ei) rfl rfl (.cons (.agg (.cons (.r .r) (.cons (.r .r) (.cons (.r .r) (.nil))))) .nil) ?_
 refine RW.g XK 19 [.p,.e [0,1,5,7,8,16]] rfl rfl rfl ?_
 refine CW.cond rfl (fun h2 => ?_) (fun h2 => ?_)
 refine CW.g XK 19 [.n 1,.e [4]] rfl rfl rfl ?_
 refine CW.ret ?_
 exact Post.one (RV.i rfl (by exact idxF_at hr hei h2)) (AOs.r (AOs.r AOs.e))
 refine CW.g XK 19 [.p,.e [0,1,7,8],.p] rfl rfl rfl ?_
 refine RW.v rfl (V.inc rfl rfl rfl hii hl0) ?_
 refine RW.g XK 19 [.o 1,.p] rfl rfl rfl ?_
 exact ⟨i + 1, by omega, ⟨by omega, any_snoc hr hei h2⟩, rfl, Le.c rfl <| Le.c rfl <| Le.c rfl <| Le.c rfl <| Le.e⟩
 have hii : a.length ≤ i := by have := h1; simp at this; first | exact this | omega | (simp; done) | (simp; omega)
 have hdi : a.drop i = [] := List.drop_eq_nil_of_le hii
 refine CW.exit ?_
 refine CW.g XK 19 [.e [],.n 1,.e [4]] rfl rfl rfl ?_
 refine CW.ret ?_
 exact Post.one (RV.i rfl (by exact idxF_no hr hii)) (AOs.r (AOs.r AOs.e))
set_option maxHeartbeats 4000000 in
theorem impl_placeOf_fn (d : Disk) (n : ByteArray) : Eng.Fn E.P 169 [.agg ((Disk.c d).map .r), .one (.r (.v (.string n)))] (.one (.one (.w (.v (.int .i64 (idxF (fun f => f.name.toList == n.toList) d.files)))))) [.agg ((Disk.c d).map .r), .one (.r (.v (.string n)))] := by
 refine Eng.Fn.intro (E := E) (rvs := [.tmp 4]) Tryz.func169 rfl rfl rfl (by simp [outSlots, moved, rvSlot, sl]) ?_
 intro B g bo
 refine CW.h XK 9 [.e [0,1],.o 1] rfl ?_;(conv=>whnf);intro b1;(conv=>whnf);refine ⟨rfl,?_⟩
 refine RW.freezeB (ts := (Disk.c d)) 2 rfl (DRd.r DRd.e) ?_
 refine RW.h XK 9 [.o 2,.p,.e [2,3],.o 2] rfl ?_;(conv=>whnf);intro b2;(conv=>whnf);refine ⟨rfl,?_⟩
 refine RW.freezeB (ts := [.v (.string n)]) 3 rfl (DRd.r DRd.e) ?_
 refine RW.v rfl (V.mkFunc rfl rfl) ?_
 refine RW.call rfl (impl_File__fn d.files 229 ([.v (.string n)]) (fun f => f.name.toList == n.toList) (fun f => impl_placeOf_1_fn f n)) rfl (.cons (.one (.r .r)) (.cons (.one (.r .r)) (.nil))) fun g3 => ?_
 refine RW.g XK 9 [.o 1,.p,.e [4]] rfl rfl rfl ?_
 refine CW.ret ?_
 exact Post.one (RV.i rfl (by rfl)) (AOs.a rfl (AOs.r AOs.e))
set_option maxHeartbeats 4000000 in
theorem impl_FileAt_fn (d : Disk) (n : ByteArray) (hfd : FdP d) (hn : n = jN) : Eng.Fn E.P 98 [.agg ((Disk.c d).map .r), .one (.r (.v (.string n)))] (.tup [.one (.w (.v (.string jT))), .one (.w (.v (.bool true)))]) [.agg ((Disk.c d).map .r), .one (.r (.v (.string n)))] := by
 refine Eng.Fn.intro (E := E) (rvs := [.tmp 4, .tmp 5]) Tryz.func98 rfl rfl rfl (by simp [outSlots, moved, rvSlot, sl]) ?_
 intro B g bo
 refine CW.g XK 18 [.e [0,1]] rfl rfl rfl ?_
 have hix := hfd.ixj hn
 refine CW.h XK 18 [.o 1] rfl ?_;(conv=>whnf);intro b1;(conv=>whnf);refine ⟨rfl,?_⟩
 refine RW.freezeB (ts := (Disk.c d)) 2 rfl (DRd.r DRd.e) ?_
 refine RW.g XK 18 [.o 2,.p,.e [1,2],.o 2] rfl rfl rfl ?_
 refine RW.call rfl (impl_placeOf_fn d n) rfl (.cons (.agg (.cons (.r .r) (.nil))) (.cons (.one (.r .r)) (.nil))) fun g2 => ?_
 refine RW.g XK 18 [.o 1,.p,.e [2,6],.n 1,.e [2,6,11]] rfl rfl rfl ?_
 refine CW.cond rfl (fun h3 => ?_) (fun h3 => ?_)
 exact absurd (of_decide_eq_true h3) (by rw [hix]; decide)
 refine CW.g XK 18 [.p,.e [2,6],.o 3] rfl rfl rfl ?_
 refine RW.v rfl (V.indexZ (m := 0) (v := (⟨jN, jT, jT.size⟩ : File)) rfl rfl rfl rfl rfl rfl hix File.len hfd.f0) ?_
 refine RW.g XK 18 [.o 4,.p,.e [4,5]] rfl rfl rfl ?_
 refine CW.ret ?_
 exact Post.tup (by decide) (RVs.c (RV.s rfl (by rfl)) (RVs.c (RV.b rfl (by rfl)) RVs.e)) (AOs.a rfl (AOs.r AOs.e))
set_option maxHeartbeats 4000000 in
theorem impl_Unframe_fn (t : ByteArray) (ht : t = jL) : Eng.Fn E.P 170 [.one (.r (.v (.string t)))] (.tup [.one (.r (sl 1 cS uR)), .one (.w (.v (.int .i64 16)))]) [.one (.r (.v (.string t)))] := by
 refine Eng.Fn.intro (E := E) (rvs := [.tmp 2, .tmp 3]) Tryz.func170 rfl rfl rfl (by simp [outSlots, moved, rvSlot, sl]) ?_
 intro B g bo
 refine CW.g XK 63 [.e [0]] rfl rfl rfl ?_
 have hts : t.size = 16 := by rw [ht]; rfl
 refine CW.g XK 63 [.n 1,.e [0],.p,.p] rfl rfl rfl ?_
 refine RW.build0 cS rfl rfl rfl rfl rfl fun X1 => ?_
 refine RW.assignMove rfl rfl rfl (by decide) (Nat.le_of_ble_eq_true rfl) (Nat.le_of_ble_eq_true rfl) ?_
 refine RW.g XK 63 [.p,.e [0,4],.n 1,.e [0,4,5],.p,.p] rfl rfl rfl ?_
 refine CW.loopI 63 (fun (zz : Nat × Value) => match zz with | (k, X) => [(0, S t), (4, .w (sl 1 cS (uR.take k)) X), (5, I (uA k))]) (fun (zz : Nat × Value) => match zz with | (k, X) => k ≤ 2) (fun (zz : Nat × Value) => match zz with | (k, X) => 2 - k) (0, _) rfl (Le.c rfl <| Le.c rfl <| Le.c rfl <| Le.e) (by omega) ?_
 rintro ⟨k, X⟩ hk
 refine CW.g XK 63 [.n 1,.e [0,4,5,13]] rfl rfl rfl ?_
 refine CW.cond rfl (fun h2 => ?_) (fun h2 => ?_)
 refine CW.g XK 63 [.p,.e [0,4,5],.o 2] rfl rfl rfl ?_
 refine RW.call rfl (impl_ReadVar_fn t (uA k) (by omega)) rfl (.cons (.one (.r .r)) (.cons (.one (.r .r)) (.nil))) fun g3 => ?_
 refine RW.g XK 63 [.o 7,.p,.e [0,4,5,6,7,8],.p] rfl rfl rfl ?_
 refine CW.seqJ 63 (fun (v4 : Bool) => [(0, S t), (4, .w (sl 1 cS (uR.take k)) X), (5, I (uA k)), (6, I ((rdVar t (uA k)).1)), (7, I ((rdVar t (uA k)).2.1)), (36, Bo v4)]) (fun v4 => v4 = (((!((rdVar t (uA k)).2.2)) || (!(inR ((rdVar t (uA k)).1) 1 9000))) || decide ((IntKind.i64.wrap (((rdVar t (uA k)).1) + 4)) > (IntKind.i64.wrap ((t.size : Int) - ((rdVar t (uA k)).2.1)))))) ?_ ?_
 refine CW.g XK 63 [.o 3] rfl rfl rfl ?_
 refine RW.gv rfl rfl rfl rfl (fun h5 => V.mv (d := I ((rdVar t (uA k)).1)) rfl rfl) (fun h5 => ?_) (fun h5 => ?_)
 refine RW.gcall rfl rfl rfl rfl (impl_within_fn ((rdVar t (uA k)).1) 1 9000) rfl (.cons (.one (.r .r)) (.cons (.one (.r .r)) (.cons (.one (.r .r)) (.nil)))) fun g6 => ?_
 refine RW.g XK 63 [.o 3] rfl rfl rfl ?_
 refine RW.gv rfl rfl rfl rfl (fun h7 => V.mv (d := I ((rdVar t (uA k)).1)) rfl rfl) (fun h7 => ?_) (fun h7 => ?_)
 refine RW.g XK 63 [.o 7,.p] rfl rfl rfl ?_
 exact ⟨_, by first | rfl | (simp_all; done) | (simp_all; omega) | grind, rfl, Le.of rfl⟩
 refine RW.g XK 63 [.o 7,.p] rfl rfl rfl ?_
 exact ⟨_, by first | rfl | (simp_all; done) | (simp_all; omega) | grind, rfl, Le.of rfl⟩
 refine RW.g XK 63 [.o 12,.p] rfl rfl rfl ?_
 exact ⟨_, by first | rfl | (simp_all; done) | (simp_all; omega) | grind, rfl, Le.of rfl⟩
 intro v4 hv8
 refine CW.cond rfl (fun h9 => ?_) (fun h9 => ?_)
 have hvv := hv8.symm.trans h9
 refine CW.exit ?_
 refine CW.g XK 63 [.e [4,5],.o 3] rfl rfl rfl ?_
 refine RW.pullS 2 4 (by decide) rfl rfl ?_
 refine RW.g XK 63 [.o 1,.p,.e [2,3]] rfl rfl rfl ?_
 refine CW.freeze 2 (d' := .r (sl 1 cS (uR.take k))) rfl rfl ?_
 refine CW.ret ?_
 exact Post.tup (by decide) (RVs.c (RV.r rfl (by have h9 := uf_end ht hk hvv; subst h9; rfl)) (RVs.c (RV.i rfl (by have h9 := uf_end ht hk hvv; subst h9; rfl)) RVs.e)) (AOs.r AOs.e)
 have hvv := hv8.symm.trans h9
 refine CW.g XK 63 [.p,.e [0,4,5,6,7],.o 7] rfl rfl rfl ?_
 refine RW.v rfl (V.strSlice (l := (IntKind.i64.wrap (((rdVar t (uA k)).2.1) + 4))) (h := (IntKind.i64.wrap ((IntKind.i64.wrap (((rdVar t (uA k)).2.1) + 4)) + ((rdVar t (uA k)).1)))) rfl (by kernel_rfl) rfl (.inr ⟨_, _, rfl, rfl⟩) (.inr ⟨_, _, rfl, rfl⟩) (uf_s1 ht (uf_lt ht hk hvv))) ?_
 refine RW.g XK 63 [.o 1,.p,.e [0,4,5,6,7,9],.p] rfl rfl rfl ?_
 refine CW.anyJ2 (fc := []) (L0 := [(0, S t), (4, .w (sl 1 cS (uR.take k)) X), (5, I (uA k)), (6, I ((rdVar t (uA k)).1)), (7, I ((rdVar t (uA k)).2.1)), (9, S (t.extract (IntKind.i64.wrap (((rdVar t (uA k)).2.1) + 4)).toNat (IntKind.i64.wrap ((IntKind.i64.wrap (((rdVar t (uA k)).2.1) + 4)) + ((rdVar t (uA k)).1))).toNat))]) 63 (fun (go10_1_1 : (Nat → Nat → Value)) => [(52, Bo (!((sumT (t.extract (IntKind.i64.wrap (((rdVar t (uA k)).2.1) + 4)).toNat (IntKind.i64.wrap ((IntKind.i64.wrap (((rdVar t (uA k)).2.1) + 4)) + ((rdVar t (uA k)).1))).toNat)).toList == (t.extract ((rdVar t (uA k)).2.1).toNat (IntKind.i64.wrap (((rdVar t (uA k)).2.1) + 4)).toNat).toList)))]) (fun all hall f hf b0 hb K hK => ?_) ?_
 have ro10_1 : ∀ B, ∀ (go10_1_1 : Nat → Nat → Value), RA f E B all 0 (bt 8 255) ⟨63, [(52, Bo (!((sumT (t.extract (IntKind.i64.wrap (((rdVar t (uA k)).2.1) + 4)).toNat (IntKind.i64.wrap ((IntKind.i64.wrap (((rdVar t (uA k)).2.1) + 4)) + ((rdVar t (uA k)).1))).toNat)).toList == (t.extract ((rdVar t (uA k)).2.1).toNat (IntKind.i64.wrap (((rdVar t (uA k)).2.1) + 4)).toNat).toList)))] ++ b0⟩ K := by
  intro B go10_1_1
  exact RA.of2 hall hf hb (RA.finH (Tell.of rfl) (by kernel_rfl) (hK go10_1_1 _ rfl (Le.of rfl)))
 have ro10_0 : ∀ B, RA f E B all 2 (bt 8 125) ⟨63, [(45, S (t.extract (IntKind.i64.wrap (((rdVar t (uA k)).2.1) + 4)).toNat (IntKind.i64.wrap ((IntKind.i64.wrap (((rdVar t (uA k)).2.1) + 4)) + ((rdVar t (uA k)).1))).toNat)), (51, S (t.extract ((rdVar t (uA k)).2.1).toNat (IntKind.i64.wrap (((rdVar t (uA k)).2.1) + 4)).toNat))] ++ b0⟩ K := by
  intro B
  refine RA.of2 hall hf hb (RA.stepH (L := [1]) (Tell.of rfl) (by kernel_rfl) (by simp) (RA.each ?_ (RA.each0)))
  refine RO.call rfl rfl (impl_sumText_fn (t.extract (IntKind.i64.wrap (((rdVar t (uA k)).2.1) + 4)).toNat (IntKind.i64.wrap ((IntKind.i64.wrap (((rdVar t (uA k)).2.1) + 4)) + ((rdVar t (uA k)).1))).toNat) (by rw [ByteArray.size_extract]; simp only [maxLen]; omega)) rfl (.cons (.one (.r .r)) (.nil)) rfl fun go10_1_1 => ?_
  refine RA.fr XK 63 0 [7] (bt 8 255) rfl rfl (by kernel_rfl) (Tell.of rfl) ?_
  (conv=>whnf);refine ⟨rfl,fun B=>?_⟩
  exact RA.to2 hall hf hb (ro10_1 B go10_1_1) rfl rfl (by kernel_rfl)
 refine RA.start (by kernel_rfl) (by kernel_rfl) (m := 8) (ls' := (bt 8 0)) ?_
 refine RA.fr XK 63 3 [0,2,3,4,5] (bt 8 61) rfl rfl (by kernel_rfl) (Tell.of rfl) ?_
 (conv=>whnf);refine ⟨rfl,fun B=>?_⟩
 refine RA.first (i := 6) (ls' := (bt 8 125)) (Tell.of rfl) (by kernel_rfl) rfl rfl rfl (VF.p (V.strSlice (l := ((rdVar t (uA k)).2.1)) (h := (IntKind.i64.wrap (((rdVar t (uA k)).2.1) + 4))) rfl (by kernel_rfl) rfl (.inr ⟨_, _, rfl, rfl⟩) (.inr ⟨_, _, rfl, rfl⟩) (uf_s2 ht (uf_lt ht hk hvv)))) ?_
 exact RA.to2 hall hf hb (ro10_0 B) rfl rfl (by kernel_rfl)
 rintro go10_1_1
 refine CW.cond rfl (fun h11 => ?_) (fun h11 => ?_)
 have hsm := h11
 exact absurd hsm (uf_sum ht (uf_lt ht hk hvv))
 refine CW.g XK 63 [.p,.e [0,4,6,7,9],.o 2] rfl rfl rfl ?_
 refine RW.build1c (c := cS) (v := (t.extract (IntKind.i64.wrap (((rdVar t (uA k)).2.1) + 4)).toNat (IntKind.i64.wrap ((IntKind.i64.wrap (((rdVar t (uA k)).2.1) + 4)) + ((rdVar t (uA k)).1))).toNat)) (u := .v (.string (t.extract (IntKind.i64.wrap (((rdVar t (uA k)).2.1) + 4)).toNat (IntKind.i64.wrap ((IntKind.i64.wrap (((rdVar t (uA k)).2.1) + 4)) + ((rdVar t (uA k)).1))).toNat))) rfl rfl rfl rfl rfl rfl (.inl rfl) rfl rfl fun X12 => ?_
 refine RW.appendSR (c := cS) (l1 := (uR.take k)) (l2 := [(t.extract (IntKind.i64.wrap (((rdVar t (uA k)).2.1) + 4)).toNat (IntKind.i64.wrap ((IntKind.i64.wrap (((rdVar t (uA k)).2.1) + 4)) + ((rdVar t (uA k)).1))).toNat)]) rfl rfl rfl rfl rfl rfl rfl rfl (.al (k := none) (i := 55) (sz := 1) (V := X12) rfl rfl nofun) (by decide) (Nat.le_of_ble_eq_true rfl) cS.len (fun _ => rfl) rfl (by rw [List.length_take]; simp only [maxLen, List.length_singleton]; omega) (by rw [List.length_take]; simp only [maxLen, List.length_singleton]; omega) fun X13 => ?_
 refine RW.assignMove rfl rfl rfl (by decide) (Nat.le_of_ble_eq_true rfl) (Nat.le_of_ble_eq_true rfl) ?_
 refine RW.g XK 63 [.p,.e [0,4,6,7],.o 5,.p] rfl rfl rfl ?_
 exact ⟨(k + 1, _), by have h9 := uf_lt ht hk hvv; simp only []; omega, (by have h9 := uf_lt ht hk hvv; omega), rfl, Le.c rfl <| Le.c (Dw_congr (uf_rec ht (uf_lt ht hk hvv))) <| Le.c (congrArg I (uf_at ht (uf_lt ht hk hvv))) <| Le.e⟩
 exact absurd (of_decide_eq_false h2) (by omega)
set_option maxHeartbeats 4000000 in
theorem __impl_scan__one_fn (s : scan) (hs : s.ok) : Eng.Fn E.P 182 [.ob ((scan.c s).map .r)] (.one (.one (.w (.v (.int .i64 (oneV s)))))) [.ob ((scan.c (oneS s)).map .r)] := by
 refine Eng.Fn.intro (E := E) (rvs := [.tmp 2]) Tryz.func182 rfl rfl rfl (by simp [outSlots, moved, rvSlot, sl]) ?_
 intro B g bo
 refine CW.g XK 40 [.e [0],.n 1,.e [0],.p] rfl rfl rfl ?_
 refine CW.seqJ 40 (fun (v1 : Bool) => [(0, .obj (bo 0) ((scan.c s).map .r)), (18, Bo v1)]) (fun v1 => v1 = (s.bad || decide (s.at_ ≥ (s.text.size : Int)))) ?_ ?_
 refine CW.drawn (by kernel_rfl) ?_
 refine RQ.k XK 40 5 rfl ?_
 (conv=>whnf);refine ⟨rfl,?_⟩
 refine RQ.gv rfl rfl rfl rfl (fun h2 => V.mv (d := .pt 0 (bo 0) 0) rfl rfl) (fun h2 => ?_) (fun h2 => ?_)
 refine RQ.k XK 40 10 rfl ?_
 (conv=>whnf);refine ⟨rfl,?_⟩
 refine RQ.nil ?_
 exact ⟨_, by first | rfl | (simp_all; done) | (simp_all; omega) | grind, rfl, Le.of rfl⟩
 refine RQ.k XK 40 10 rfl ?_
 (conv=>whnf);refine ⟨rfl,?_⟩
 refine RQ.nil ?_
 exact ⟨_, by first | rfl | (simp_all; done) | (simp_all; omega) | grind, rfl, Le.of rfl⟩
 intro v1 hv3
 refine CW.cond rfl (fun h4 => ?_) (fun h4 => ?_)
 have hvv := hv3.symm.trans h4
 refine CW.g XK 40 [.n 2,.e [0,2]] rfl rfl rfl ?_
 refine CW.ret ?_
 exact Post.one (RV.i rfl (by simp only [oneV]; rw [scOne, if_pos hvv])) (AOs.obE (f := fun e => (scan.c e).map .r) (e' := (⟨s.text, s.at_, true⟩ : scan)) rfl (DT.r (DT.r (DT.r DT.e))) (by simp only [oneS]; rw [scOne, if_pos hvv]) AOs.e)
 have hvv := hv3.symm.trans h4
 refine CW.g XK 40 [.p,.e [0],.n 1,.e [0],.p] rfl rfl rfl ?_
 refine CW.drawn (by kernel_rfl) ?_
 refine RQ.k XK 40 9 rfl ?_
 (conv=>whnf);refine ⟨rfl,?_⟩
 refine RQ.v rfl (V.idxStrZ (m := s.at_.toNat) rfl (by kernel_rfl) rfl rfl (one_ix hs) (one_lt hs hvv)) ?_
 refine RQ.k XK 40 2 rfl ?_
 (conv=>whnf);refine ⟨rfl,?_⟩
 refine RQ.nil ?_
 refine CW.g XK 40 [.e [0,2]] rfl rfl rfl ?_
 refine CW.ret ?_
 exact Post.one (RV.i rfl (by simp only [oneV]; rw [scOne, if_neg (by rw [hvv]; simp)])) (AOs.obE (f := fun e => (scan.c e).map .r) (e' := (⟨s.text, (IntKind.i64.wrap (s.at_ + 1)), s.bad⟩ : scan)) rfl (DT.r (DT.r (DT.r DT.e))) (by exact oneS_go hs hvv) AOs.e)
set_option maxHeartbeats 4000000 in
theorem impl_twoNumbers_fn (t : ByteArray) (sg : Int) (h : RzP t sg) : Eng.Fn E.P 171 [.one (.r (.v (.string t))), .one (.r (.v (.int .i64 sg)))] (.tup [.one (.w (.v (.int .i64 0))), .one (.w (.v (.int .i64 0))), .one (.w (.v (.bool true)))]) [.one (.r (.v (.string t))), .one (.r (.v (.int .i64 sg)))] := by
 refine Eng.Fn.intro (E := E) (rvs := [.tmp 4, .tmp 5, .tmp 6]) Tryz.func171 rfl rfl rfl (by simp [outSlots, moved, rvSlot, sl]) ?_
 intro B g bo
 refine CW.h XK 29 [.e [0,1],.n 2,.e [1,7,13],.o 1] rfl ?_;(conv=>whnf);intro b1;(conv=>whnf);refine ⟨rfl,?_⟩
 refine RW.callP (k := 13) (__impl_scan__one_fn (⟨t, 0, false⟩ : scan) h.o0) rfl rfl (Nat.le_of_ble_eq_true rfl) (by decide) rfl (DT.r (DT.r (DT.r DT.e))) (AsPs.here rfl (.nil)) fun g2 q3 => ?_
 refine RW.g XK 29 [.o 1,.p,.e [1,7,8,13],.o 1] rfl rfl rfl ?_
 refine RW.callP (k := 13) (__impl_scan__number_fn (oneS (⟨t, 0, false⟩ : scan)) h.o1) rfl rfl (Nat.le_of_ble_eq_true rfl) (by decide) rfl (DT.r (DT.r (DT.r DT.e))) (AsPs.here rfl (.nil)) fun g4 q5 => ?_
 refine RW.g XK 29 [.o 1,.p,.e [1,7,8,9,13],.o 1] rfl rfl rfl ?_
 refine RW.callP (k := 13) (__impl_scan__number_fn (numS (oneS (⟨t, 0, false⟩ : scan))) h.o2) rfl rfl (Nat.le_of_ble_eq_true rfl) (by decide) rfl (DT.r (DT.r (DT.r DT.e))) (AsPs.here rfl (.nil)) fun g6 q7 => ?_
 refine RW.g XK 29 [.o 1,.p,.e [1,7,8,9,10,13],.o 6] rfl rfl rfl ?_
 refine RW.gv rfl rfl rfl rfl (fun h8 => V.mv (d := .pt 13 b1 0) rfl rfl) (fun h8 => ?_) (fun h8 => ?_)
 refine RW.gcallOwn rfl rfl rfl rfl (__impl_scan__done_fn (numS (numS (oneS (⟨t, 0, false⟩ : scan))))) rfl (.cons (.one (.r (.pt rfl rfl (DRd.r (DRd.r (DRd.r DRd.e))) nofun))) (.nil)) rfl fun g9 => ?_
 refine RW.g XK 29 [.o 4,.p,.e [4,5,6]] rfl rfl rfl ?_
 refine CW.ret ?_
 exact Post.tup (by decide) (RVs.c (RV.i rfl (by exact h.all.2.1)) (RVs.c (RV.i rfl (by exact h.all.2.2.1)) (RVs.c (RV.b rfl (by first | exact h.all.2.2.2 | (exfalso; have h9 := h.all.1; simp_all; done))) RVs.e))) (AOs.r (AOs.r AOs.e))
 refine RW.g XK 29 [.o 5,.p,.e [4,5,6]] rfl rfl rfl ?_
 refine CW.ret ?_
 exact Post.tup (by decide) (RVs.c (RV.i rfl (by exact h.all.2.1)) (RVs.c (RV.i rfl (by exact h.all.2.2.1)) (RVs.c (RV.b rfl (by first | exact h.all.2.2.2 | (exfalso; have h9 := h.all.1; simp_all; done))) RVs.e))) (AOs.r (AOs.r AOs.e))
set_option maxHeartbeats 4000000 in
theorem impl_LogLast_fn (l : Log) (hok : okToLog l) : Eng.Fn E.P 106 [.agg ((Log.c l).map .r)] (.tup [.one (.w (.v (.int .i64 ((logLast l).1)))), .one (.w (.v (.int .i64 ((logLast l).2))))]) [.agg ((Log.c l).map .r)] := by
 refine Eng.Fn.intro (E := E) (rvs := [.tmp 2, .tmp 3]) Tryz.func106 rfl rfl rfl (by simp [outSlots, moved, rvSlot, sl]) ?_
 intro B g bo
 refine CW.g XK 25 [.e [0]] rfl rfl rfl ?_
 have hle : l.entries.length ≤ maxLen := by have := hok.1; simp only [maxLen]; omega
 refine CW.h XK 25 [.o 1] rfl ?_;(conv=>whnf);intro b1;(conv=>whnf);refine ⟨rfl,?_⟩
 refine RW.freezeB (ts := (Log.c l)) 1 rfl (DRd.r (DRd.r (DRd.r DRd.e))) ?_
 refine RW.g XK 25 [.o 2,.p,.e [1],.n 1,.e [1,4],.n 1,.e [1,4,9]] rfl rfl rfl ?_
 refine CW.cond rfl (fun h2 => ?_) (fun h2 => ?_)
 refine CW.g XK 25 [.p] rfl rfl rfl ?_
 refine CW.drawn (by kernel_rfl) ?_
 refine RQ.k XK 25 6 rfl ?_
 (conv=>whnf);refine ⟨rfl,?_⟩
 refine RQ.nil ?_
 refine CW.g XK 25 [.e [2,3]] rfl rfl rfl ?_
 refine CW.ret ?_
 exact Post.tup (by decide) (RVs.c (RV.i rfl (by simp_all [logLast])) (RVs.c (RV.i rfl (by simp_all [logLast])) RVs.e)) (AOs.a rfl AOs.e)
 have hpos : 0 < l.entries.length := List.length_pos_iff.2 (by simpa using h2)
 refine CW.g XK 25 [.p,.e [1,4],.p] rfl rfl rfl ?_
 refine CW.drawn (by kernel_rfl) ?_
 refine RQ.k XK 25 7 rfl ?_
 (conv=>whnf);refine ⟨rfl,?_⟩
 refine RQ.v rfl (V.dec (m := l.entries.length) rfl rfl rfl hpos hle) ?_
 refine RQ.v rfl (V.indexS rfl rfl rfl rfl rfl rfl Entry.len (getD_some (l := l.entries) (j := l.entries.length - 1) (z := Entry.z) (by omega))) ?_
 refine RQ.k XK 25 4 rfl ?_
 (conv=>whnf);refine ⟨rfl,?_⟩
 refine RQ.nil ?_
 refine CW.g XK 25 [.e [2,3]] rfl rfl rfl ?_
 refine CW.ret ?_
 exact Post.tup (by decide) (RVs.c (RV.i rfl (by simp_all [logLast])) (RVs.c (RV.i rfl (by simp_all [logLast])) RVs.e)) (AOs.a rfl AOs.e)
set_option maxHeartbeats 4000000 in
theorem impl_copyLog_fn (l : Log) (hok : okToLog l) : Eng.Fn E.P 39 [.agg ((Log.c l).map .r)] (.one (.agg ((Log.c l).map .w))) [.agg ((Log.c l).map .r)] := by
 refine Eng.Fn.intro (E := E) (rvs := [.cell 2 34]) Tryz.func39 rfl rfl rfl (by simp [outSlots, moved, rvSlot, sl]) ?_
 intro B g bo
 refine CW.h XK 12 [.e [0],.o 1] rfl ?_;(conv=>whnf);intro b1;(conv=>whnf);refine ⟨rfl,?_⟩
 refine RW.freezeB (ts := (Log.c l)) 1 rfl (DRd.r (DRd.r (DRd.r DRd.e))) ?_
 refine RW.h XK 12 [.o 1,.p,.e [1,2]] rfl ?_;(conv=>whnf);intro b2;(conv=>whnf);refine ⟨rfl,?_⟩
 refine CW.anyJ2 (fc := []) (L0 := []) 12 (fun (zz : Value × Value) => match zz with | (Xo3_4_1, Xo3_7_1) => [(2, .obj b2 [I l.start, I l.startTerm, .w (sl 3 Entry.c (([] : List Entry) ++ l.entries)) Xo3_7_1])]) (fun all hall f hf b0 hb K hK => ?_) ?_
 have ro3_3 : ∀ B, ∀ (Xo3_4_1 : Value), ∀ (Xo3_7_1 : Value), RA f E B all 0 (bt 10 1023) ⟨12, [(2, .obj b2 [I l.start, I l.startTerm, .w (sl 3 Entry.c (([] : List Entry) ++ l.entries)) Xo3_7_1])] ++ b0⟩ K := by
  intro B Xo3_4_1 Xo3_7_1
  exact RA.of2 hall hf hb (RA.finH (Tell.of rfl) (by kernel_rfl) (hK (Xo3_4_1, Xo3_7_1) _ rfl (Le.of rfl)))
 have ro3_2 : ∀ B, ∀ (Xo3_4_1 : Value), ∀ (Xo3_7_1 : Value), RA f E B all 1 (bt 10 511) ⟨12, [(2, .obj b2 [I 0, I 0, .r (.v (.slice none 0 0))]), (10, .w (sl 3 Entry.c (([] : List Entry) ++ l.entries)) Xo3_7_1), (11, .agg [I l.start, I l.startTerm, .al 10 none 3 ((([] : List Entry) ++ l.entries).length) Xo3_7_1 0])] ++ b0⟩ K := by
  intro B Xo3_4_1 Xo3_7_1
  refine RA.of2 hall hf hb (RA.stepH (L := [9]) (Tell.of rfl) (by kernel_rfl) (by simp) (RA.each ?_ (RA.each0)))
  refine RO.storeAgg (es := [I l.start, I l.startTerm, .al 10 none 3 ((([] : List Entry) ++ l.entries).length) Xo3_7_1 0]) rfl rfl rfl rfl rfl rfl rfl rfl rfl rfl (Nat.le_of_ble_eq_true rfl) rfl ?_
  refine RA.keep 12 [2,10] rfl ?_;(conv=>whnf);refine ⟨?_⟩
  refine RA.pullT (k := 2) (l := 10) (j := 2) 2 10 2 rfl rfl rfl (by decide) rfl rfl rfl ?_
  refine RA.keep 12 [2] rfl ?_;(conv=>whnf);refine ⟨?_⟩
  exact RA.to2 hall hf hb (ro3_3 B Xo3_4_1 Xo3_7_1) rfl rfl (by kernel_rfl)
 have ro3_1 : ∀ B, ∀ (Xo3_4_1 : Value), RA f E B all 3 (bt 10 127) ⟨12, [(2, .obj b2 [I 0, I 0, .r (.v (.slice none 0 0))]), (4, I l.start), (6, I l.startTerm), (7, .w (sl 3 Entry.c ([] : List Entry)) Xo3_4_1), (9, .r (sl 3 Entry.c l.entries))] ++ b0⟩ K := by
  intro B Xo3_4_1
  refine RA.of2 hall hf hb (RA.stepH (L := [7]) (Tell.of rfl) (by kernel_rfl) (by simp) (RA.each ?_ (RA.each0)))
  refine RO.appendSR (c := Entry.c) (l1 := ([] : List Entry)) (l2 := l.entries) rfl rfl rfl rfl rfl rfl rfl rfl rfl rfl .r (by decide) (Nat.le_of_ble_eq_true rfl) Entry.len (fun _ => rfl) rfl (by have h1 := hok.1; simp only [maxLen, List.length_nil]; omega) (by have h1 := hok.1; simp only [maxLen, List.length_nil]; omega) fun Xo3_7_1 => ?_
  refine RA.fr XK 12 1 [8] (bt 10 511) rfl rfl (by kernel_rfl) (Tell.of rfl) ?_
  (conv=>whnf);refine ⟨rfl,fun B=>?_⟩
  exact RA.to2 hall hf hb (ro3_2 B Xo3_4_1 Xo3_7_1) rfl rfl (by kernel_rfl)
 have ro3_0 : ∀ B, RA f E B all 4 (bt 10 111) ⟨12, [(2, .obj b2 [I 0, I 0, .r (.v (.slice none 0 0))]), (4, I l.start), (6, I l.startTerm), (9, .r (sl 3 Entry.c l.entries))] ++ b0⟩ K := by
  intro B
  refine RA.of2 hall hf hb (RA.stepH (L := [4]) (Tell.of rfl) (by kernel_rfl) (by simp) (RA.each ?_ (RA.each0)))
  refine RO.build0 Entry.c rfl rfl rfl rfl rfl rfl rfl fun Xo3_4_1 => ?_
  exact RA.to2 hall hf hb (ro3_1 B Xo3_4_1) rfl rfl (by kernel_rfl)
 refine RA.start (by kernel_rfl) (by kernel_rfl) (m := 10) (ls' := (bt 10 0)) ?_
 refine RA.fr XK 12 4 [0,1,2,3,5,6] (bt 10 111) rfl rfl (by kernel_rfl) (Tell.of rfl) ?_
 (conv=>whnf);refine ⟨rfl,fun B=>?_⟩
 exact RA.to2 hall hf hb (ro3_0 B) rfl rfl (by kernel_rfl)
 rintro ⟨Xo3_4_1, Xo3_7_1⟩
 refine CW.ret ?_
 exact Post.one (RV.c (f := fun e => (Log.c e).map .w) (e' := (⟨l.start, l.startTerm, (([] : List Entry) ++ l.entries)⟩ : Log)) rfl rfl rfl rfl (DT.v (DT.v (DT.w DT.e))) (by rfl)) (AOs.a rfl AOs.e)
set_option maxHeartbeats 4000000 in
theorem impl_told_fn (j : Journal) (t : ByteArray) (hj : j = Journal.z) (ht : t = rH) : Eng.Fn E.P 172 [.agg ((Journal.c j).map .r), .one (.r (.v (.string t)))] (.tup [.agg ((Journal.c Journal.z).map .r), .one (.w (.v (.bool true)))]) [.agg ((Journal.c j).map .r), .one (.r (.v (.string t)))] := by
 refine Eng.Fn.intro (E := E) (rvs := [.cell 4 39, .tmp 5]) Tryz.func172 rfl rfl rfl (by simp [outSlots, moved, rvSlot, sl]) ?_
 intro B g bo
 refine CW.h XK 52 [.e [0,1],.n 1,.e [1,2,4],.o 1] rfl ?_;(conv=>whnf);intro b1;(conv=>whnf);intro b2;(conv=>whnf);refine ⟨rfl,?_⟩
 refine RW.call rfl (impl_twoNumbers_fn t 72 (.inr ⟨ht, rfl⟩)) rfl (.cons (.one (.r .r)) (.cons (.one (.r .r)) (.nil))) fun g3 => ?_
 refine RW.g XK 52 [.o 7,.p,.e [1,2,4,6,7,8],.p] rfl rfl rfl ?_
 refine CW.seqJ 52 (fun (v4 : Bool) => [(1, S t), (2, .obj b1 ((Journal.c j).map .r)), (4, .obj b2 [I 0, I 0, I 0, I 0, I 0, .r (.v (.slice none 0 0))]), (6, I 0), (7, I 0), (23, Bo v4)]) (fun v4 => v4 = (inR 0 0 100000 && inR 0 0 4)) ?_ ?_
 refine CW.g XK 52 [.o 4] rfl rfl rfl ?_
 refine RW.gcall rfl rfl rfl rfl (impl_votesOk_fn 0 0) rfl (.cons (.one (.r .r)) (.cons (.one (.r .r)) (.nil))) fun g5 => ?_
 refine RW.g XK 52 [.o 1,.p] rfl rfl rfl ?_
 exact ⟨_, by first | rfl | (simp_all; done) | (simp_all; omega) | grind, rfl, Le.of rfl⟩
 intro v4 hv6
 refine CW.cond rfl (fun h7 => ?_) (fun h7 => ?_)
 have hvv := hv6.symm.trans h7
 refine CW.g XK 52 [.n 2,.e [4,5]] rfl rfl rfl ?_
 refine CW.ret ?_
 exact Post.tup (by decide) (RVs.c (RV.c (f := fun e => (Journal.c e).map .r) (e' := (⟨j.number, 0, 0, j.log⟩ : Journal)) rfl rfl rfl rfl (DT.r (DT.r (DT.r (DT.r (DT.r (DT.r DT.e)))))) (by rw [hj]; rfl)) (RVs.c (RV.b rfl (by rfl)) RVs.e)) (AOs.a rfl (AOs.r AOs.e))
 have hvv := hv6.symm.trans h7
 exact absurd hvv (by simp [inR])
set_option maxHeartbeats 4000000 in
theorem impl_ReadJournal_fn (n : Int) (t : ByteArray) (hn : n = 0) (ht : t = jL) : Eng.Fn E.P 99 [.one (.r (.v (.int .i64 n))), .one (.r (.v (.string t)))] (.tup [.agg ((Journal.c Journal.z).map .r), .one (.w (.v (.int .i64 16))), .one (.w (.v (.bool true)))]) [.one (.r (.v (.int .i64 n))), .one (.r (.v (.string t)))] := by
 refine Eng.Fn.intro (E := E) (rvs := [.cell 4 39, .tmp 5, .tmp 6]) Tryz.func99 rfl rfl rfl (by simp [outSlots, moved, rvSlot, sl]) ?_
 intro B g bo
 refine CW.h XK 86 [.e [0,1],.n 1,.e [0,1,4],.o 1] rfl ?_;(conv=>whnf);intro b1;(conv=>whnf);refine ⟨rfl,?_⟩
 refine RW.call rfl (impl_Unframe_fn t ht) rfl (.cons (.one (.r .r)) (.nil)) fun g2 => ?_
 refine RW.g XK 86 [.o 5,.p,.e [0,4,7],.p] rfl rfl rfl ?_
 refine CW.seqJ 86 (fun (v3 : Bool) => [(0, I n), (4, .obj b1 [I 0, I 0, I 0, I 0, I 0, .r (.v (.slice none 0 0))]), (7, .r (sl 1 cS uR)), (32, Bo v3)]) (fun v3 => v3 = ((!(inR n 0 999)) || ((uR.length : Int) == 0))) ?_ ?_
 refine CW.g XK 86 [.o 1] rfl rfl rfl ?_
 refine RW.call rfl (impl_within_fn n 0 999) rfl (.cons (.one (.r .r)) (.cons (.one (.r .r)) (.cons (.one (.r .r)) (.nil)))) fun g4 => ?_
 refine RW.g XK 86 [.o 2] rfl rfl rfl ?_
 refine RW.gv rfl rfl rfl rfl (fun h5 => V.mv (d := .r (sl 1 cS uR)) rfl rfl) (fun h5 => ?_) (fun h5 => ?_)
 refine RW.g XK 86 [.o 3,.p] rfl rfl rfl ?_
 exact ⟨_, by first | rfl | (simp_all; done) | (simp_all; omega) | grind, rfl, Le.of rfl⟩
 refine RW.g XK 86 [.o 3,.p] rfl rfl rfl ?_
 exact ⟨_, by first | rfl | (simp_all; done) | (simp_all; omega) | grind, rfl, Le.of rfl⟩
 intro v3 hv6
 refine CW.cond rfl (fun h7 => ?_) (fun h7 => ?_)
 have hvv := hv6.symm.trans h7
 first | exact absurd hvv (rj_v hn) | exact absurd hvv rj_l
 have hvv := hv6.symm.trans h7
 refine CW.g XK 86 [.p,.e [0,4,7],.o 1] rfl rfl rfl ?_
 refine RW.v rfl (V.indexS rfl rfl rfl rfl rfl rfl cS.len rfl) ?_
 refine RW.g XK 86 [.o 1] rfl rfl rfl ?_
 refine RW.call rfl (impl_twoNumbers_fn rB 66 (.inl ⟨rfl, rfl⟩)) rfl (.cons (.one (.r .r)) (.cons (.one (.r .r)) (.nil))) fun g8 => ?_
 refine RW.h XK 86 [.o 7,.p,.e [0,4,7,9,10,11],.n 1,.e [4,7,11,12],.p] rfl ?_;(conv=>whnf);intro b9;(conv=>whnf);refine ⟨rfl,?_⟩
 refine CW.seqJ 86 (fun (v10 : Bool) => [(4, .obj b1 [I 0, I 0, I 0, I 0, I 0, .r (.v (.slice none 0 0))]), (7, .r (sl 1 cS uR)), (12, .obj b9 [I n, I 0, I 0, I 0, I 0, .r (.v (.slice none 0 0))]), (54, Bo v10)]) (fun v10 => v10 = ((!true) || (!(logOk (⟨0, 0, []⟩ : Log))))) ?_ ?_
 refine CW.g XK 86 [.o 3] rfl rfl rfl ?_
 refine RW.gv rfl rfl rfl rfl (fun h11 => V.field rfl rfl rfl rfl (by decide) rfl) (fun h11 => ?_) (fun h11 => ?_)
 refine RW.g XK 86 [.o 1] rfl rfl rfl ?_
 refine RW.gcall rfl rfl rfl rfl (impl_LogOk_fn (⟨0, 0, []⟩ : Log) okToLog_z) rfl (.cons (.agg (.cons (.r .r) (.cons (.r .r) (.cons (.r .nil) (.nil))))) (.nil)) fun g12 => ?_
 refine RW.g XK 86 [.o 2,.p] rfl rfl rfl ?_
 exact ⟨_, by first | rfl | (simp_all; done) | (simp_all; omega) | grind, rfl, Le.of rfl⟩
 refine RW.g XK 86 [.o 4,.p] rfl rfl rfl ?_
 exact ⟨_, by first | rfl | (simp_all; done) | (simp_all; omega) | grind, rfl, Le.of rfl⟩
 intro v10 hv13
 refine CW.cond rfl (fun h14 => ?_) (fun h14 => ?_)
 have hvv := hv13.symm.trans h14
 first | exact absurd hvv (rj_v hn) | exact absurd hvv rj_l
 have hvv := hv13.symm.trans h14
 refine CW.g XK 86 [.p,.e [4,7,12],.n 1,.e [4,7,12,13],.n 1,.e [4,12,13,56,57,58],.p] rfl rfl rfl ?_
 refine CW.nilCell 12 5 3 Entry.c rfl rfl ?_
 refine CW.freeze 12 (d' := .obj b9 [I n, I 0, I 0, I 0, I 0, .r (sl 3 Entry.c ([] : List Entry))]) rfl rfl ?_
 refine CW.loopI 86 (fun (i : Nat) => [(4, .obj b1 [I 0, I 0, I 0, I 0, I 0, .r (.v (.slice none 0 0))]), (12, .obj b9 [I 0, I 0, I 0, I 0, I 0, .r (sl 3 Entry.c ([] : List Entry))]), (13, I (uA i)), (56, .r (sl 1 cS uR)), (57, I (uR.length : Int)), (58, I (i : Int))]) (fun (i : Nat) => i ≤ uR.length) (fun (i : Nat) => uR.length - i) 0 rfl (Le.c rfl <| Le.c (by subst hn; rfl) <| Le.c rfl <| Le.c rfl <| Le.c rfl <| Le.c rfl <| Le.e) (by decide) ?_
 rintro i hb
 refine CW.g XK 86 [.n 1,.e [4,12,13,56,57,58,59],.p] rfl rfl rfl ?_
 refine CW.cond rfl (fun h15 => ?_) (fun h15 => ?_)
 have hii : i < uR.length := by have := h15; simp at this; first | exact this | omega | (simp; done) | (simp; omega)
 obtain ⟨ei, hei⟩ : ∃ e, uR[i]? = some e := ⟨_, List.getElem?_eq_getElem hii⟩
 have hdi := drop_get hei
 refine CW.g XK 86 [.p,.e [4,12,13,56,57,58],.o 1] rfl rfl rfl ?_
 refine RW.v rfl (V.indexS rfl rfl rfl rfl rfl rfl cS.len hei) ?_
 refine RW.g XK 86 [.o 3,.p,.e [4,12,13,14,15,56,57,58],.n 1,.e [4,12,13,15,56,57,58,64]] rfl rfl rfl ?_
 refine CW.cond rfl (fun h16 => ?_) (fun h16 => ?_)
 have hpos := h16
 refine CW.g XK 86 [.o 2] rfl rfl rfl ?_
 refine RW.call rfl (impl_told_fn (⟨0, 0, 0, (⟨0, 0, ([] : List Entry)⟩ : Log)⟩ : Journal) ei rfl (uR_1 hei hpos)) rfl (.cons (.agg (.cons (.r .r) (.cons (.r .r) (.cons (.r .r) (.cons (.r .r) (.cons (.r .r) (.cons (.r .r) (.nil)))))))) (.cons (.one (.r .r)) (.nil))) fun g17 => ?_
 refine RW.h XK 86 [.o 5] rfl ?_;(conv=>whnf);intro b18;(conv=>whnf);refine ⟨rfl,?_⟩
 refine RW.freezeB (ts := (Journal.c Journal.z)) 16 rfl (DRd.r (DRd.r (DRd.r (DRd.r (DRd.r (DRd.r DRd.e)))))) ?_
 refine RW.g XK 86 [.o 1,.p,.e [4,12,13,15,16,17,56,57,58],.n 1,.e [4,12,13,15,16,56,57,58,72]] rfl rfl rfl ?_
 refine CW.cond rfl (fun h19 => ?_) (fun h19 => ?_)
 exact absurd h19 (by decide)
 refine CW.g XK 86 [.p,.e [4,12,13,15,16,56,57,58],.o 2,.p,.e [4,12,13,15,56,57,58],.o 1] rfl rfl rfl ?_
 refine RW.call rfl (impl_Frame_fn ei) rfl (.cons (.one (.r .r)) (.nil)) fun g20 => ?_
 refine RW.g XK 86 [.o 5,.p,.e [4,12,13,18,56,57,58],.o 5,.p,.e [4,12,13,56,57,58],.p] rfl rfl rfl ?_
 refine RW.v rfl (V.inc rfl rfl rfl hii (by decide)) ?_
 refine RW.g XK 86 [.o 1,.p] rfl rfl rfl ?_
 exact ⟨i + 1, by omega, (by omega), rfl, Le.c rfl <| Le.c rfl <| Le.c (congrArg I (uR_nx hei)) <| Le.c rfl <| Le.c rfl <| Le.c rfl <| Le.e⟩
 refine CW.g XK 86 [.p,.e [4,12,13,15,56,57,58],.o 1] rfl rfl rfl ?_
 refine RW.call rfl (impl_Frame_fn ei) rfl (.cons (.one (.r .r)) (.nil)) fun g21 => ?_
 refine RW.g XK 86 [.o 5,.p,.e [4,12,13,18,56,57,58],.o 5,.p,.e [4,12,13,56,57,58],.p] rfl rfl rfl ?_
 refine RW.v rfl (V.inc rfl rfl rfl hii (by decide)) ?_
 refine RW.g XK 86 [.o 1,.p] rfl rfl rfl ?_
 exact ⟨i + 1, by omega, (by omega), rfl, Le.c rfl <| Le.c rfl <| Le.c (congrArg I (uR_nx hei)) <| Le.c rfl <| Le.c rfl <| Le.c rfl <| Le.e⟩
 have hii : uR.length ≤ i := by have := h15; simp at this; first | exact this | omega | (simp; done) | (simp; omega)
 have hdi : uR.drop i = [] := List.drop_eq_nil_of_le hii
 refine CW.exit ?_
 refine CW.g XK 86 [.e [4,12,13],.n 1,.e [4,5,6]] rfl rfl rfl ?_
 refine CW.ret ?_
 exact Post.tup (by decide) (RVs.c (RV.c (f := fun e => (Journal.c e).map .r) (e' := (⟨0, 0, 0, (⟨0, 0, ([] : List Entry)⟩ : Log)⟩ : Journal)) rfl rfl rfl rfl (DT.r (DT.r (DT.r (DT.r (DT.r (DT.r DT.e)))))) (by rfl)) (RVs.c (RV.i rfl (by have h9 : i = 2 := (by simp only [uR, List.length_cons, List.length_nil] at *; omega); rw [h9]; rfl)) (RVs.c (RV.b rfl (by rfl)) RVs.e))) (AOs.r (AOs.r AOs.e))
set_option maxHeartbeats 4000000 in
theorem impl_copyJournal_fn (j : Journal) (hok : okToJournal j) : Eng.Fn E.P 37 [.agg ((Journal.c j).map .r)] (.one (.agg ((Journal.c j).map .w))) [.agg ((Journal.c j).map .r)] := by
 refine Eng.Fn.intro (E := E) (rvs := [.cell 2 39]) Tryz.func37 rfl rfl rfl (by simp [outSlots, moved, rvSlot, sl]) ?_
 intro B g bo
 refine CW.h XK 8 [.e [0],.n 1,.e [1,2],.o 2] rfl ?_;(conv=>whnf);intro b1;(conv=>whnf);intro b2;(conv=>whnf);refine ⟨rfl,?_⟩
 refine RW.call rfl (impl_copyLog_fn j.log hok) rfl (.cons (.agg (.cons (.r .r) (.cons (.r .r) (.cons (.r .r) (.nil))))) (.nil)) fun g3 => ?_
 refine RW.g XK 8 [.o 2,.e [1,2,5]] rfl rfl rfl ?_
 refine RW.pullA (k := 1) (l := 5) (j := 5) 1 5 5 rfl rfl rfl (by decide) rfl rfl rfl rfl ?_
 refine RW.g XK 8 [.e [1,2],.p,.e [1,2],.o 2,.e [1,2]] rfl rfl rfl ?_
 refine RW.pullO (k := 2) (l := 1) (j := 5) 2 1 5 rfl rfl rfl (by decide) rfl rfl rfl rfl ?_
 refine RW.g XK 8 [.e [2],.p,.e [2]] rfl rfl rfl ?_
 refine CW.ret ?_
 exact Post.one (RV.c (f := fun e => (Journal.c e).map .w) (e' := j) rfl rfl rfl rfl (DT.v (DT.v (DT.v (DT.v (DT.v (DT.w DT.e)))))) (by rfl)) (AOs.a rfl AOs.e)
set_option maxHeartbeats 4000000 in
theorem impl_OpenJournal_fn (d : Disk) (hfd : FdP d) : Eng.Fn E.P 34 [.agg ((Disk.c d).map .r)] (.tup [.agg ((Journal.c Journal.z).map .r), .one (.w (sl 4 Act.c ([] : List Act))), .one (.w (.v (.bool true)))]) [.agg ((Disk.c d).map .r)] := by
 refine Eng.Fn.intro (E := E) (rvs := [.cell 2 39, .tmp 3, .tmp 4]) Tryz.func34 rfl rfl rfl (by simp [outSlots, moved, rvSlot, sl]) ?_
 intro B g bo
 refine CW.g XK 107 [.e [0]] rfl rfl rfl ?_
 have hl1 : d.files.length ≤ maxLen := by rw [hfd.len]; decide
 refine CW.h XK 107 [.o 1] rfl ?_;(conv=>whnf);intro b1;(conv=>whnf);refine ⟨rfl,?_⟩
 refine RW.freezeB (ts := (Disk.c d)) 1 rfl (DRd.r DRd.e) ?_
 refine RW.h XK 107 [.o 3,.p,.e [1,2],.n 1,.e [1,2,5],.n 1,.e [1,2,5,20,21,22],.p] rfl ?_;(conv=>whnf);intro b2;(conv=>whnf);refine ⟨rfl,?_⟩
 refine CW.loopI 107 (fun (zz : Nat × Int) => match zz with | (i, b) => [(1, .rp (Disk.c d)), (2, .obj b2 [I 0, I 0, I 0, I 0, I 0, .r (.v (.slice none 0 0))]), (5, I b), (20, .r (sl 3 File.c d.files)), (21, I (d.files.length : Int)), (22, I (i : Int))]) (fun (zz : Nat × Int) => match zz with | (i, b) => OjP d i b) (fun (zz : Nat × Int) => match zz with | (i, b) => d.files.length - i) (0, _) rfl (Le.c rfl <| Le.c rfl <| Le.c rfl <| Le.c rfl <| Le.c rfl <| Le.c rfl <| Le.e) (OjP.init hfd) ?_
 rintro ⟨i, b⟩ hP
 refine CW.g XK 107 [.n 1,.e [1,2,5,20,21,22,23],.p] rfl rfl rfl ?_
 refine CW.cond rfl (fun h3 => ?_) (fun h3 => ?_)
 have hii : i < d.files.length := by have := h3; simp at this; first | exact this | omega | (simp; done) | (simp; omega)
 obtain ⟨ei, hei⟩ : ∃ e, d.files[i]? = some e := ⟨_, List.getElem?_eq_getElem hii⟩
 have hdi := drop_get hei
 refine CW.g XK 107 [.p,.e [1,2,5,20,21,22],.p,.p,.p,.p] rfl rfl rfl ?_
 refine RW.v rfl (V.indexS rfl rfl rfl rfl rfl rfl File.len hei) ?_
 refine RW.h XK 107 [.o 3] rfl ?_;(conv=>whnf);intro b4;(conv=>whnf);refine ⟨rfl,?_⟩
 refine RW.freezeB (ts := (File.c ei)) 7 rfl (DRd.r (DRd.r (DRd.r DRd.e))) ?_
 refine RW.g XK 107 [.p,.e [1,2,5,7,20,21,22],.o 3] rfl rfl rfl ?_
 refine RW.call rfl (impl_numberOf_fn ei.name (⟨#[106]⟩ : ByteArray) 999 (by first | exact (hfd.okTo.2 ei (List.mem_of_getElem? hei)).1 | exact (hfd.okTo.2 ej (List.mem_of_getElem? hej)).1)) rfl (.cons (.one (.r .r)) (.cons (.one (.r .r)) (.cons (.one (.r .r)) (.nil)))) fun g5 => ?_
 refine RW.v rfl (V.max2I rfl rfl rfl) ?_
 refine RW.g XK 107 [.o 1,.p,.e [1,2,5,20,21,22],.p] rfl rfl rfl ?_
 refine RW.v rfl (V.inc rfl rfl rfl hii hl1) ?_
 refine RW.g XK 107 [.o 1,.p] rfl rfl rfl ?_
 exact ⟨(i + 1, (mxI b (numOf ei.name (⟨#[106]⟩ : ByteArray) 999))), by simp only []; omega, (hP.step hfd hei), rfl, Le.c rfl <| Le.c rfl <| Le.c rfl <| Le.c rfl <| Le.c rfl <| Le.c rfl <| Le.e⟩
 have hii : d.files.length ≤ i := by have := h3; simp at this; first | exact this | omega | (simp; done) | (simp; omega)
 have hdi : d.files.drop i = [] := List.drop_eq_nil_of_le hii
 have hb0 : b = 0 := hP.fin hfd hii
 refine CW.exit ?_
 refine CW.g XK 107 [.e [1,2,5],.p] rfl rfl rfl ?_
 refine CW.seqJ 107 (fun (v6 : Bool) => [(1, .rp (Disk.c d)), (2, .obj b2 [I 0, I 0, I 0, I 0, I 0, .r (.v (.slice none 0 0))]), (5, I b), (38, Bo v6)]) (fun v6 => v6 = ((!(diskOk d)) || decide (b < 0))) ?_ ?_
 refine CW.g XK 107 [.o 1] rfl rfl rfl ?_
 refine RW.call rfl (impl_DiskOk_fn d hfd.okTo) rfl (.cons (.agg (.cons (.r .r) (.nil))) (.nil)) fun g7 => ?_
 refine RW.g XK 107 [.o 2] rfl rfl rfl ?_
 refine RW.gv rfl rfl rfl rfl (fun h8 => V.mv (d := I b) rfl rfl) (fun h8 => ?_) (fun h8 => ?_)
 refine RW.g XK 107 [.o 2,.p] rfl rfl rfl ?_
 exact ⟨_, by first | rfl | (simp_all; done) | (simp_all; omega) | grind, rfl, Le.of rfl⟩
 refine RW.g XK 107 [.o 2,.p] rfl rfl rfl ?_
 exact ⟨_, by first | rfl | (simp_all; done) | (simp_all; omega) | grind, rfl, Le.of rfl⟩
 intro v6 hv9
 refine CW.cond rfl (fun h10 => ?_) (fun h10 => ?_)
 have hvv := hv9.symm.trans h10
 first | exact absurd hvv (oj_d hfd hb0) | exact absurd hvv (oj_v hfd hej hb0)
 have hvv := hv9.symm.trans h10
 refine CW.g XK 107 [.p,.e [1,2,5]] rfl rfl rfl ?_
 refine CW.anyJ2 (fc := [(2, b2, [.int .i64 0, .int .i64 0, .int .i64 0, .int .i64 0, .int .i64 0, .slice none 0 0])]) (L0 := [(1, .rp (Disk.c d)), (2, .obj b2 [I 0, I 0, I 0, I 0, I 0, .r (.v (.slice none 0 0))]), (5, I b)]) 107 (fun (zz : (Nat → Nat → Value) × (Nat → Nat → Value)) => match zz with | (go11_2_1, go11_3_1) => [(8, S jT)]) (fun all hall f hf b0 hb K hK => ?_) ?_
 have ro11_6 : ∀ B, ∀ (go11_2_1 : Nat → Nat → Value), ∀ (go11_3_1 : Nat → Nat → Value), RA f E B all 0 (bt 9 511) ⟨107, [(8, S jT)] ++ b0⟩ K := by
  intro B go11_2_1 go11_3_1
  exact RA.of2 hall hf hb (RA.finH (Tell.of rfl) (by kernel_rfl) (hK (go11_2_1, go11_3_1) _ rfl (Le.of rfl)))
 have ro11_5 : ∀ B, ∀ (go11_2_1 : Nat → Nat → Value), ∀ (go11_3_1 : Nat → Nat → Value), RA f E B all 2 (bt 9 191) ⟨107, [(8, S jT), (40, .tup [.u, Bo true])] ++ b0⟩ K := by
  intro B go11_2_1 go11_3_1
  refine RA.of2 hall hf hb (RA.stepH (L := [6]) (Tell.of rfl) (by kernel_rfl) (by simp) (RA.each ?_ (RA.each0)))
  refine RO.extract (d := Bo true) rfl rfl rfl rfl rfl (by decide) (Nat.le_of_ble_eq_true rfl) rfl rfl ?_
  refine RA.fr XK 107 0 [8] (bt 9 511) rfl rfl (by kernel_rfl) (Tell.of rfl) ?_
  (conv=>whnf);refine ⟨rfl,fun B=>?_⟩
  exact RA.to2 hall hf hb (ro11_6 B go11_2_1 go11_3_1) rfl rfl (by kernel_rfl)
 have ro11_4 : ∀ B, ∀ (go11_2_1 : Nat → Nat → Value), ∀ (go11_3_1 : Nat → Nat → Value), RA f E B all 3 (bt 9 95) ⟨107, [(40, .tup [S jT, .u]), (46, Bo true)] ++ b0⟩ K := by
  intro B go11_2_1 go11_3_1
  refine RA.of2 hall hf hb (RA.stepH (L := [5]) (Tell.of rfl) (by kernel_rfl) (by simp) (RA.each ?_ (RA.each0)))
  refine RO.extract (d := S jT) rfl rfl rfl rfl rfl (by decide) (Nat.le_of_ble_eq_true rfl) rfl rfl ?_
  refine RA.fr XK 107 0 [7,8] (bt 9 511) rfl rfl (by kernel_rfl) (Tell.of rfl) ?_
  (conv=>whnf);refine ⟨rfl,fun B=>?_⟩
  exact RA.to2 hall hf hb (ro11_6 B go11_2_1 go11_3_1) rfl rfl (by kernel_rfl)
 have ro11_3 : ∀ B, ∀ (go11_2_1 : Nat → Nat → Value), ∀ (go11_3_1 : Nat → Nat → Value), RA f E B all 4 (bt 9 31) ⟨107, [(40, .tup [S jT, Bo true])] ++ b0⟩ K := by
  intro B go11_2_1 go11_3_1
  refine RA.of2 hall hf hb (RA.stepH (L := [5, 6]) (Tell.of rfl) (by kernel_rfl) (by simp) (RA.each ?_ (RA.each ?_ (RA.each0))))
  refine RO.extract (d := S jT) rfl rfl rfl rfl rfl (by decide) (Nat.le_of_ble_eq_true rfl) rfl rfl ?_
  refine RA.fr XK 107 2 [7] (bt 9 191) rfl rfl (by kernel_rfl) (Tell.of rfl) ?_
  (conv=>whnf);refine ⟨rfl,fun B=>?_⟩
  exact RA.to2 hall hf hb (ro11_5 B go11_2_1 go11_3_1) rfl rfl (by kernel_rfl)
  refine RO.extract (d := Bo true) rfl rfl rfl rfl rfl (by decide) (Nat.le_of_ble_eq_true rfl) rfl rfl ?_
  exact RA.to2 hall hf hb (ro11_4 B go11_2_1 go11_3_1) rfl rfl (by kernel_rfl)
 have ro11_2 : ∀ B, ∀ (go11_2_1 : Nat → Nat → Value), ∀ (go11_3_1 : Nat → Nat → Value), RA f E B all 5 (bt 9 15) ⟨107, [(44, .tup [S jT, Bo true])] ++ b0⟩ K := by
  intro B go11_2_1 go11_3_1
  refine RA.of2 hall hf hb (RA.stepH (L := [4]) (Tell.of rfl) (by kernel_rfl) (by simp) (RA.each ?_ (RA.each0)))
  refine RO.moveMove rfl rfl rfl rfl rfl (by decide) (Nat.le_of_ble_eq_true rfl) (Nat.le_of_ble_eq_true rfl) ?_
  exact RA.to2 hall hf hb (ro11_3 B go11_2_1 go11_3_1) rfl rfl (by kernel_rfl)
 have ro11_1 : ∀ B, ∀ (go11_2_1 : Nat → Nat → Value), RA f E B all 6 (bt 9 7) ⟨107, [(41, .agg ((Disk.c d).map .r)), (43, S jN)] ++ b0⟩ K := by
  intro B go11_2_1
  refine RA.of2 hall hf hb (RA.stepH (L := [3]) (Tell.of rfl) (by kernel_rfl) (by simp) (RA.each ?_ (RA.each0)))
  refine RO.call rfl rfl (impl_FileAt_fn d jN hfd rfl) rfl (.cons (.agg (.cons (.r .r) (.nil))) (.cons (.one (.r .r)) (.nil))) rfl fun go11_3_1 => ?_
  exact RA.to2 hall hf hb (ro11_2 B go11_2_1 go11_3_1) rfl rfl (by kernel_rfl)
 have ro11_0 : ∀ B, RA f E B all 7 (bt 9 3) ⟨107, [(41, .agg ((Disk.c d).map .r)), (42, I b)] ++ b0⟩ K := by
  intro B
  refine RA.of2 hall hf hb (RA.stepH (L := [2]) (Tell.of rfl) (by kernel_rfl) (by simp) (RA.each ?_ (RA.each0)))
  refine RO.call rfl rfl (impl_JournalName_fn b hb0) rfl (.cons (.one (.r .r)) (.nil)) rfl fun go11_2_1 => ?_
  exact RA.to2 hall hf hb (ro11_1 B go11_2_1) rfl rfl (by kernel_rfl)
 refine RA.start (by kernel_rfl) (by kernel_rfl) (m := 9) (ls' := (bt 9 0)) ?_
 refine RA.fr XK 107 7 [0,1] (bt 9 3) rfl rfl (by kernel_rfl) (Tell.of rfl) ?_
 (conv=>whnf);refine ⟨rfl,fun B=>?_⟩
 exact RA.to2 hall hf hb (ro11_0 B) rfl rfl (by kernel_rfl)
 rintro ⟨go11_2_1, go11_3_1⟩
 refine CW.g XK 107 [.o 2] rfl rfl rfl ?_
 refine RW.call rfl (impl_ReadJournal_fn b jT hb0 jT_L) rfl (.cons (.one (.r .r)) (.cons (.one (.r .r)) (.nil))) fun g12 => ?_
 refine RW.h XK 107 [.o 6] rfl ?_;(conv=>whnf);intro b13;(conv=>whnf);refine ⟨rfl,?_⟩
 refine RW.freezeB (ts := (Journal.c Journal.z)) 10 rfl (DRd.r (DRd.r (DRd.r (DRd.r (DRd.r (DRd.r DRd.e)))))) ?_
 refine RW.g XK 107 [.o 2,.p,.e [1,2,5,8,10,11,12],.n 1,.e [1,2,5,8,10,11,55]] rfl rfl rfl ?_
 refine CW.cond rfl (fun h14 => ?_) (fun h14 => ?_)
 exact absurd h14 (by decide)
 refine CW.g XK 107 [.p,.e [1,2,5,8,10,11],.p,.p] rfl rfl rfl ?_
 refine RW.build0 Act.c rfl rfl rfl rfl rfl fun X15 => ?_
 refine RW.assignMove rfl rfl rfl (by decide) (Nat.le_of_ble_eq_true rfl) (Nat.le_of_ble_eq_true rfl) ?_
 refine RW.g XK 107 [.p,.e [1,2,5,8,10,11,13],.n 1,.e [2,5,8,10,11,13,59,60,61],.p] rfl rfl rfl ?_
 refine CW.loopI 107 (fun (j : Nat) => [(2, .obj b2 [I 0, I 0, I 0, I 0, I 0, .r (.v (.slice none 0 0))]), (5, I b), (8, S jT), (10, .rp (Journal.c Journal.z)), (11, I 16), (13, .w (sl 4 Act.c ([] : List Act)) X15), (59, .r (sl 3 File.c d.files)), (60, I (d.files.length : Int)), (61, I (j : Int))]) (fun (j : Nat) => j ≤ d.files.length) (fun (j : Nat) => d.files.length - j) 0 rfl (Le.c rfl <| Le.c rfl <| Le.c rfl <| Le.c rfl <| Le.c rfl <| Le.c rfl <| Le.c rfl <| Le.c rfl <| Le.c rfl <| Le.e) (by omega) ?_
 rintro j hjb
 refine CW.g XK 107 [.n 1,.e [2,5,8,10,11,13,59,60,61,62],.p] rfl rfl rfl ?_
 refine CW.cond rfl (fun h16 => ?_) (fun h16 => ?_)
 have hij : j < d.files.length := by have := h16; simp at this; first | exact this | omega | (simp; done) | (simp; omega)
 obtain ⟨ej, hej⟩ : ∃ e, d.files[j]? = some e := ⟨_, List.getElem?_eq_getElem hij⟩
 have hdj := drop_get hej
 refine CW.g XK 107 [.p,.e [2,5,8,10,11,13,59,60,61],.p,.p,.p,.p] rfl rfl rfl ?_
 refine RW.v rfl (V.indexS rfl rfl rfl rfl rfl rfl File.len hej) ?_
 refine RW.h XK 107 [.o 3] rfl ?_;(conv=>whnf);intro b17;(conv=>whnf);refine ⟨rfl,?_⟩
 refine RW.freezeB (ts := (File.c ej)) 15 rfl (DRd.r (DRd.r (DRd.r DRd.e))) ?_
 refine RW.g XK 107 [.p,.e [2,5,8,10,11,13,15,59,60,61],.o 2] rfl rfl rfl ?_
 refine RW.call rfl (impl_numberOf_fn ej.name (⟨#[106]⟩ : ByteArray) 999 (by first | exact (hfd.okTo.2 ei (List.mem_of_getElem? hei)).1 | exact (hfd.okTo.2 ej (List.mem_of_getElem? hej)).1)) rfl (.cons (.one (.r .r)) (.cons (.one (.r .r)) (.cons (.one (.r .r)) (.nil)))) fun g18 => ?_
 refine RW.g XK 107 [.o 1,.p,.e [2,5,8,10,11,13,15,16,59,60,61]] rfl rfl rfl ?_
 refine CW.seqJ 107 (fun (v19 : Bool) => [(2, .obj b2 [I 0, I 0, I 0, I 0, I 0, .r (.v (.slice none 0 0))]), (5, I b), (8, S jT), (10, .rp (Journal.c Journal.z)), (11, I 16), (13, .w (sl 4 Act.c ([] : List Act)) X15), (15, .rp (File.c ej)), (59, .r (sl 3 File.c d.files)), (60, I (d.files.length : Int)), (61, I (j : Int)), (79, Bo v19)]) (fun v19 => v19 = ((ej.name.toList == (⟨#[106, 43]⟩ : ByteArray).toList) || (decide ((numOf ej.name (⟨#[106]⟩ : ByteArray) 999) ≥ 0) && ((numOf ej.name (⟨#[106]⟩ : ByteArray) 999) != b)))) ?_ ?_
 refine CW.g XK 107 [.o 4] rfl rfl rfl ?_
 refine RW.gv rfl rfl rfl rfl (fun h20 => V.mv (d := I (numOf ej.name (⟨#[106]⟩ : ByteArray) 999)) rfl rfl) (fun h20 => ?_) (fun h20 => ?_)
 refine RW.g XK 107 [.o 2] rfl rfl rfl ?_
 refine RW.gv rfl rfl rfl rfl (fun h21 => V.mv (d := I (numOf ej.name (⟨#[106]⟩ : ByteArray) 999)) rfl rfl) (fun h21 => ?_) (fun h21 => ?_)
 refine RW.g XK 107 [.o 4,.p] rfl rfl rfl ?_
 exact ⟨_, by first | rfl | (simp_all; done) | (simp_all; omega) | grind, rfl, Le.of rfl⟩
 refine RW.g XK 107 [.o 4,.p] rfl rfl rfl ?_
 exact ⟨_, by first | rfl | (simp_all; done) | (simp_all; omega) | grind, rfl, Le.of rfl⟩
 refine RW.g XK 107 [.o 7,.p] rfl rfl rfl ?_
 exact ⟨_, by first | rfl | (simp_all; done) | (simp_all; omega) | grind, rfl, Le.of rfl⟩
 intro v19 hv22
 refine CW.cond rfl (fun h23 => ?_) (fun h23 => ?_)
 have hvv := hv22.symm.trans h23
 first | exact absurd hvv (oj_d hfd hb0) | exact absurd hvv (oj_v hfd hej hb0)
 have hvv := hv22.symm.trans h23
 refine CW.g XK 107 [.p,.e [2,5,8,10,11,13,59,60,61],.p] rfl rfl rfl ?_
 refine RW.v rfl (V.inc rfl rfl rfl hij hl1) ?_
 refine RW.g XK 107 [.o 1,.p] rfl rfl rfl ?_
 exact ⟨j + 1, by omega, (by omega), rfl, Le.c rfl <| Le.c rfl <| Le.c rfl <| Le.c rfl <| Le.c rfl <| Le.c rfl <| Le.c rfl <| Le.c rfl <| Le.c rfl <| Le.e⟩
 have hij : d.files.length ≤ j := by have := h16; simp at this; first | exact this | omega | (simp; done) | (simp; omega)
 have hdj : d.files.drop j = [] := List.drop_eq_nil_of_le hij
 refine CW.exit ?_
 refine CW.g XK 107 [.e [2,8,10,11,13],.n 1,.e [2,10,13,90]] rfl rfl rfl ?_
 refine CW.cond rfl (fun h24 => ?_) (fun h24 => ?_)
 refine CW.g XK 107 [.o 4] rfl rfl rfl ?_
 refine RW.pullS 3 13 (by decide) rfl rfl ?_
 refine RW.g XK 107 [.o 1,.p,.e [2,3,4]] rfl rfl rfl ?_
 refine CW.ret ?_
 exact Post.tup (by decide) (RVs.c (RV.c (f := fun e => (Journal.c e).map .r) (e' := Journal.z) rfl rfl rfl rfl (DT.r (DT.r (DT.r (DT.r (DT.r (DT.r DT.e)))))) (by rfl)) (RVs.c (RV.w rfl (by rfl)) (RVs.c (RV.b rfl (by rfl)) RVs.e))) (AOs.a rfl AOs.e)
 exact absurd h24 (by rw [jT_L]; decide)
set_option maxHeartbeats 4000000 in
theorem impl_isSnap_fn (f : File) (hm : f.name.size ≤ 1048576) : Eng.Fn E.P 101 [.agg ((File.c f).map .r)] (.one (.one (.w (.v (.bool (decide (numOf f.name sB 1000000 ≥ 0))))))) [.agg ((File.c f).map .r)] := by
 refine Eng.Fn.intro (E := E) (rvs := [.tmp 2]) Tryz.func101 rfl rfl rfl (by simp [outSlots, moved, rvSlot, sl]) ?_
 intro B g bo
 refine CW.h XK 7 [.e [0],.o 1] rfl ?_;(conv=>whnf);intro b1;(conv=>whnf);refine ⟨rfl,?_⟩
 refine RW.freezeB (ts := (File.c f)) 1 rfl (DRd.r (DRd.r (DRd.r DRd.e))) ?_
 refine RW.g XK 7 [.o 1,.p,.e [1],.o 2] rfl rfl rfl ?_
 refine RW.call rfl (impl_numberOf_fn f.name (⟨#[115]⟩ : ByteArray) 1000000 hm) rfl (.cons (.one (.r .r)) (.cons (.one (.r .r)) (.cons (.one (.r .r)) (.nil)))) fun g2 => ?_
 refine RW.g XK 7 [.o 2,.p,.e [2]] rfl rfl rfl ?_
 refine CW.ret ?_
 exact Post.one (RV.b rfl (by rfl)) (AOs.a rfl AOs.e)
end Go.Proofs.YtaneihnomaagoaaGreatDoor.Y
