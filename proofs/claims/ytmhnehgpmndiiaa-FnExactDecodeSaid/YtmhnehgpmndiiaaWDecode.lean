import Derived.Test.YtmhnehgpmndiiaaWDecodeC
namespace Go.Proofs.Ytmhnehgpmndiiaa.Y
open Go Go.RowKit Go.Eng Go.Proofs
set_option maxRecDepth 10000
set_option maxHeartbeats 4000000 in
theorem impl_Decode_fn (t : ByteArray) (ht : t.size ≤ 1048576) : Eng.Fn E.P 6 [.one (.r (.v (.string t)))] (.tup [.agg ((Message.c ((rdMsg t).1)).map .w), .one (.w (.v (.bool ((rdMsg t).2))))]) [.one (.r (.v (.string t)))] := by
 refine Eng.Fn.intro (E := E) (rvs := [.cell 2 25, .tmp 3]) Try.func6 rfl rfl rfl (by simp [outSlots, moved, rvSlot, sl]) ?_
 intro B g bo
 refine CW.keep 101 [0] rfl ?_;(conv=>whnf);refine ⟨?_⟩
 refine CW.k XK 101 3 [2,4,5,15] rfl ?_
 (conv=>whnf);intro b1;(conv=>whnf);intro b2;(conv=>whnf);intro b3;(conv=>whnf);refine ⟨rfl,?_⟩
 refine CW.seq ?_
 refine CW.region ?_
 refine RW.k XK 101 1 rfl ?_
 (conv=>whnf);refine ⟨rfl,?_⟩
 refine RW.callP (k := 15) (__impl_scan__one_fn (⟨t, 0, false⟩ : scan) (scan.ok0 ht)) rfl rfl (Nat.le_of_ble_eq_true rfl) (by decide) rfl (DT.r (DT.r (DT.r DT.e))) (AsPs.here rfl (.nil)) fun g4 q5 => ?_
 refine RW.k XK 101 2 rfl ?_
 (conv=>whnf);refine ⟨rfl,?_⟩
 refine RW.nil ?_
 refine CW.keep 101 [2,4,5,15] rfl ?_;(conv=>whnf);refine ⟨?_⟩
 refine CW.seq ?_
 refine CW.region ?_
 refine RW.k XK 101 1 rfl ?_
 (conv=>whnf);refine ⟨rfl,?_⟩
 refine RW.callP (k := 15) (__impl_scan__one_fn (oneS (⟨t, 0, false⟩ : scan)) (oneS_ok (scan.ok0 ht))) rfl rfl (Nat.le_of_ble_eq_true rfl) (by decide) rfl (DT.r (DT.r (DT.r DT.e))) (AsPs.here rfl (.nil)) fun g6 q7 => ?_
 refine RW.k XK 101 2 rfl ?_
 (conv=>whnf);refine ⟨rfl,?_⟩
 refine RW.nil ?_
 refine CW.keep 101 [2,4,5,15] rfl ?_;(conv=>whnf);refine ⟨?_⟩
 refine CW.seq ?_
 refine CW.region ?_
 refine RW.k XK 101 1 rfl ?_
 (conv=>whnf);refine ⟨rfl,?_⟩
 refine RW.callP (k := 15) (__impl_scan__one_fn (oneS (oneS (⟨t, 0, false⟩ : scan))) (oneS_ok (oneS_ok (scan.ok0 ht)))) rfl rfl (Nat.le_of_ble_eq_true rfl) (by decide) rfl (DT.r (DT.r (DT.r DT.e))) (AsPs.here rfl (.nil)) fun g8 q9 => ?_
 refine RW.k XK 101 2 rfl ?_
 (conv=>whnf);refine ⟨rfl,?_⟩
 refine RW.nil ?_
 refine CW.keep 101 [2,4,5,15] rfl ?_;(conv=>whnf);refine ⟨?_⟩
 refine CW.seq ?_
 refine CW.region ?_
 refine RW.k XK 101 1 rfl ?_
 (conv=>whnf);refine ⟨rfl,?_⟩
 refine RW.callP (k := 15) (__impl_scan__number_fn (oneS (oneS (oneS (⟨t, 0, false⟩ : scan)))) (oneS_ok (oneS_ok (oneS_ok (scan.ok0 ht))))) rfl rfl (Nat.le_of_ble_eq_true rfl) (by decide) rfl (DT.r (DT.r (DT.r DT.e))) (AsPs.here rfl (.nil)) fun g10 q11 => ?_
 refine RW.k XK 101 2 rfl ?_
 (conv=>whnf);refine ⟨rfl,?_⟩
 refine RW.nil ?_
 refine CW.keep 101 [2,4,5,15] rfl ?_;(conv=>whnf);refine ⟨?_⟩
 refine CW.seq ?_
 refine CW.region ?_
 refine RW.k XK 101 1 rfl ?_
 (conv=>whnf);refine ⟨rfl,?_⟩
 refine RW.callP (k := 15) (__impl_scan__number_fn (numS (oneS (oneS (oneS (⟨t, 0, false⟩ : scan))))) (numS_ok (oneS_ok (oneS_ok (oneS_ok (scan.ok0 ht)))))) rfl rfl (Nat.le_of_ble_eq_true rfl) (by decide) rfl (DT.r (DT.r (DT.r DT.e))) (AsPs.here rfl (.nil)) fun g12 q13 => ?_
 refine RW.k XK 101 2 rfl ?_
 (conv=>whnf);refine ⟨rfl,?_⟩
 refine RW.nil ?_
 refine CW.keep 101 [2,4,5,15] rfl ?_;(conv=>whnf);refine ⟨?_⟩
 refine CW.seq ?_
 refine CW.region ?_
 refine RW.k XK 101 1 rfl ?_
 (conv=>whnf);refine ⟨rfl,?_⟩
 refine RW.callP (k := 15) (__impl_scan__number_fn (numS (numS (oneS (oneS (oneS (⟨t, 0, false⟩ : scan)))))) (numS_ok (numS_ok (oneS_ok (oneS_ok (oneS_ok (scan.ok0 ht))))))) rfl rfl (Nat.le_of_ble_eq_true rfl) (by decide) rfl (DT.r (DT.r (DT.r DT.e))) (AsPs.here rfl (.nil)) fun g14 q15 => ?_
 refine RW.k XK 101 2 rfl ?_
 (conv=>whnf);refine ⟨rfl,?_⟩
 refine RW.nil ?_
 refine CW.keep 101 [2,4,5,15] rfl ?_;(conv=>whnf);refine ⟨?_⟩
 refine CW.seq ?_
 refine CW.region ?_
 refine RW.k XK 101 1 rfl ?_
 (conv=>whnf);refine ⟨rfl,?_⟩
 refine RW.callP (k := 15) (__impl_scan__number_fn (numS (numS (numS (oneS (oneS (oneS (⟨t, 0, false⟩ : scan))))))) (numS_ok (numS_ok (numS_ok (oneS_ok (oneS_ok (oneS_ok (scan.ok0 ht)))))))) rfl rfl (Nat.le_of_ble_eq_true rfl) (by decide) rfl (DT.r (DT.r (DT.r DT.e))) (AsPs.here rfl (.nil)) fun g16 q17 => ?_
 refine RW.k XK 101 2 rfl ?_
 (conv=>whnf);refine ⟨rfl,?_⟩
 refine RW.nil ?_
 refine CW.keep 101 [2,4,5,15] rfl ?_;(conv=>whnf);refine ⟨?_⟩
 refine CW.seq ?_
 refine CW.region ?_
 refine RW.k XK 101 1 rfl ?_
 (conv=>whnf);refine ⟨rfl,?_⟩
 refine RW.callP (k := 15) (__impl_scan__sign_fn (numS (numS (numS (numS (oneS (oneS (oneS (⟨t, 0, false⟩ : scan)))))))) (numS_ok (numS_ok (numS_ok (numS_ok (oneS_ok (oneS_ok (oneS_ok (scan.ok0 ht))))))))) rfl rfl (Nat.le_of_ble_eq_true rfl) (by decide) rfl (DT.r (DT.r (DT.r DT.e))) (AsPs.here rfl (.nil)) fun g18 q19 => ?_
 refine RW.k XK 101 2 rfl ?_
 (conv=>whnf);refine ⟨rfl,?_⟩
 refine RW.nil ?_
 refine CW.keep 101 [2,4,5,15] rfl ?_;(conv=>whnf);refine ⟨?_⟩
 refine CW.seq ?_
 refine CW.region ?_
 refine RW.k XK 101 1 rfl ?_
 (conv=>whnf);refine ⟨rfl,?_⟩
 refine RW.callP (k := 15) (__impl_scan__sign_fn (sgS (numS (numS (numS (numS (oneS (oneS (oneS (⟨t, 0, false⟩ : scan))))))))) (sgS_ok (numS_ok (numS_ok (numS_ok (numS_ok (oneS_ok (oneS_ok (oneS_ok (scan.ok0 ht)))))))))) rfl rfl (Nat.le_of_ble_eq_true rfl) (by decide) rfl (DT.r (DT.r (DT.r DT.e))) (AsPs.here rfl (.nil)) fun g20 q21 => ?_
 refine RW.k XK 101 2 rfl ?_
 (conv=>whnf);refine ⟨rfl,?_⟩
 refine RW.nil ?_
 refine CW.keep 101 [2,4,5,15] rfl ?_;(conv=>whnf);refine ⟨?_⟩
 refine CW.seq ?_
 refine CW.region ?_
 refine RW.k XK 101 1 rfl ?_
 (conv=>whnf);refine ⟨rfl,?_⟩
 refine RW.callP (k := 15) (__impl_scan__count_fn (sgS (sgS (numS (numS (numS (numS (oneS (oneS (oneS (⟨t, 0, false⟩ : scan)))))))))) 4 (sgS_ok (sgS_ok (numS_ok (numS_ok (numS_ok (numS_ok (oneS_ok (oneS_ok (oneS_ok (scan.ok0 ht))))))))))) rfl rfl (Nat.le_of_ble_eq_true rfl) (by decide) rfl (DT.r (DT.r (DT.r DT.e))) (AsPs.here rfl (.cons (.one (.r .r)) (.nil))) fun g22 q23 => ?_
 refine RW.k XK 101 1 rfl ?_
 (conv=>whnf);refine ⟨rfl,?_⟩
 refine RW.nil ?_
 refine CW.keep 101 [2,4,5,6,15] rfl ?_;(conv=>whnf);refine ⟨?_⟩
 refine CW.seq ?_
 refine CW.k XK 101 1 [2,4,5,15,46,47] rfl ?_
 (conv=>whnf);refine ⟨rfl,?_⟩
 refine CW.block ?_
 refine CW.nilCell 5 8 3 Entry.c rfl rfl ?_
 refine CW.loopI 101 (fun (zz : Nat × scan × List Entry × Value) => match zz with | (j, s, es, X) => [(2, .obj b1 [I 0, I 0, I 0, I 0, I 0, I 0, I 0, Bo false, .r (.v (.slice none 0 0)), .r (.v (.slice none 0 0)), S (⟨#[]⟩), Bo false]), (4, .pt 15 b2 0), (5, .obj b3 [I (oneV (⟨t, 0, false⟩ : scan)), I (oneV (oneS (⟨t, 0, false⟩ : scan))), I (oneV (oneS (oneS (⟨t, 0, false⟩ : scan)))), I (numV (oneS (oneS (oneS (⟨t, 0, false⟩ : scan))))), I (numV (numS (oneS (oneS (oneS (⟨t, 0, false⟩ : scan)))))), I (numV (numS (numS (oneS (oneS (oneS (⟨t, 0, false⟩ : scan))))))), I (numV (numS (numS (numS (oneS (oneS (oneS (⟨t, 0, false⟩ : scan)))))))), Bo (sgV (numS (numS (numS (numS (oneS (oneS (oneS (⟨t, 0, false⟩ : scan))))))))), .w (sl 3 Entry.c es) X, .r (.v (.slice none 0 0)), S (⟨#[]⟩), Bo (sgV (sgS (numS (numS (numS (numS (oneS (oneS (oneS (⟨t, 0, false⟩ : scan))))))))))]), (15, .obj b2 ((scan.c s).map .r)), (46, I (cntV (sgS (sgS (numS (numS (numS (numS (oneS (oneS (oneS (⟨t, 0, false⟩ : scan)))))))))) 4)), (47, I (j : Int))]) (fun (zz : Nat × scan × List Entry × Value) => match zz with | (j, s, es, X) => EiP t j s es) (fun (zz : Nat × scan × List Entry × Value) => match zz with | (j, s, es, X) => cntM t - j) (0, _, [], _) rfl (Le.c rfl <| Le.c rfl <| Le.c rfl <| Le.c rfl <| Le.c rfl <| Le.c rfl <| Le.e) (EiP.init ht) ?_
 rintro ⟨j, s, es, X⟩ hP
 refine CW.k XK 101 1 [2,4,5,15,46,47,48] rfl ?_
 (conv=>whnf);refine ⟨rfl,?_⟩
 refine CW.seq ?_
 refine CW.cond rfl (fun h24 => ?_) (fun h24 => ?_)
 ·skip
  have h9 : (j : Int) < cntV (h9S t) 4 := of_decide_eq_true h24
  have hj : j < cntM t := by rw [cntV_nat] at h9; omega
  refine CW.skip ?_
  refine CW.keep 101 [2,4,5,15,46,47] rfl ?_;(conv=>whnf);refine ⟨?_⟩
  refine CW.seq ?_
  refine CW.block ?_
  refine CW.seq ?_
  refine CW.region ?_
  refine RW.k XK 101 1 rfl ?_
  (conv=>whnf);refine ⟨rfl,?_⟩
  refine RW.callP (k := 15) (__impl_scan__short_fn s hP.ok) rfl rfl (Nat.le_of_ble_eq_true rfl) (by decide) rfl (DT.r (DT.r (DT.r DT.e))) (AsPs.here rfl (.nil)) fun g25 q26 => ?_
  refine RW.k XK 101 1 rfl ?_
  (conv=>whnf);refine ⟨rfl,?_⟩
  refine RW.nil ?_
  refine CW.keep 101 [2,4,5,7,15,46,47] rfl ?_;(conv=>whnf);refine ⟨?_⟩
  refine CW.seq ?_
  refine CW.region ?_
  refine RW.k XK 101 1 rfl ?_
  (conv=>whnf);refine ⟨rfl,?_⟩
  refine RW.call rfl (impl_ReadEntry_fn (shV s) (shV_size hP.ok)) rfl (.cons (.one (.r .r)) (.nil)) fun g27 => ?_
  refine RW.k XK 101 7 rfl ?_
  (conv=>whnf);intro b28;(conv=>whnf);refine ⟨rfl,?_⟩
  refine RW.freezeB (ts := (Entry.c ((rdEnt (shV s)).2.1))) 9 rfl (DRd.r (DRd.r (DRd.r DRd.e))) ?_
  refine RW.k XK 101 1 rfl ?_
  (conv=>whnf);refine ⟨rfl,?_⟩
  refine RW.nil ?_
  refine CW.keep 101 [2,4,5,8,9,10,15,46,47] rfl ?_;(conv=>whnf);refine ⟨?_⟩
  refine CW.seq ?_
  refine CW.seqJ 101 (fun (v29 : Bool) => [(2, .obj b1 [I 0, I 0, I 0, I 0, I 0, I 0, I 0, Bo false, .r (.v (.slice none 0 0)), .r (.v (.slice none 0 0)), S (⟨#[]⟩), Bo false]), (4, .pt 15 b2 0), (5, .obj b3 [I (oneV (⟨t, 0, false⟩ : scan)), I (oneV (oneS (⟨t, 0, false⟩ : scan))), I (oneV (oneS (oneS (⟨t, 0, false⟩ : scan)))), I (numV (oneS (oneS (oneS (⟨t, 0, false⟩ : scan))))), I (numV (numS (oneS (oneS (oneS (⟨t, 0, false⟩ : scan)))))), I (numV (numS (numS (oneS (oneS (oneS (⟨t, 0, false⟩ : scan))))))), I (numV (numS (numS (numS (oneS (oneS (oneS (⟨t, 0, false⟩ : scan)))))))), Bo (sgV (numS (numS (numS (numS (oneS (oneS (oneS (⟨t, 0, false⟩ : scan))))))))), .w (sl 3 Entry.c es) X, .r (.v (.slice none 0 0)), S (⟨#[]⟩), Bo (sgV (sgS (numS (numS (numS (numS (oneS (oneS (oneS (⟨t, 0, false⟩ : scan))))))))))]), (9, .rp (Entry.c ((rdEnt (shV s)).2.1))), (15, .obj b2 ((scan.c (shS s)).map .r)), (46, I (cntV (sgS (sgS (numS (numS (numS (numS (oneS (oneS (oneS (⟨t, 0, false⟩ : scan)))))))))) 4)), (47, I (j : Int)), (62, Bo v29)]) (fun v29 => v29 = ((!((rdEnt (shV s)).2.2)) || (((rdEnt (shV s)).1) != 1))) ?_ ?_
  ·refine CW.region ?_
   refine RW.k XK 101 3 rfl ?_
   (conv=>whnf);refine ⟨rfl,?_⟩
   refine RW.gv rfl rfl rfl rfl (fun h30 => V.mv (d := I ((rdEnt (shV s)).1)) rfl rfl) (fun h30 => ?_) (fun h30 => ?_)
   ·skip
    refine RW.k XK 101 2 rfl ?_
    (conv=>whnf);refine ⟨rfl,?_⟩
    refine RW.nil ?_
    exact ⟨_, by first | rfl | (simp_all; done) | (simp_all; omega) | grind, rfl, Le.of rfl⟩
   ·skip
    refine RW.k XK 101 2 rfl ?_
    (conv=>whnf);refine ⟨rfl,?_⟩
    refine RW.nil ?_
    exact ⟨_, by first | rfl | (simp_all; done) | (simp_all; omega) | grind, rfl, Le.of rfl⟩
  ·intro v29 hv31
   refine CW.cond rfl (fun h32 => ?_) (fun h32 => ?_)
   ·skip
    have hvv := hv31.symm.trans h32
    refine CW.k XK 101 1 [2,3] rfl ?_
    (conv=>whnf);refine ⟨rfl,?_⟩
    refine CW.ret ?_
    exact Post.tup (by decide) (RVs.c (RV.c (f := fun e => (Message.c e).map .w) (e' := (⟨0, 0, 0, 0, 0, 0, 0, false, [], [], ⟨#[]⟩, false⟩ : Message)) rfl rfl rfl rfl (DT.v (DT.v (DT.v (DT.v (DT.v (DT.v (DT.v (DT.v (DT.n (DT.n (DT.v (DT.v DT.e)))))))))))) (by rw [hP.no hj hvv] <;> rfl)) (RVs.c (RV.b rfl (by rw [hP.no hj hvv] <;> rfl)) RVs.e)) (AOs.r AOs.e)
   ·skip
    have hvv := hv31.symm.trans h32
    refine CW.skip ?_
    refine CW.keep 101 [2,4,5,9,15,46,47] rfl ?_;(conv=>whnf);refine ⟨?_⟩
    refine CW.region ?_
    refine RW.k XK 101 3 rfl ?_
    (conv=>whnf);refine ⟨rfl,?_⟩
    refine RW.build1 (c := Entry.c) (v := ((rdEnt (shV s)).2.1)) rfl rfl rfl rfl rfl rfl (DW.v (DW.v (DW.v DW.e))) Entry.len (by decide) (by decide) fun X33 => ?_
    refine RW.takeO 65 5 8 (by decide) rfl rfl rfl ?_
    refine RW.appendSR (c := Entry.c) (l1 := es) (l2 := [((rdEnt (shV s)).2.1)]) rfl rfl rfl rfl rfl rfl rfl rfl (.al (k := none) (i := 67) (sz := 3) (V := X33) rfl rfl nofun) (by decide) (Nat.le_of_ble_eq_true rfl) Entry.len (fun _ => rfl) rfl (by have h8 := cntM_le t; have h7 := hP.le; have h6 := hP.len; have h5 := shV_size hP.ok; first | (simp only [maxLen, List.length_singleton]; omega) | (rw [hl, bys_len]; simp only [maxLen, List.length_singleton]; omega)) (by have h8 := cntM_le t; have h7 := hP.le; have h6 := hP.len; have h5 := shV_size hP.ok; first | (simp only [maxLen, List.length_singleton]; omega) | (rw [hl, bys_len]; simp only [maxLen, List.length_singleton]; omega)) fun X34 => ?_
    refine RW.k XK 101 2 rfl ?_
    (conv=>whnf);refine ⟨rfl,?_⟩
    refine RW.keep 101 [2,4,5,15,46,47,68] rfl ?_;(conv=>whnf);refine ⟨?_⟩
    refine RW.pullT (k := 5) (l := 68) (j := 8) 5 68 8 rfl rfl rfl (by decide) rfl rfl rfl ?_
    refine RW.keep 101 [2,4,5,15,46,47] rfl ?_;(conv=>whnf);refine ⟨?_⟩
    refine RW.nil ?_
    refine CW.keep 101 [2,4,5,15,46,47] rfl ?_;(conv=>whnf);refine ⟨?_⟩
    refine CW.region ?_
    refine RW.v rfl (V.inc rfl rfl rfl hj (by have h8 := cntM_le t; simp only [maxLen]; omega)) ?_
    refine RW.k XK 101 1 rfl ?_
    (conv=>whnf);refine ⟨rfl,?_⟩
    refine RW.nil ?_
    exact ⟨(j + 1, _, _, _), by simp only []; omega, (hP.go hj hvv), rfl, Le.c rfl <| Le.c rfl <| Le.c rfl <| Le.c rfl <| Le.c rfl <| Le.c rfl <| Le.e⟩
 ·skip
  have h9 : ¬ (j : Int) < cntV (h9S t) 4 := of_decide_eq_false h24
  have hfe := hP.fin (by rw [cntV_nat] at h9; omega)
  refine CW.exit ?_
  refine CW.keep 101 [2,4,5,15] rfl ?_;(conv=>whnf);refine ⟨?_⟩
  refine CW.seq ?_
  refine CW.region ?_
  refine RW.k XK 101 1 rfl ?_
  (conv=>whnf);refine ⟨rfl,?_⟩
  refine RW.callP (k := 15) (__impl_scan__short_fn s hP.ok) rfl rfl (Nat.le_of_ble_eq_true rfl) (by decide) rfl (DT.r (DT.r (DT.r DT.e))) (AsPs.here rfl (.nil)) fun g35 q36 => ?_
  refine RW.k XK 101 1 rfl ?_
  (conv=>whnf);refine ⟨rfl,?_⟩
  refine RW.nil ?_
  refine CW.keep 101 [2,4,5,11,15] rfl ?_;(conv=>whnf);refine ⟨?_⟩
  refine CW.seq ?_
  refine CW.k XK 101 1 [2,4,5,11,12,15] rfl ?_
  (conv=>whnf);refine ⟨rfl,?_⟩
  refine CW.block ?_
  refine CW.nilCell 5 9 1 cI rfl rfl ?_
  refine CW.loopI 101 (fun (zz : Nat × List Int × Value) => match zz with | (i, l, Y) => [(2, .obj b1 [I 0, I 0, I 0, I 0, I 0, I 0, I 0, Bo false, .r (.v (.slice none 0 0)), .r (.v (.slice none 0 0)), S (⟨#[]⟩), Bo false]), (4, .pt 15 b2 0), (5, .obj b3 [I (oneV (⟨t, 0, false⟩ : scan)), I (oneV (oneS (⟨t, 0, false⟩ : scan))), I (oneV (oneS (oneS (⟨t, 0, false⟩ : scan)))), I (numV (oneS (oneS (oneS (⟨t, 0, false⟩ : scan))))), I (numV (numS (oneS (oneS (oneS (⟨t, 0, false⟩ : scan)))))), I (numV (numS (numS (oneS (oneS (oneS (⟨t, 0, false⟩ : scan))))))), I (numV (numS (numS (numS (oneS (oneS (oneS (⟨t, 0, false⟩ : scan)))))))), Bo (sgV (numS (numS (numS (numS (oneS (oneS (oneS (⟨t, 0, false⟩ : scan))))))))), .w (sl 3 Entry.c es) X, .w (sl 1 cI l) Y, S (⟨#[]⟩), Bo (sgV (sgS (numS (numS (numS (numS (oneS (oneS (oneS (⟨t, 0, false⟩ : scan))))))))))]), (11, S (shV s)), (12, I (i : Int)), (15, .obj b2 ((scan.c (shS s)).map .r))]) (fun (zz : Nat × List Int × Value) => match zz with | (i, l, Y) => i ≤ (shV s).size ∧ l = bys (shV s) i) (fun (zz : Nat × List Int × Value) => match zz with | (i, l, Y) => (shV s).size - i) (0, [], _) rfl (Le.c rfl <| Le.c rfl <| Le.c rfl <| Le.c rfl <| Le.c rfl <| Le.c rfl <| Le.e) ⟨by omega, rfl⟩ ?_
  rintro ⟨i, l, Y⟩ ⟨hb, hl⟩
  refine CW.seq ?_
  refine CW.k XK 101 1 [2,4,5,11,12,15,76] rfl ?_
  (conv=>whnf);refine ⟨rfl,?_⟩
  refine CW.cond rfl (fun h37 => ?_) (fun h37 => ?_)
  ·skip
   have hlt : i < (shV s).size := by simpa using h37
   refine CW.skip ?_
   refine CW.keep 101 [2,4,5,11,12,15] rfl ?_;(conv=>whnf);refine ⟨?_⟩
   refine CW.seq ?_
   refine CW.block ?_
   refine CW.anyR2 (fc := [(2, b1, [.int .i64 0, .int .i64 0, .int .i64 0, .int .i64 0, .int .i64 0, .int .i64 0, .int .i64 0, .bool false, .slice none 0 0, .slice none 0 0, .string (⟨#[]⟩), .bool false]), (15, b2, [.string ((shS s).text), .int .i64 ((shS s).at_), .bool ((shS s).bad)])]) (L0 := [(2, .obj b1 [I 0, I 0, I 0, I 0, I 0, I 0, I 0, Bo false, .r (.v (.slice none 0 0)), .r (.v (.slice none 0 0)), S (⟨#[]⟩), Bo false]), (4, .pt 15 b2 0), (11, S (shV s)), (12, I (i : Int)), (15, .obj b2 ((scan.c (shS s)).map .r))]) 101 (fun (zz : Value × Value) => match zz with | (Xo38_6_1, Xo38_7_1) => [(5, .obj b3 [I (oneV (⟨t, 0, false⟩ : scan)), I (oneV (oneS (⟨t, 0, false⟩ : scan))), I (oneV (oneS (oneS (⟨t, 0, false⟩ : scan)))), I (numV (oneS (oneS (oneS (⟨t, 0, false⟩ : scan))))), I (numV (numS (oneS (oneS (oneS (⟨t, 0, false⟩ : scan)))))), I (numV (numS (numS (oneS (oneS (oneS (⟨t, 0, false⟩ : scan))))))), I (numV (numS (numS (numS (oneS (oneS (oneS (⟨t, 0, false⟩ : scan)))))))), Bo (sgV (numS (numS (numS (numS (oneS (oneS (oneS (⟨t, 0, false⟩ : scan))))))))), .w (sl 3 Entry.c es) X, .w (sl 1 cI (l ++ ([(IntKind.i64.wrap (bat (shV s) i))]))) Xo38_7_1, S (⟨#[]⟩), Bo (sgV (sgS (numS (numS (numS (numS (oneS (oneS (oneS (⟨t, 0, false⟩ : scan))))))))))])]) (fun all hall f hf b0 hb K hK => ?_) ?_
   ·skip
    have ro38_5 : ∀ B, ∀ (Xo38_6_1 : Value), ∀ (Xo38_7_1 : Value), RA f E B all 0 (bt 10 1023) ⟨101, [(5, .obj b3 [I (oneV (⟨t, 0, false⟩ : scan)), I (oneV (oneS (⟨t, 0, false⟩ : scan))), I (oneV (oneS (oneS (⟨t, 0, false⟩ : scan)))), I (numV (oneS (oneS (oneS (⟨t, 0, false⟩ : scan))))), I (numV (numS (oneS (oneS (oneS (⟨t, 0, false⟩ : scan)))))), I (numV (numS (numS (oneS (oneS (oneS (⟨t, 0, false⟩ : scan))))))), I (numV (numS (numS (numS (oneS (oneS (oneS (⟨t, 0, false⟩ : scan)))))))), Bo (sgV (numS (numS (numS (numS (oneS (oneS (oneS (⟨t, 0, false⟩ : scan))))))))), .w (sl 3 Entry.c es) X, .w (sl 1 cI (l ++ ([(IntKind.i64.wrap (bat (shV s) i))]))) Xo38_7_1, S (⟨#[]⟩), Bo (sgV (sgS (numS (numS (numS (numS (oneS (oneS (oneS (⟨t, 0, false⟩ : scan))))))))))])] ++ b0⟩ K := by
     intro B Xo38_6_1 Xo38_7_1
     exact RA.of2 hall hf hb (RA.finH (Tell.of rfl) (by kernel_rfl) (hK (Xo38_6_1, Xo38_7_1) _ rfl (Le.of rfl)))
    have ro38_4 : ∀ B, ∀ (Xo38_6_1 : Value), ∀ (Xo38_7_1 : Value), RA f E B all 1 (bt 10 511) ⟨101, [(5, .obj b3 [I (oneV (⟨t, 0, false⟩ : scan)), I (oneV (oneS (⟨t, 0, false⟩ : scan))), I (oneV (oneS (oneS (⟨t, 0, false⟩ : scan)))), I (numV (oneS (oneS (oneS (⟨t, 0, false⟩ : scan))))), I (numV (numS (oneS (oneS (oneS (⟨t, 0, false⟩ : scan)))))), I (numV (numS (numS (oneS (oneS (oneS (⟨t, 0, false⟩ : scan))))))), I (numV (numS (numS (numS (oneS (oneS (oneS (⟨t, 0, false⟩ : scan)))))))), Bo (sgV (numS (numS (numS (numS (oneS (oneS (oneS (⟨t, 0, false⟩ : scan))))))))), .w (sl 3 Entry.c es) X, .u, S (⟨#[]⟩), Bo (sgV (sgS (numS (numS (numS (numS (oneS (oneS (oneS (⟨t, 0, false⟩ : scan))))))))))]), (86, .w (sl 1 cI (l ++ ([(IntKind.i64.wrap (bat (shV s) i))]))) Xo38_7_1), (87, .pt 5 b3 9)] ++ b0⟩ K := by
     intro B Xo38_6_1 Xo38_7_1
     refine RA.of2 hall hf hb (RA.stepH (L := [9]) (Tell.of rfl) (by kernel_rfl) (by simp) (RA.each ?_ (RA.each0)))
     ·skip
      refine RO.store (d := .al 86 none 1 ((l ++ ([(IntKind.i64.wrap (bat (shV s) i))])).length) Xo38_7_1 0) rfl rfl rfl rfl rfl rfl rfl rfl rfl (Nat.le_of_ble_eq_true rfl) rfl rfl ?_
      refine RA.keep 101 [2,4,5,11,12,15,86] rfl ?_;(conv=>whnf);refine ⟨?_⟩
      refine RA.pullT (k := 5) (l := 86) (j := 9) 5 86 9 rfl rfl rfl (by decide) rfl rfl rfl ?_
      refine RA.keep 101 [2,4,5,11,12,15] rfl ?_;(conv=>whnf);refine ⟨?_⟩
      exact RA.to2 hall hf hb (ro38_5 B Xo38_6_1 Xo38_7_1) rfl rfl (by kernel_rfl)
    have ro38_3 : ∀ B, ∀ (Xo38_6_1 : Value), RA f E B all 3 (bt 10 127) ⟨101, [(5, .obj b3 [I (oneV (⟨t, 0, false⟩ : scan)), I (oneV (oneS (⟨t, 0, false⟩ : scan))), I (oneV (oneS (oneS (⟨t, 0, false⟩ : scan)))), I (numV (oneS (oneS (oneS (⟨t, 0, false⟩ : scan))))), I (numV (numS (oneS (oneS (oneS (⟨t, 0, false⟩ : scan)))))), I (numV (numS (numS (oneS (oneS (oneS (⟨t, 0, false⟩ : scan))))))), I (numV (numS (numS (numS (oneS (oneS (oneS (⟨t, 0, false⟩ : scan)))))))), Bo (sgV (numS (numS (numS (numS (oneS (oneS (oneS (⟨t, 0, false⟩ : scan))))))))), .w (sl 3 Entry.c es) X, .w (sl 1 cI l) Y, S (⟨#[]⟩), Bo (sgV (sgS (numS (numS (numS (numS (oneS (oneS (oneS (⟨t, 0, false⟩ : scan))))))))))]), (80, .al 5 (some 9) 1 l.length Y 0), (85, .w (sl 1 cI ([(IntKind.i64.wrap (bat (shV s) i))])) Xo38_6_1)] ++ b0⟩ K := by
     intro B Xo38_6_1
     refine RA.of2 hall hf hb (RA.stepH (L := [7]) (Tell.of rfl) (by kernel_rfl) (by simp) (RA.each ?_ (RA.each0)))
     ·skip
      refine RO.takeO 80 5 9 (by decide) rfl rfl rfl ?_
      refine RO.appendSR (c := cI) (l1 := l) (l2 := [(IntKind.i64.wrap (bat (shV s) i))]) rfl rfl rfl rfl rfl rfl rfl rfl rfl rfl (.al (k := none) (i := 85) (sz := 1) (V := Xo38_6_1) rfl rfl nofun) (by decide) (Nat.le_of_ble_eq_true rfl) cI.len (fun _ => rfl) rfl (by have h8 := cntM_le t; have h7 := hP.le; have h6 := hP.len; have h5 := shV_size hP.ok; first | (simp only [maxLen, List.length_singleton]; omega) | (rw [hl, bys_len]; simp only [maxLen, List.length_singleton]; omega)) (by have h8 := cntM_le t; have h7 := hP.le; have h6 := hP.len; have h5 := shV_size hP.ok; first | (simp only [maxLen, List.length_singleton]; omega) | (rw [hl, bys_len]; simp only [maxLen, List.length_singleton]; omega)) fun Xo38_7_1 => ?_
      refine RA.fr XK 101 1 [8] (bt 10 511) rfl rfl (by kernel_rfl) (Tell.of rfl) ?_
      (conv=>whnf);refine ⟨rfl,fun B=>?_⟩
      exact RA.to2 hall hf hb (ro38_4 B Xo38_6_1 Xo38_7_1) rfl rfl (by kernel_rfl)
    have ro38_2 : ∀ B, ∀ (Xo38_6_1 : Value), RA f E B all 4 (bt 10 125) ⟨101, [(5, .obj b3 [I (oneV (⟨t, 0, false⟩ : scan)), I (oneV (oneS (⟨t, 0, false⟩ : scan))), I (oneV (oneS (oneS (⟨t, 0, false⟩ : scan)))), I (numV (oneS (oneS (oneS (⟨t, 0, false⟩ : scan))))), I (numV (numS (oneS (oneS (oneS (⟨t, 0, false⟩ : scan)))))), I (numV (numS (numS (oneS (oneS (oneS (⟨t, 0, false⟩ : scan))))))), I (numV (numS (numS (numS (oneS (oneS (oneS (⟨t, 0, false⟩ : scan)))))))), Bo (sgV (numS (numS (numS (numS (oneS (oneS (oneS (⟨t, 0, false⟩ : scan))))))))), .w (sl 3 Entry.c es) X, .w (sl 1 cI l) Y, S (⟨#[]⟩), Bo (sgV (sgS (numS (numS (numS (numS (oneS (oneS (oneS (⟨t, 0, false⟩ : scan))))))))))]), (79, .pt 5 b3 9), (85, .w (sl 1 cI ([(IntKind.i64.wrap (bat (shV s) i))])) Xo38_6_1)] ++ b0⟩ K := by
     intro B Xo38_6_1
     refine RA.of2 hall hf hb (RA.stepH (L := [1]) (Tell.of rfl) (by kernel_rfl) (by simp) (RA.each ?_ (RA.each0)))
     ·skip
      refine RO.v rfl rfl (V.loadPrim (d := .al 5 (some 9) 1 l.length Y 0) rfl rfl (.inr ⟨_, rfl⟩) rfl rfl rfl) rfl ?_
      exact RA.to2 hall hf hb (ro38_3 B Xo38_6_1) rfl rfl (by kernel_rfl)
    have ro38_1 : ∀ B, RA f E B all 4 (bt 10 63) ⟨101, [(5, .obj b3 [I (oneV (⟨t, 0, false⟩ : scan)), I (oneV (oneS (⟨t, 0, false⟩ : scan))), I (oneV (oneS (oneS (⟨t, 0, false⟩ : scan)))), I (numV (oneS (oneS (oneS (⟨t, 0, false⟩ : scan))))), I (numV (numS (oneS (oneS (oneS (⟨t, 0, false⟩ : scan)))))), I (numV (numS (numS (oneS (oneS (oneS (⟨t, 0, false⟩ : scan))))))), I (numV (numS (numS (numS (oneS (oneS (oneS (⟨t, 0, false⟩ : scan)))))))), Bo (sgV (numS (numS (numS (numS (oneS (oneS (oneS (⟨t, 0, false⟩ : scan))))))))), .w (sl 3 Entry.c es) X, .w (sl 1 cI l) Y, S (⟨#[]⟩), Bo (sgV (sgS (numS (numS (numS (numS (oneS (oneS (oneS (⟨t, 0, false⟩ : scan))))))))))]), (80, .al 5 (some 9) 1 l.length Y 0), (84, I (IntKind.i64.wrap (bat (shV s) i)))] ++ b0⟩ K := by
     intro B
     refine RA.of2 hall hf hb (RA.stepH (L := [6]) (Tell.of rfl) (by kernel_rfl) (by simp) (RA.each ?_ (RA.each0)))
     ·skip
      refine RO.build1c (c := cI) (v := (IntKind.i64.wrap (bat (shV s) i))) (u := .v (.int .i64 (IntKind.i64.wrap (bat (shV s) i)))) rfl rfl rfl rfl rfl rfl rfl rfl (.inl rfl) rfl rfl fun Xo38_6_1 => ?_
      exact RA.to2 hall hf hb (ro38_3 B Xo38_6_1) rfl rfl (by kernel_rfl)
    have ro38_0 : ∀ B, RA f E B all 5 (bt 10 61) ⟨101, [(5, .obj b3 [I (oneV (⟨t, 0, false⟩ : scan)), I (oneV (oneS (⟨t, 0, false⟩ : scan))), I (oneV (oneS (oneS (⟨t, 0, false⟩ : scan)))), I (numV (oneS (oneS (oneS (⟨t, 0, false⟩ : scan))))), I (numV (numS (oneS (oneS (oneS (⟨t, 0, false⟩ : scan)))))), I (numV (numS (numS (oneS (oneS (oneS (⟨t, 0, false⟩ : scan))))))), I (numV (numS (numS (numS (oneS (oneS (oneS (⟨t, 0, false⟩ : scan)))))))), Bo (sgV (numS (numS (numS (numS (oneS (oneS (oneS (⟨t, 0, false⟩ : scan))))))))), .w (sl 3 Entry.c es) X, .w (sl 1 cI l) Y, S (⟨#[]⟩), Bo (sgV (sgS (numS (numS (numS (numS (oneS (oneS (oneS (⟨t, 0, false⟩ : scan))))))))))]), (79, .pt 5 b3 9), (84, I (IntKind.i64.wrap (bat (shV s) i)))] ++ b0⟩ K := by
     intro B
     refine RA.of2 hall hf hb (RA.stepH (L := [1, 6]) (Tell.of rfl) (by kernel_rfl) (by simp) (RA.each ?_ (RA.each ?_ (RA.each0))))
     ·skip
      refine RO.v rfl rfl (V.loadPrim (d := .al 5 (some 9) 1 l.length Y 0) rfl rfl (.inr ⟨_, rfl⟩) rfl rfl rfl) rfl ?_
      exact RA.to2 hall hf hb (ro38_1 B) rfl rfl (by kernel_rfl)
     ·skip
      refine RO.build1c (c := cI) (v := (IntKind.i64.wrap (bat (shV s) i))) (u := .v (.int .i64 (IntKind.i64.wrap (bat (shV s) i)))) rfl rfl rfl rfl rfl rfl rfl rfl (.inl rfl) rfl rfl fun Xo38_6_1 => ?_
      exact RA.to2 hall hf hb (ro38_2 B Xo38_6_1) rfl rfl (by kernel_rfl)
    refine RA.start (by kernel_rfl) (by kernel_rfl) (m := 10) (ls' := (bt 10 0)) ?_
    refine RA.fr XK 101 7 [0,2,3] (bt 10 13) rfl rfl (by kernel_rfl) (Tell.of rfl) ?_
    (conv=>whnf);refine ⟨rfl,fun B=>?_⟩
    refine RA.first (i := 4) (ls' := (bt 10 29)) (Tell.of rfl) (by kernel_rfl) rfl rfl rfl (VF.p (V.idxStr (m := i) rfl (by kernel_rfl) rfl rfl hlt)) ?_
    refine RA.fr XK 101 5 [5] (bt 10 61) rfl rfl (by kernel_rfl) (Tell.of rfl) ?_
    (conv=>whnf);refine ⟨rfl,fun B=>?_⟩
    exact RA.to2 hall hf hb (ro38_0 B) rfl rfl (by kernel_rfl)
   ·rintro ⟨Xo38_6_1, Xo38_7_1⟩
    refine CW.keep 101 [2,4,5,11,12,15] rfl ?_;(conv=>whnf);refine ⟨?_⟩
    refine CW.region ?_
    refine RW.k XK 101 1 rfl ?_
    (conv=>whnf);refine ⟨rfl,?_⟩
    refine RW.v rfl (V.inc rfl rfl rfl hlt (by have h8 := shV_size hP.ok; simp only [maxLen]; omega)) ?_
    refine RW.k XK 101 1 rfl ?_
    (conv=>whnf);refine ⟨rfl,?_⟩
    refine RW.nil ?_
    exact ⟨(i + 1, _, _), by simp only []; omega, ⟨by omega, by rw [hl, bys_succ]⟩, rfl, Le.c rfl <| Le.c rfl <| Le.c rfl <| Le.c rfl <| Le.c rfl <| Le.c rfl <| Le.e⟩
  ·skip
   have hge : i = (shV s).size := by have h9 := of_decide_eq_false h37; omega
   have hl2 : l = bys (shV s) (shV s).size := by rw [hl, hge]
   refine CW.exit ?_
   refine CW.keep 101 [2,4,5,15] rfl ?_;(conv=>whnf);refine ⟨?_⟩
   refine CW.seq ?_
   refine CW.region ?_
   refine RW.k XK 101 1 rfl ?_
   (conv=>whnf);refine ⟨rfl,?_⟩
   refine RW.callP (k := 15) (__impl_scan__short_fn (shS s) (shS_ok hP.ok)) rfl rfl (Nat.le_of_ble_eq_true rfl) (by decide) rfl (DT.r (DT.r (DT.r DT.e))) (AsPs.here rfl (.nil)) fun g39 q40 => ?_
   refine RW.k XK 101 2 rfl ?_
   (conv=>whnf);refine ⟨rfl,?_⟩
   refine RW.nil ?_
   refine CW.keep 101 [2,4,5,15] rfl ?_;(conv=>whnf);refine ⟨?_⟩
   refine CW.seq ?_
   refine CW.seqJ 101 (fun (v41 : Bool) => [(2, .obj b1 [I 0, I 0, I 0, I 0, I 0, I 0, I 0, Bo false, .r (.v (.slice none 0 0)), .r (.v (.slice none 0 0)), S (⟨#[]⟩), Bo false]), (5, .obj b3 [I (oneV (⟨t, 0, false⟩ : scan)), I (oneV (oneS (⟨t, 0, false⟩ : scan))), I (oneV (oneS (oneS (⟨t, 0, false⟩ : scan)))), I (numV (oneS (oneS (oneS (⟨t, 0, false⟩ : scan))))), I (numV (numS (oneS (oneS (oneS (⟨t, 0, false⟩ : scan)))))), I (numV (numS (numS (oneS (oneS (oneS (⟨t, 0, false⟩ : scan))))))), I (numV (numS (numS (numS (oneS (oneS (oneS (⟨t, 0, false⟩ : scan)))))))), Bo (sgV (numS (numS (numS (numS (oneS (oneS (oneS (⟨t, 0, false⟩ : scan))))))))), .w (sl 3 Entry.c es) X, .w (sl 1 cI l) Y, S (shV (shS s)), Bo (sgV (sgS (numS (numS (numS (numS (oneS (oneS (oneS (⟨t, 0, false⟩ : scan))))))))))]), (98, Bo v41)]) (fun v41 => v41 = ((!(doneB (shS (shS s)))) || (!(msgOk (⟨(oneV (⟨t, 0, false⟩ : scan)), (oneV (oneS (⟨t, 0, false⟩ : scan))), (oneV (oneS (oneS (⟨t, 0, false⟩ : scan)))), (numV (oneS (oneS (oneS (⟨t, 0, false⟩ : scan))))), (numV (numS (oneS (oneS (oneS (⟨t, 0, false⟩ : scan)))))), (numV (numS (numS (oneS (oneS (oneS (⟨t, 0, false⟩ : scan))))))), (numV (numS (numS (numS (oneS (oneS (oneS (⟨t, 0, false⟩ : scan)))))))), (sgV (numS (numS (numS (numS (oneS (oneS (oneS (⟨t, 0, false⟩ : scan))))))))), es, l, (shV (shS s)), (sgV (sgS (numS (numS (numS (numS (oneS (oneS (oneS (⟨t, 0, false⟩ : scan))))))))))⟩ : Message))))) ?_ ?_
   ·refine CW.region ?_
    refine RW.k XK 101 1 rfl ?_
    (conv=>whnf);refine ⟨rfl,?_⟩
    refine RW.callOwn rfl (__impl_scan__done_fn (shS (shS s))) rfl (.cons (.one (.r (.pt rfl rfl (DRd.r (DRd.r (DRd.r DRd.e))) nofun))) (.nil)) rfl fun g42 => ?_
    refine RW.k XK 101 2 rfl ?_
    (conv=>whnf);refine ⟨rfl,?_⟩
    refine RW.gv rfl rfl rfl rfl (fun h43 => V.loadAgg rfl rfl rfl rfl rfl (Nat.le_of_ble_eq_true rfl)) (fun h43 => ?_) (fun h43 => ?_)
    ·skip
     refine RW.gcallOwn rfl rfl rfl rfl (impl_MessageOk_fn (⟨(oneV (⟨t, 0, false⟩ : scan)), (oneV (oneS (⟨t, 0, false⟩ : scan))), (oneV (oneS (oneS (⟨t, 0, false⟩ : scan)))), (numV (oneS (oneS (oneS (⟨t, 0, false⟩ : scan))))), (numV (numS (oneS (oneS (oneS (⟨t, 0, false⟩ : scan)))))), (numV (numS (numS (oneS (oneS (oneS (⟨t, 0, false⟩ : scan))))))), (numV (numS (numS (numS (oneS (oneS (oneS (⟨t, 0, false⟩ : scan)))))))), (sgV (numS (numS (numS (numS (oneS (oneS (oneS (⟨t, 0, false⟩ : scan))))))))), es, l, (shV (shS s)), (sgV (sgS (numS (numS (numS (numS (oneS (oneS (oneS (⟨t, 0, false⟩ : scan))))))))))⟩ : Message) (by rw [hl2]; exact tail_ok hP)) rfl (.cons (.agg (.cons (.r .r) (.cons (.r .r) (.cons (.r .r) (.cons (.r .r) (.cons (.r .r) (.cons (.r .r) (.cons (.r .r) (.cons (.r .r) (.cons (.r (.alo (k := none) (i := 5) (j := 8) (sz := 3) (V := X) rfl rfl rfl nofun)) (.cons (.r (.alo (k := none) (i := 5) (j := 9) (sz := 1) (V := Y) rfl rfl rfl nofun)) (.cons (.r .r) (.cons (.r .r) (.nil)))))))))))))) (.nil)) rfl fun g44 => ?_
     refine RW.k XK 101 2 rfl ?_
     (conv=>whnf);refine ⟨rfl,?_⟩
     refine RW.nil ?_
     exact ⟨_, by first | rfl | (simp_all; done) | (simp_all; omega) | grind, rfl, Le.of rfl⟩
    ·skip
     refine RW.k XK 101 3 rfl ?_
     (conv=>whnf);refine ⟨rfl,?_⟩
     refine RW.nil ?_
     exact ⟨_, by first | rfl | (simp_all; done) | (simp_all; omega) | grind, rfl, Le.of rfl⟩
   ·intro v41 hv45
    refine CW.cond rfl (fun h46 => ?_) (fun h46 => ?_)
    ·skip
     have hvv := hv45.symm.trans h46
     have hvt : tailC t (es, s) = true := by have h9 := hv45.symm.trans h46; rw [hl2] at h9; exact h9
     refine CW.k XK 101 1 [2,3] rfl ?_
     (conv=>whnf);refine ⟨rfl,?_⟩
     refine CW.ret ?_
     exact Post.tup (by decide) (RVs.c (RV.c (f := fun e => (Message.c e).map .w) (e' := (⟨0, 0, 0, 0, 0, 0, 0, false, [], [], ⟨#[]⟩, false⟩ : Message)) rfl rfl rfl rfl (DT.v (DT.v (DT.v (DT.v (DT.v (DT.v (DT.v (DT.v (DT.n (DT.n (DT.v (DT.v DT.e)))))))))))) (by rw [rd_end hfe hvt] <;> rfl)) (RVs.c (RV.b rfl (by rw [rd_end hfe hvt] <;> rfl)) RVs.e)) (AOs.r AOs.e)
    ·skip
     have hvv := hv45.symm.trans h46
     have hvt : tailC t (es, s) = false := by have h9 := hv45.symm.trans h46; rw [hl2] at h9; exact h9
     refine CW.skip ?_
     refine CW.keep 101 [2,5] rfl ?_;(conv=>whnf);refine ⟨?_⟩
     refine CW.seq ?_
     refine CW.region ?_
     refine RW.k XK 101 2 rfl ?_
     (conv=>whnf);refine ⟨rfl,?_⟩
     refine RW.keep 101 [2,5] rfl ?_;(conv=>whnf);refine ⟨?_⟩
     refine RW.pullO (k := 2) (l := 5) (j := 8) 2 5 8 rfl rfl rfl (by decide) rfl rfl rfl rfl ?_
     refine RW.keep 101 [2,5] rfl ?_;(conv=>whnf);refine ⟨?_⟩
     refine RW.pullO (k := 2) (l := 5) (j := 9) 2 5 9 rfl rfl rfl (by decide) rfl rfl rfl rfl ?_
     refine RW.keep 101 [2,5] rfl ?_;(conv=>whnf);refine ⟨?_⟩
     refine RW.k XK 101 1 rfl ?_
     (conv=>whnf);refine ⟨rfl,?_⟩
     refine RW.nil ?_
     refine CW.keep 101 [2,3] rfl ?_;(conv=>whnf);refine ⟨?_⟩
     refine CW.ret ?_
     exact Post.tup (by decide) (RVs.c (RV.c (f := fun e => (Message.c e).map .w) (e' := (⟨(oneV (⟨t, 0, false⟩ : scan)), (oneV (oneS (⟨t, 0, false⟩ : scan))), (oneV (oneS (oneS (⟨t, 0, false⟩ : scan)))), (numV (oneS (oneS (oneS (⟨t, 0, false⟩ : scan))))), (numV (numS (oneS (oneS (oneS (⟨t, 0, false⟩ : scan)))))), (numV (numS (numS (oneS (oneS (oneS (⟨t, 0, false⟩ : scan))))))), (numV (numS (numS (numS (oneS (oneS (oneS (⟨t, 0, false⟩ : scan)))))))), (sgV (numS (numS (numS (numS (oneS (oneS (oneS (⟨t, 0, false⟩ : scan))))))))), es, l, (shV (shS s)), (sgV (sgS (numS (numS (numS (numS (oneS (oneS (oneS (⟨t, 0, false⟩ : scan))))))))))⟩ : Message)) rfl rfl rfl rfl (DT.v (DT.v (DT.v (DT.v (DT.v (DT.v (DT.v (DT.v (DT.w (DT.w (DT.v (DT.v DT.e)))))))))))) (by rw [rd_end hfe hvt, hl2] <;> rfl)) (RVs.c (RV.b rfl (by rw [rd_end hfe hvt] <;> rfl)) RVs.e)) (AOs.r AOs.e)
set_option maxHeartbeats 4000000 in
theorem spec_Decode_fn (t : ByteArray) (ht : t.size ≤ 1048576) : Eng.Fn E.P 5 [.one (.r (.v (.string t)))] (.tup [.agg ((Message.c ((rdMsg t).1)).map .r), .one (.w (.v (.bool ((rdMsg t).2))))]) [.one (.r (.v (.string t)))] := by
 refine Eng.Fn.intro (E := E) (rvs := [.cell 2 25, .tmp 3]) Try.func5 rfl rfl rfl (by simp [outSlots, moved, rvSlot, sl]) ?_
 intro B g bo
 refine CW.keep 115 [0] rfl ?_;(conv=>whnf);refine ⟨?_⟩
 have hc0 := c0_ok ht
 have hc1 : (g1C t).sc.ok := tkC_ok hc0 (by omega)
 have hc5 : (g5C t).sc.ok := numC_ok (numC_ok (numC_ok (numC_ok hc1)))
 have hc6 : (tkC (g5C t) 1).sc.ok := tkC_ok hc5 (by omega)
 have hc7 : (g7C t).sc.ok := g7_ok ht
 refine CW.k XK 115 2 [0,2,4,16] rfl ?_
 (conv=>whnf);intro b1;(conv=>whnf);intro b2;(conv=>whnf);refine ⟨rfl,?_⟩
 refine CW.seq ?_
 refine CW.region ?_
 refine RW.k XK 115 1 rfl ?_
 (conv=>whnf);refine ⟨rfl,?_⟩
 refine RW.callP (k := 16) (spec_l05Take_fn (⟨t, 0, false⟩ : l05Cur) 3 hc0 (by omega)) rfl rfl (Nat.le_of_ble_eq_true rfl) (by decide) rfl (DT.r (DT.r (DT.r DT.e))) (AsPs.here rfl (.cons (.one (.r .r)) (.nil))) fun g3 q4 => ?_
 refine RW.k XK 115 1 rfl ?_
 (conv=>whnf);refine ⟨rfl,?_⟩
 refine RW.nil ?_
 refine CW.keep 115 [0,2,4,5,16] rfl ?_;(conv=>whnf);refine ⟨?_⟩
 refine CW.seq ?_
 refine CW.k XK 115 1 [0,2,4,5,16,22] rfl ?_
 (conv=>whnf);refine ⟨rfl,?_⟩
 refine CW.cond rfl (fun h5 => ?_) (fun h5 => ?_)
 ·skip
  have hbd : (g1C t).bad = true := h5
  refine CW.k XK 115 1 [2,3] rfl ?_
  (conv=>whnf);refine ⟨rfl,?_⟩
  refine CW.ret ?_
  exact Post.tup (by decide) (RVs.c (RV.c (f := fun e => (Message.c e).map .r) (e' := (⟨0, 0, 0, 0, 0, 0, 0, false, [], [], ⟨#[]⟩, false⟩ : Message)) rfl rfl rfl rfl (DT.r (DT.r (DT.r (DT.r (DT.r (DT.r (DT.r (DT.r (DT.nr (DT.nr (DT.r (DT.r DT.e)))))))))))) (by rw [rdS_bad0 ht hbd] <;> rfl)) (RVs.c (RV.b rfl (by rw [rdS_bad0 ht hbd] <;> rfl)) RVs.e)) (AOs.r AOs.e)
 ·skip
  have hbd : (g1C t).bad = false := h5
  have hsz : (tkW (⟨t, 0, false⟩ : l05Cur) 3).size = 3 := hd_size ht hbd
  refine CW.skip ?_
  refine CW.keep 115 [0,2,4,5,16] rfl ?_;(conv=>whnf);refine ⟨?_⟩
  refine CW.anyJ2 (fc := [(2, b1, [.int .i64 0, .int .i64 0, .int .i64 0, .int .i64 0, .int .i64 0, .int .i64 0, .int .i64 0, .bool false, .slice none 0 0, .slice none 0 0, .string (⟨#[]⟩), .bool false]), (16, b2, [.string ((tkC (⟨t, 0, false⟩ : l05Cur) 3).text), .int .i64 ((tkC (⟨t, 0, false⟩ : l05Cur) 3).at_), .bool ((tkC (⟨t, 0, false⟩ : l05Cur) 3).bad)])]) (L0 := [(0, S t), (2, .obj b1 [I 0, I 0, I 0, I 0, I 0, I 0, I 0, Bo false, .r (.v (.slice none 0 0)), .r (.v (.slice none 0 0)), S (⟨#[]⟩), Bo false]), (4, .pt 16 b2 0), (16, .obj b2 ((l05Cur.c (tkC (⟨t, 0, false⟩ : l05Cur) 3)).map .r))]) 115 (fun (bo6_10_1 : Nat) => [(6, .obj bo6_10_1 [I (IntKind.i64.wrap (bat (tkW (⟨t, 0, false⟩ : l05Cur) 3) 0)), I (IntKind.i64.wrap (bat (tkW (⟨t, 0, false⟩ : l05Cur) 3) 1)), I (IntKind.i64.wrap (bat (tkW (⟨t, 0, false⟩ : l05Cur) 3) 2)), I 0, I 0, I 0, I 0, Bo false, .r (.v (.slice none 0 0)), .r (.v (.slice none 0 0)), S (⟨#[]⟩), Bo false])]) (fun all hall f hf b0 hb K hK => ?_) ?_
  ·skip
   have ro6_2 : ∀ B, ∀ (bo6_10_1 : Nat), RA f E B all 0 (bt 12 4095) ⟨115, [(6, .obj bo6_10_1 [I (IntKind.i64.wrap (bat (tkW (⟨t, 0, false⟩ : l05Cur) 3) 0)), I (IntKind.i64.wrap (bat (tkW (⟨t, 0, false⟩ : l05Cur) 3) 1)), I (IntKind.i64.wrap (bat (tkW (⟨t, 0, false⟩ : l05Cur) 3) 2)), I 0, I 0, I 0, I 0, Bo false, .r (.v (.slice none 0 0)), .r (.v (.slice none 0 0)), S (⟨#[]⟩), Bo false])] ++ b0⟩ K := by
    intro B bo6_10_1
    exact RA.of2 hall hf hb (RA.finH (Tell.of rfl) (by kernel_rfl) (hK bo6_10_1 _ rfl (Le.of rfl)))
   have ro6_1 : ∀ B, ∀ (bo6_10_1 : Nat), RA f E B all 1 (bt 12 2047) ⟨115, [(6, .obj bo6_10_1 [I 0, I 0, I 0, I 0, I 0, I 0, I 0, Bo false, .r (.v (.slice none 0 0)), .r (.v (.slice none 0 0)), S (⟨#[]⟩), Bo false]), (33, .agg [I (IntKind.i64.wrap (bat (tkW (⟨t, 0, false⟩ : l05Cur) 3) 0)), I (IntKind.i64.wrap (bat (tkW (⟨t, 0, false⟩ : l05Cur) 3) 1)), I (IntKind.i64.wrap (bat (tkW (⟨t, 0, false⟩ : l05Cur) 3) 2)), I 0, I 0, I 0, I 0, Bo false, .r (.v (.slice none 0 0)), .r (.v (.slice none 0 0)), S (⟨#[]⟩), Bo false])] ++ b0⟩ K := by
    intro B bo6_10_1
    refine RA.of2 hall hf hb (RA.stepH (L := [11]) (Tell.of rfl) (by kernel_rfl) (by simp) (RA.each ?_ (RA.each0)))
    ·skip
     refine RO.storeAgg (es := [I (IntKind.i64.wrap (bat (tkW (⟨t, 0, false⟩ : l05Cur) 3) 0)), I (IntKind.i64.wrap (bat (tkW (⟨t, 0, false⟩ : l05Cur) 3) 1)), I (IntKind.i64.wrap (bat (tkW (⟨t, 0, false⟩ : l05Cur) 3) 2)), I 0, I 0, I 0, I 0, Bo false, .r (.v (.slice none 0 0)), .r (.v (.slice none 0 0)), S (⟨#[]⟩), Bo false]) rfl rfl rfl rfl rfl rfl rfl rfl rfl rfl (Nat.le_of_ble_eq_true rfl) rfl ?_
     exact RA.to2 hall hf hb (ro6_2 B bo6_10_1) rfl rfl (by kernel_rfl)
   have ro6_0 : ∀ B, RA f E B all 2 (bt 12 1023) ⟨115, [(33, .agg [I (IntKind.i64.wrap (bat (tkW (⟨t, 0, false⟩ : l05Cur) 3) 0)), I (IntKind.i64.wrap (bat (tkW (⟨t, 0, false⟩ : l05Cur) 3) 1)), I (IntKind.i64.wrap (bat (tkW (⟨t, 0, false⟩ : l05Cur) 3) 2)), I 0, I 0, I 0, I 0, Bo false, .r (.v (.slice none 0 0)), .r (.v (.slice none 0 0)), S (⟨#[]⟩), Bo false])] ++ b0⟩ K := by
    intro B
    refine RA.of2 hall hf hb (RA.stepH (L := [10]) (Tell.of rfl) (by kernel_rfl) (by simp) (RA.each ?_ (RA.each0)))
    ·skip
     refine RO.alloc (ds := [I 0, I 0, I 0, I 0, I 0, I 0, I 0, Bo false, .r (.v (.slice none 0 0)), .r (.v (.slice none 0 0)), S (⟨#[]⟩), Bo false]) rfl rfl rfl rfl rfl rfl fun bo6_10_1 => ?_
     exact RA.to2 hall hf hb (ro6_1 B bo6_10_1) rfl rfl (by kernel_rfl)
   refine RA.start (by kernel_rfl) (by kernel_rfl) (m := 12) (ls' := (bt 12 0)) ?_
   refine RA.fr XK 115 11 [0] (bt 12 1) rfl rfl (by kernel_rfl) (Tell.of rfl) ?_
   (conv=>whnf);refine ⟨rfl,fun B=>?_⟩
   refine RA.first (i := 1) (ls' := (bt 12 3)) (Tell.of rfl) (by kernel_rfl) rfl rfl rfl (VF.p (V.idxStr (m := 0) rfl (by kernel_rfl) rfl rfl (by omega))) ?_
   refine RA.fr XK 115 8 [2,3] (bt 12 15) rfl rfl (by kernel_rfl) (Tell.of rfl) ?_
   (conv=>whnf);refine ⟨rfl,fun B=>?_⟩
   refine RA.first (i := 4) (ls' := (bt 12 31)) (Tell.of rfl) (by kernel_rfl) rfl rfl rfl (VF.p (V.idxStr (m := 1) rfl (by kernel_rfl) rfl rfl (by omega))) ?_
   refine RA.fr XK 115 5 [5,6] (bt 12 127) rfl rfl (by kernel_rfl) (Tell.of rfl) ?_
   (conv=>whnf);refine ⟨rfl,fun B=>?_⟩
   refine RA.first (i := 7) (ls' := (bt 12 255)) (Tell.of rfl) (by kernel_rfl) rfl rfl rfl (VF.p (V.idxStr (m := 2) rfl (by kernel_rfl) rfl rfl (by omega))) ?_
   refine RA.fr XK 115 2 [8,9] (bt 12 1023) rfl rfl (by kernel_rfl) (Tell.of rfl) ?_
   (conv=>whnf);refine ⟨rfl,fun B=>?_⟩
   exact RA.to2 hall hf hb (ro6_0 B) rfl rfl (by kernel_rfl)
  ·rintro bo6_10_1
   refine CW.seq ?_
   refine CW.region ?_
   refine RW.k XK 115 1 rfl ?_
   (conv=>whnf);refine ⟨rfl,?_⟩
   refine RW.callP (k := 16) (spec_l05Var_fn (tkC (⟨t, 0, false⟩ : l05Cur) 3) hc1) rfl rfl (Nat.le_of_ble_eq_true rfl) (by decide) rfl (DT.r (DT.r (DT.r DT.e))) (AsPs.here rfl (.nil)) fun g7 q8 => ?_
   refine RW.k XK 115 2 rfl ?_
   (conv=>whnf);refine ⟨rfl,?_⟩
   refine RW.nil ?_
   refine CW.keep 115 [0,2,4,6,16] rfl ?_;(conv=>whnf);refine ⟨?_⟩
   refine CW.seq ?_
   refine CW.region ?_
   refine RW.k XK 115 1 rfl ?_
   (conv=>whnf);refine ⟨rfl,?_⟩
   refine RW.callP (k := 16) (spec_l05Var_fn (numC (tkC (⟨t, 0, false⟩ : l05Cur) 3)) (numC_ok hc1)) rfl rfl (Nat.le_of_ble_eq_true rfl) (by decide) rfl (DT.r (DT.r (DT.r DT.e))) (AsPs.here rfl (.nil)) fun g9 q10 => ?_
   refine RW.k XK 115 2 rfl ?_
   (conv=>whnf);refine ⟨rfl,?_⟩
   refine RW.nil ?_
   refine CW.keep 115 [0,2,4,6,16] rfl ?_;(conv=>whnf);refine ⟨?_⟩
   refine CW.seq ?_
   refine CW.region ?_
   refine RW.k XK 115 1 rfl ?_
   (conv=>whnf);refine ⟨rfl,?_⟩
   refine RW.callP (k := 16) (spec_l05Var_fn (numC (numC (tkC (⟨t, 0, false⟩ : l05Cur) 3))) (numC_ok (numC_ok hc1))) rfl rfl (Nat.le_of_ble_eq_true rfl) (by decide) rfl (DT.r (DT.r (DT.r DT.e))) (AsPs.here rfl (.nil)) fun g11 q12 => ?_
   refine RW.k XK 115 2 rfl ?_
   (conv=>whnf);refine ⟨rfl,?_⟩
   refine RW.nil ?_
   refine CW.keep 115 [0,2,4,6,16] rfl ?_;(conv=>whnf);refine ⟨?_⟩
   refine CW.seq ?_
   refine CW.region ?_
   refine RW.k XK 115 1 rfl ?_
   (conv=>whnf);refine ⟨rfl,?_⟩
   refine RW.callP (k := 16) (spec_l05Var_fn (numC (numC (numC (tkC (⟨t, 0, false⟩ : l05Cur) 3)))) (numC_ok (numC_ok (numC_ok hc1)))) rfl rfl (Nat.le_of_ble_eq_true rfl) (by decide) rfl (DT.r (DT.r (DT.r DT.e))) (AsPs.here rfl (.nil)) fun g13 q14 => ?_
   refine RW.k XK 115 2 rfl ?_
   (conv=>whnf);refine ⟨rfl,?_⟩
   refine RW.nil ?_
   refine CW.keep 115 [0,2,4,6,16] rfl ?_;(conv=>whnf);refine ⟨?_⟩
   refine CW.seq ?_
   refine CW.region ?_
   refine RW.k XK 115 1 rfl ?_
   (conv=>whnf);refine ⟨rfl,?_⟩
   refine RW.callP (k := 16) (spec_l05Take_fn (numC (numC (numC (numC (tkC (⟨t, 0, false⟩ : l05Cur) 3))))) 1 hc5 (by omega)) rfl rfl (Nat.le_of_ble_eq_true rfl) (by decide) rfl (DT.r (DT.r (DT.r DT.e))) (AsPs.here rfl (.cons (.one (.r .r)) (.nil))) fun g15 q16 => ?_
   refine RW.k XK 115 3 rfl ?_
   (conv=>whnf);refine ⟨rfl,?_⟩
   refine RW.nil ?_
   refine CW.keep 115 [0,2,4,6,16] rfl ?_;(conv=>whnf);refine ⟨?_⟩
   refine CW.seq ?_
   refine CW.region ?_
   refine RW.k XK 115 1 rfl ?_
   (conv=>whnf);refine ⟨rfl,?_⟩
   refine RW.callP (k := 16) (spec_l05Take_fn (tkC (numC (numC (numC (numC (tkC (⟨t, 0, false⟩ : l05Cur) 3))))) 1) 1 hc6 (by omega)) rfl rfl (Nat.le_of_ble_eq_true rfl) (by decide) rfl (DT.r (DT.r (DT.r DT.e))) (AsPs.here rfl (.cons (.one (.r .r)) (.nil))) fun g17 q18 => ?_
   refine RW.k XK 115 3 rfl ?_
   (conv=>whnf);refine ⟨rfl,?_⟩
   refine RW.nil ?_
   refine CW.keep 115 [0,2,4,6,16] rfl ?_;(conv=>whnf);refine ⟨?_⟩
   refine CW.seq ?_
   refine CW.region ?_
   refine RW.k XK 115 1 rfl ?_
   (conv=>whnf);refine ⟨rfl,?_⟩
   refine RW.callP (k := 16) (spec_l05Var_fn (tkC (tkC (numC (numC (numC (numC (tkC (⟨t, 0, false⟩ : l05Cur) 3))))) 1) 1) hc7) rfl rfl (Nat.le_of_ble_eq_true rfl) (by decide) rfl (DT.r (DT.r (DT.r DT.e))) (AsPs.here rfl (.nil)) fun g19 q20 => ?_
   refine RW.k XK 115 1 rfl ?_
   (conv=>whnf);refine ⟨rfl,?_⟩
   refine RW.nil ?_
   refine CW.keep 115 [0,2,4,6,7,16] rfl ?_;(conv=>whnf);refine ⟨?_⟩
   refine CW.seq ?_
   refine CW.k XK 115 1 [0,2,4,6,7,8,16] rfl ?_
   (conv=>whnf);refine ⟨rfl,?_⟩
   refine CW.block ?_
   refine CW.nilCell 6 8 3 Entry.c rfl rfl ?_
   refine CW.loopI 115 (fun (zz : Nat × l05Cur × List Entry × Value) => match zz with | (i, c, es, X) => [(0, S t), (2, .obj b1 [I 0, I 0, I 0, I 0, I 0, I 0, I 0, Bo false, .r (.v (.slice none 0 0)), .r (.v (.slice none 0 0)), S (⟨#[]⟩), Bo false]), (4, .pt 16 b2 0), (6, .obj bo6_10_1 [I (IntKind.i64.wrap (bat (tkW (⟨t, 0, false⟩ : l05Cur) 3) 0)), I (IntKind.i64.wrap (bat (tkW (⟨t, 0, false⟩ : l05Cur) 3) 1)), I (IntKind.i64.wrap (bat (tkW (⟨t, 0, false⟩ : l05Cur) 3) 2)), I (numW (tkC (⟨t, 0, false⟩ : l05Cur) 3)), I (numW (numC (tkC (⟨t, 0, false⟩ : l05Cur) 3))), I (numW (numC (numC (tkC (⟨t, 0, false⟩ : l05Cur) 3)))), I (numW (numC (numC (numC (tkC (⟨t, 0, false⟩ : l05Cur) 3))))), Bo ((tkW (numC (numC (numC (numC (tkC (⟨t, 0, false⟩ : l05Cur) 3))))) 1).toList == (⟨#[1]⟩ : ByteArray).toList), .w (sl 3 Entry.c es) X, .r (.v (.slice none 0 0)), S (⟨#[]⟩), Bo ((tkW (tkC (numC (numC (numC (numC (tkC (⟨t, 0, false⟩ : l05Cur) 3))))) 1) 1).toList == (⟨#[1]⟩ : ByteArray).toList)]), (7, I (numW (tkC (tkC (numC (numC (numC (numC (tkC (⟨t, 0, false⟩ : l05Cur) 3))))) 1) 1))), (8, I (i : Int)), (16, .obj b2 ((l05Cur.c c).map .r))]) (fun (zz : Nat × l05Cur × List Entry × Value) => match zz with | (i, c, es, X) => SeP t i c es) (fun (zz : Nat × l05Cur × List Entry × Value) => match zz with | (i, c, es, X) => 6 - i) (0, _, [], _) rfl (Le.c rfl <| Le.c rfl <| Le.c rfl <| Le.c rfl <| Le.c rfl <| Le.c rfl <| Le.c rfl <| Le.e) (SeP.init ht) ?_
   rintro ⟨i, c, es, X⟩ hP
   refine CW.seq ?_
   refine CW.seqJ 115 (fun (v21 : Bool) => [(0, S t), (2, .obj b1 [I 0, I 0, I 0, I 0, I 0, I 0, I 0, Bo false, .r (.v (.slice none 0 0)), .r (.v (.slice none 0 0)), S (⟨#[]⟩), Bo false]), (4, .pt 16 b2 0), (6, .obj bo6_10_1 [I (IntKind.i64.wrap (bat (tkW (⟨t, 0, false⟩ : l05Cur) 3) 0)), I (IntKind.i64.wrap (bat (tkW (⟨t, 0, false⟩ : l05Cur) 3) 1)), I (IntKind.i64.wrap (bat (tkW (⟨t, 0, false⟩ : l05Cur) 3) 2)), I (numW (tkC (⟨t, 0, false⟩ : l05Cur) 3)), I (numW (numC (tkC (⟨t, 0, false⟩ : l05Cur) 3))), I (numW (numC (numC (tkC (⟨t, 0, false⟩ : l05Cur) 3)))), I (numW (numC (numC (numC (tkC (⟨t, 0, false⟩ : l05Cur) 3))))), Bo ((tkW (numC (numC (numC (numC (tkC (⟨t, 0, false⟩ : l05Cur) 3))))) 1).toList == (⟨#[1]⟩ : ByteArray).toList), .w (sl 3 Entry.c es) X, .r (.v (.slice none 0 0)), S (⟨#[]⟩), Bo ((tkW (tkC (numC (numC (numC (numC (tkC (⟨t, 0, false⟩ : l05Cur) 3))))) 1) 1).toList == (⟨#[1]⟩ : ByteArray).toList)]), (7, I (numW (tkC (tkC (numC (numC (numC (numC (tkC (⟨t, 0, false⟩ : l05Cur) 3))))) 1) 1))), (8, I (i : Int)), (16, .obj b2 ((l05Cur.c c).map .r)), (69, Bo v21)]) (fun v21 => v21 = ((decide ((i : Int) < (numW (tkC (tkC (numC (numC (numC (numC (tkC (⟨t, 0, false⟩ : l05Cur) 3))))) 1) 1))) && (!c.bad)) && decide ((i : Int) ≤ 4))) ?_ ?_
   ·refine CW.region ?_
    refine RW.k XK 115 4 rfl ?_
    (conv=>whnf);refine ⟨rfl,?_⟩
    refine RW.gv rfl rfl rfl rfl (fun h22 => V.mv (d := .pt 16 b2 0) rfl rfl) (fun h22 => ?_) (fun h22 => ?_)
    ·skip
     refine RW.k XK 115 6 rfl ?_
     (conv=>whnf);refine ⟨rfl,?_⟩
     refine RW.gv rfl rfl rfl rfl (fun h23 => V.mv (d := I (i : Int)) rfl rfl) (fun h23 => ?_) (fun h23 => ?_)
     ·skip
      refine RW.k XK 115 2 rfl ?_
      (conv=>whnf);refine ⟨rfl,?_⟩
      refine RW.nil ?_
      exact ⟨_, by first | rfl | (simp_all; done) | (simp_all; omega) | grind, rfl, Le.of rfl⟩
     ·skip
      refine RW.k XK 115 2 rfl ?_
      (conv=>whnf);refine ⟨rfl,?_⟩
      refine RW.nil ?_
      exact ⟨_, by first | rfl | (simp_all; done) | (simp_all; omega) | grind, rfl, Le.of rfl⟩
    ·skip
     refine RW.k XK 115 9 rfl ?_
     (conv=>whnf);refine ⟨rfl,?_⟩
     refine RW.nil ?_
     exact ⟨_, by first | rfl | (simp_all; done) | (simp_all; omega) | grind, rfl, Le.of rfl⟩
   ·intro v21 hv24
    refine CW.cond rfl (fun h25 => ?_) (fun h25 => ?_)
    ·skip
     have hgo : ((decide ((i : Int) < numW (g7C t)) && !c.bad) && decide ((i : Int) ≤ 4)) = true := hv24.symm.trans h25
     refine CW.skip ?_
     refine CW.keep 115 [0,2,4,6,7,8,16] rfl ?_;(conv=>whnf);refine ⟨?_⟩
     refine CW.seq ?_
     refine CW.block ?_
     refine CW.seq ?_
     refine CW.region ?_
     refine RW.k XK 115 1 rfl ?_
     (conv=>whnf);refine ⟨rfl,?_⟩
     refine RW.callP (k := 16) (spec_l05ReadShort_fn c hP.ok) rfl rfl (Nat.le_of_ble_eq_true rfl) (by decide) rfl (DT.r (DT.r (DT.r DT.e))) (AsPs.here rfl (.nil)) fun g26 q27 => ?_
     refine RW.call rfl (spec_ReadEntry_fn (rshW c) (rshW_size hP.ok)) rfl (.cons (.one (.r .r)) (.nil)) fun g28 => ?_
     refine RW.k XK 115 7 rfl ?_
     (conv=>whnf);intro b29;(conv=>whnf);refine ⟨rfl,?_⟩
     refine RW.freezeB (ts := (Entry.c ((rdEnt (rshW c)).2.1))) 10 rfl (DRd.r (DRd.r (DRd.r DRd.e))) ?_
     refine RW.k XK 115 1 rfl ?_
     (conv=>whnf);refine ⟨rfl,?_⟩
     refine RW.nil ?_
     refine CW.keep 115 [0,2,4,6,7,8,10,16] rfl ?_;(conv=>whnf);refine ⟨?_⟩
     refine CW.region ?_
     refine RW.k XK 115 3 rfl ?_
     (conv=>whnf);refine ⟨rfl,?_⟩
     refine RW.build1 (c := Entry.c) (v := ((rdEnt (rshW c)).2.1)) rfl rfl rfl rfl rfl rfl (DW.v (DW.v (DW.v DW.e))) Entry.len (by decide) (by decide) fun X30 => ?_
     refine RW.takeO 80 6 8 (by decide) rfl rfl rfl ?_
     refine RW.appendSR (c := Entry.c) (l1 := es) (l2 := [((rdEnt (rshW c)).2.1)]) rfl rfl rfl rfl rfl rfl rfl rfl (.al (k := none) (i := 82) (sz := 3) (V := X30) rfl rfl nofun) (by decide) (Nat.le_of_ble_eq_true rfl) Entry.len (fun _ => rfl) rfl (by have h7 := hP.le; have h6 := hP.len; simp only [maxLen, List.length_singleton]; omega) (by have h7 := hP.le; have h6 := hP.len; simp only [maxLen, List.length_singleton]; omega) fun X31 => ?_
     refine RW.k XK 115 2 rfl ?_
     (conv=>whnf);refine ⟨rfl,?_⟩
     refine RW.keep 115 [0,2,4,6,7,8,16,83] rfl ?_;(conv=>whnf);refine ⟨?_⟩
     refine RW.pullT (k := 6) (l := 83) (j := 8) 6 83 8 rfl rfl rfl (by decide) rfl rfl rfl ?_
     refine RW.keep 115 [0,2,4,6,7,8,16] rfl ?_;(conv=>whnf);refine ⟨?_⟩
     refine RW.nil ?_
     refine CW.keep 115 [0,2,4,6,7,8,16] rfl ?_;(conv=>whnf);refine ⟨?_⟩
     refine CW.region ?_
     refine RW.k XK 115 1 rfl ?_
     (conv=>whnf);refine ⟨rfl,?_⟩
     refine RW.v rfl (V.inc rfl rfl rfl (show i < 6 by have h9 := hP.le; omega) (by simp only [maxLen]; omega)) ?_
     refine RW.k XK 115 1 rfl ?_
     (conv=>whnf);refine ⟨rfl,?_⟩
     refine RW.nil ?_
     exact ⟨(i + 1, _, _, _), by have h9 := hP.le; simp only []; omega, (hP.go hgo), rfl, Le.c rfl <| Le.c rfl <| Le.c rfl <| Le.c rfl <| Le.c rfl <| Le.c rfl <| Le.c rfl <| Le.e⟩
    ·skip
     have hfe := hP.fin (show ((decide ((i : Int) < numW (g7C t)) && !c.bad) && decide ((i : Int) ≤ 4)) = false from hv24.symm.trans h25)
     refine CW.exit ?_
     refine CW.keep 115 [0,2,4,6,16] rfl ?_;(conv=>whnf);refine ⟨?_⟩
     refine CW.seq ?_
     refine CW.region ?_
     refine RW.k XK 115 1 rfl ?_
     (conv=>whnf);refine ⟨rfl,?_⟩
     refine RW.callP (k := 16) (spec_l05ReadShort_fn c hP.ok) rfl rfl (Nat.le_of_ble_eq_true rfl) (by decide) rfl (DT.r (DT.r (DT.r DT.e))) (AsPs.here rfl (.nil)) fun g32 q33 => ?_
     refine RW.call rfl (spec_ReadConf_fn (rshW c) (rshW_size hP.ok)) rfl (.cons (.one (.r .r)) (.nil)) fun g34 => ?_
     refine RW.k XK 115 5 rfl ?_
     (conv=>whnf);refine ⟨rfl,?_⟩
     refine RW.keep 115 [0,2,4,6,16,89] rfl ?_;(conv=>whnf);refine ⟨?_⟩
     refine RW.pullT (k := 6) (l := 89) (j := 9) 6 89 9 rfl rfl rfl (by decide) rfl rfl rfl ?_
     refine RW.keep 115 [0,2,4,6,16] rfl ?_;(conv=>whnf);refine ⟨?_⟩
     refine RW.nil ?_
     refine CW.keep 115 [0,2,4,6,16] rfl ?_;(conv=>whnf);refine ⟨?_⟩
     refine CW.seq ?_
     refine CW.region ?_
     refine RW.k XK 115 1 rfl ?_
     (conv=>whnf);refine ⟨rfl,?_⟩
     refine RW.callP (k := 16) (spec_l05ReadShort_fn (rshC c) (rshC_ok hP.ok)) rfl rfl (Nat.le_of_ble_eq_true rfl) (by decide) rfl (DT.r (DT.r (DT.r DT.e))) (AsPs.here rfl (.nil)) fun g35 q36 => ?_
     refine RW.k XK 115 2 rfl ?_
     (conv=>whnf);refine ⟨rfl,?_⟩
     refine RW.nil ?_
     refine CW.keep 115 [0,2,4,6,16] rfl ?_;(conv=>whnf);refine ⟨?_⟩
     refine CW.seq ?_
     refine CW.region ?_
     refine RW.k XK 115 1 rfl ?_
     (conv=>whnf);refine ⟨rfl,?_⟩
     refine RW.callOwn rfl (spec_Encode_fn (⟨(IntKind.i64.wrap (bat (tkW (⟨t, 0, false⟩ : l05Cur) 3) 0)), (IntKind.i64.wrap (bat (tkW (⟨t, 0, false⟩ : l05Cur) 3) 1)), (IntKind.i64.wrap (bat (tkW (⟨t, 0, false⟩ : l05Cur) 3) 2)), (numW (tkC (⟨t, 0, false⟩ : l05Cur) 3)), (numW (numC (tkC (⟨t, 0, false⟩ : l05Cur) 3))), (numW (numC (numC (tkC (⟨t, 0, false⟩ : l05Cur) 3)))), (numW (numC (numC (numC (tkC (⟨t, 0, false⟩ : l05Cur) 3))))), ((tkW (numC (numC (numC (numC (tkC (⟨t, 0, false⟩ : l05Cur) 3))))) 1).toList == (⟨#[1]⟩ : ByteArray).toList), es, (readConf (rshW c)).1, (rshW (rshC c)), ((tkW (tkC (numC (numC (numC (numC (tkC (⟨t, 0, false⟩ : l05Cur) 3))))) 1) 1).toList == (⟨#[1]⟩ : ByteArray).toList)⟩ : Message) (sMsg_ok hP)) rfl (.cons (.agg (.cons (.r .r) (.cons (.r .r) (.cons (.r .r) (.cons (.r .r) (.cons (.r .r) (.cons (.r .r) (.cons (.r .r) (.cons (.r .r) (.cons (.r (.alo (k := none) (i := 6) (j := 8) (sz := 3) (V := X) rfl rfl rfl nofun)) (.cons (.r (.alo (k := none) (i := 6) (j := 9) (sz := 1) (V := (g34 0 0)) rfl rfl rfl nofun)) (.cons (.r .r) (.cons (.r .r) (.nil)))))))))))))) (.nil)) rfl fun g37 => ?_
     refine RW.k XK 115 5 rfl ?_
     (conv=>whnf);refine ⟨rfl,?_⟩
     refine RW.nil ?_
     refine CW.keep 115 [0,2,4,6,12,13,16] rfl ?_;(conv=>whnf);refine ⟨?_⟩
     refine CW.seq ?_
     refine CW.seqJ 115 (fun (v38 : Bool) => [(2, .obj b1 [I 0, I 0, I 0, I 0, I 0, I 0, I 0, Bo false, .r (.v (.slice none 0 0)), .r (.v (.slice none 0 0)), S (⟨#[]⟩), Bo false]), (6, .obj bo6_10_1 [I (IntKind.i64.wrap (bat (tkW (⟨t, 0, false⟩ : l05Cur) 3) 0)), I (IntKind.i64.wrap (bat (tkW (⟨t, 0, false⟩ : l05Cur) 3) 1)), I (IntKind.i64.wrap (bat (tkW (⟨t, 0, false⟩ : l05Cur) 3) 2)), I (numW (tkC (⟨t, 0, false⟩ : l05Cur) 3)), I (numW (numC (tkC (⟨t, 0, false⟩ : l05Cur) 3))), I (numW (numC (numC (tkC (⟨t, 0, false⟩ : l05Cur) 3)))), I (numW (numC (numC (numC (tkC (⟨t, 0, false⟩ : l05Cur) 3))))), Bo ((tkW (numC (numC (numC (numC (tkC (⟨t, 0, false⟩ : l05Cur) 3))))) 1).toList == (⟨#[1]⟩ : ByteArray).toList), .w (sl 3 Entry.c es) X, .w (sl 1 cI ((readConf (rshW c)).1)) (g34 0 0), S (rshW (rshC c)), Bo ((tkW (tkC (numC (numC (numC (numC (tkC (⟨t, 0, false⟩ : l05Cur) 3))))) 1) 1).toList == (⟨#[1]⟩ : ByteArray).toList)]), (112, Bo v38)]) (fun v38 => v38 = (((rshC (rshC c)).bad || (!((msgT (⟨(IntKind.i64.wrap (bat (tkW (⟨t, 0, false⟩ : l05Cur) 3) 0)), (IntKind.i64.wrap (bat (tkW (⟨t, 0, false⟩ : l05Cur) 3) 1)), (IntKind.i64.wrap (bat (tkW (⟨t, 0, false⟩ : l05Cur) 3) 2)), (numW (tkC (⟨t, 0, false⟩ : l05Cur) 3)), (numW (numC (tkC (⟨t, 0, false⟩ : l05Cur) 3))), (numW (numC (numC (tkC (⟨t, 0, false⟩ : l05Cur) 3)))), (numW (numC (numC (numC (tkC (⟨t, 0, false⟩ : l05Cur) 3))))), ((tkW (numC (numC (numC (numC (tkC (⟨t, 0, false⟩ : l05Cur) 3))))) 1).toList == (⟨#[1]⟩ : ByteArray).toList), es, (readConf (rshW c)).1, (rshW (rshC c)), ((tkW (tkC (numC (numC (numC (numC (tkC (⟨t, 0, false⟩ : l05Cur) 3))))) 1) 1).toList == (⟨#[1]⟩ : ByteArray).toList)⟩ : Message)).2))) || (!(((msgT (⟨(IntKind.i64.wrap (bat (tkW (⟨t, 0, false⟩ : l05Cur) 3) 0)), (IntKind.i64.wrap (bat (tkW (⟨t, 0, false⟩ : l05Cur) 3) 1)), (IntKind.i64.wrap (bat (tkW (⟨t, 0, false⟩ : l05Cur) 3) 2)), (numW (tkC (⟨t, 0, false⟩ : l05Cur) 3)), (numW (numC (tkC (⟨t, 0, false⟩ : l05Cur) 3))), (numW (numC (numC (tkC (⟨t, 0, false⟩ : l05Cur) 3)))), (numW (numC (numC (numC (tkC (⟨t, 0, false⟩ : l05Cur) 3))))), ((tkW (numC (numC (numC (numC (tkC (⟨t, 0, false⟩ : l05Cur) 3))))) 1).toList == (⟨#[1]⟩ : ByteArray).toList), es, (readConf (rshW c)).1, (rshW (rshC c)), ((tkW (tkC (numC (numC (numC (numC (tkC (⟨t, 0, false⟩ : l05Cur) 3))))) 1) 1).toList == (⟨#[1]⟩ : ByteArray).toList)⟩ : Message)).1).toList == t.toList)))) ?_ ?_
     ·refine CW.region ?_
      refine RW.k XK 115 5 rfl ?_
      (conv=>whnf);refine ⟨rfl,?_⟩
      refine RW.gv rfl rfl rfl rfl (fun h39 => V.mv (d := Bo ((msgT (⟨(IntKind.i64.wrap (bat (tkW (⟨t, 0, false⟩ : l05Cur) 3) 0)), (IntKind.i64.wrap (bat (tkW (⟨t, 0, false⟩ : l05Cur) 3) 1)), (IntKind.i64.wrap (bat (tkW (⟨t, 0, false⟩ : l05Cur) 3) 2)), (numW (tkC (⟨t, 0, false⟩ : l05Cur) 3)), (numW (numC (tkC (⟨t, 0, false⟩ : l05Cur) 3))), (numW (numC (numC (tkC (⟨t, 0, false⟩ : l05Cur) 3)))), (numW (numC (numC (numC (tkC (⟨t, 0, false⟩ : l05Cur) 3))))), ((tkW (numC (numC (numC (numC (tkC (⟨t, 0, false⟩ : l05Cur) 3))))) 1).toList == (⟨#[1]⟩ : ByteArray).toList), es, (readConf (rshW c)).1, (rshW (rshC c)), ((tkW (tkC (numC (numC (numC (numC (tkC (⟨t, 0, false⟩ : l05Cur) 3))))) 1) 1).toList == (⟨#[1]⟩ : ByteArray).toList)⟩ : Message)).2)) rfl rfl) (fun h39 => ?_) (fun h39 => ?_)
      ·skip
       refine RW.k XK 115 3 rfl ?_
       (conv=>whnf);refine ⟨rfl,?_⟩
       refine RW.gv rfl rfl rfl rfl (fun h40 => V.mv (d := S ((msgT (⟨(IntKind.i64.wrap (bat (tkW (⟨t, 0, false⟩ : l05Cur) 3) 0)), (IntKind.i64.wrap (bat (tkW (⟨t, 0, false⟩ : l05Cur) 3) 1)), (IntKind.i64.wrap (bat (tkW (⟨t, 0, false⟩ : l05Cur) 3) 2)), (numW (tkC (⟨t, 0, false⟩ : l05Cur) 3)), (numW (numC (tkC (⟨t, 0, false⟩ : l05Cur) 3))), (numW (numC (numC (tkC (⟨t, 0, false⟩ : l05Cur) 3)))), (numW (numC (numC (numC (tkC (⟨t, 0, false⟩ : l05Cur) 3))))), ((tkW (numC (numC (numC (numC (tkC (⟨t, 0, false⟩ : l05Cur) 3))))) 1).toList == (⟨#[1]⟩ : ByteArray).toList), es, (readConf (rshW c)).1, (rshW (rshC c)), ((tkW (tkC (numC (numC (numC (numC (tkC (⟨t, 0, false⟩ : l05Cur) 3))))) 1) 1).toList == (⟨#[1]⟩ : ByteArray).toList)⟩ : Message)).1)) rfl rfl) (fun h40 => ?_) (fun h40 => ?_)
       ·skip
        refine RW.k XK 115 3 rfl ?_
        (conv=>whnf);refine ⟨rfl,?_⟩
        refine RW.nil ?_
        exact ⟨_, by first | rfl | (simp_all; done) | (simp_all; omega) | grind, rfl, Le.of rfl⟩
       ·skip
        refine RW.k XK 115 3 rfl ?_
        (conv=>whnf);refine ⟨rfl,?_⟩
        refine RW.nil ?_
        exact ⟨_, by first | rfl | (simp_all; done) | (simp_all; omega) | grind, rfl, Le.of rfl⟩
      ·skip
       refine RW.k XK 115 7 rfl ?_
       (conv=>whnf);refine ⟨rfl,?_⟩
       refine RW.nil ?_
       exact ⟨_, by first | rfl | (simp_all; done) | (simp_all; omega) | grind, rfl, Le.of rfl⟩
     ·intro v38 hv41
      refine CW.cond rfl (fun h42 => ?_) (fun h42 => ?_)
      ·skip
       have hvv : sC t (es, c) = true := hv41.symm.trans h42
       refine CW.k XK 115 1 [2,3] rfl ?_
       (conv=>whnf);refine ⟨rfl,?_⟩
       refine CW.ret ?_
       exact Post.tup (by decide) (RVs.c (RV.c (f := fun e => (Message.c e).map .r) (e' := (⟨0, 0, 0, 0, 0, 0, 0, false, [], [], ⟨#[]⟩, false⟩ : Message)) rfl rfl rfl rfl (DT.r (DT.r (DT.r (DT.r (DT.r (DT.r (DT.r (DT.r (DT.nr (DT.nr (DT.r (DT.r DT.e)))))))))))) (by rw [rdS_fin ht hbd hfe hvv] <;> rfl)) (RVs.c (RV.b rfl (by rw [rdS_fin ht hbd hfe hvv] <;> rfl)) RVs.e)) (AOs.r AOs.e)
      ·skip
       have hvv : sC t (es, c) = false := hv41.symm.trans h42
       refine CW.skip ?_
       refine CW.keep 115 [2,6] rfl ?_;(conv=>whnf);refine ⟨?_⟩
       refine CW.seq ?_
       refine CW.region ?_
       refine RW.k XK 115 2 rfl ?_
       (conv=>whnf);refine ⟨rfl,?_⟩
       refine RW.keep 115 [2,6] rfl ?_;(conv=>whnf);refine ⟨?_⟩
       refine RW.pullO (k := 2) (l := 6) (j := 8) 2 6 8 rfl rfl rfl (by decide) rfl rfl rfl rfl ?_
       refine RW.keep 115 [2,6] rfl ?_;(conv=>whnf);refine ⟨?_⟩
       refine RW.pullO (k := 2) (l := 6) (j := 9) 2 6 9 rfl rfl rfl (by decide) rfl rfl rfl rfl ?_
       refine RW.keep 115 [2] rfl ?_;(conv=>whnf);refine ⟨?_⟩
       refine RW.k XK 115 1 rfl ?_
       (conv=>whnf);refine ⟨rfl,?_⟩
       refine RW.nil ?_
       refine CW.keep 115 [2,3] rfl ?_;(conv=>whnf);refine ⟨?_⟩
       refine CW.freeze 2 (d' := .obj b1 [I (IntKind.i64.wrap (bat (tkW (⟨t, 0, false⟩ : l05Cur) 3) 0)), I (IntKind.i64.wrap (bat (tkW (⟨t, 0, false⟩ : l05Cur) 3) 1)), I (IntKind.i64.wrap (bat (tkW (⟨t, 0, false⟩ : l05Cur) 3) 2)), I (numW (tkC (⟨t, 0, false⟩ : l05Cur) 3)), I (numW (numC (tkC (⟨t, 0, false⟩ : l05Cur) 3))), I (numW (numC (numC (tkC (⟨t, 0, false⟩ : l05Cur) 3)))), I (numW (numC (numC (numC (tkC (⟨t, 0, false⟩ : l05Cur) 3))))), Bo ((tkW (numC (numC (numC (numC (tkC (⟨t, 0, false⟩ : l05Cur) 3))))) 1).toList == (⟨#[1]⟩ : ByteArray).toList), .r (sl 3 Entry.c es), .r (sl 1 cI ((readConf (rshW c)).1)), S (rshW (rshC c)), Bo ((tkW (tkC (numC (numC (numC (numC (tkC (⟨t, 0, false⟩ : l05Cur) 3))))) 1) 1).toList == (⟨#[1]⟩ : ByteArray).toList)]) rfl rfl ?_
       refine CW.ret ?_
       exact Post.tup (by decide) (RVs.c (RV.c (f := fun e => (Message.c e).map .r) (e' := (⟨(IntKind.i64.wrap (bat (tkW (⟨t, 0, false⟩ : l05Cur) 3) 0)), (IntKind.i64.wrap (bat (tkW (⟨t, 0, false⟩ : l05Cur) 3) 1)), (IntKind.i64.wrap (bat (tkW (⟨t, 0, false⟩ : l05Cur) 3) 2)), (numW (tkC (⟨t, 0, false⟩ : l05Cur) 3)), (numW (numC (tkC (⟨t, 0, false⟩ : l05Cur) 3))), (numW (numC (numC (tkC (⟨t, 0, false⟩ : l05Cur) 3)))), (numW (numC (numC (numC (tkC (⟨t, 0, false⟩ : l05Cur) 3))))), ((tkW (numC (numC (numC (numC (tkC (⟨t, 0, false⟩ : l05Cur) 3))))) 1).toList == (⟨#[1]⟩ : ByteArray).toList), es, (readConf (rshW c)).1, (rshW (rshC c)), ((tkW (tkC (numC (numC (numC (numC (tkC (⟨t, 0, false⟩ : l05Cur) 3))))) 1) 1).toList == (⟨#[1]⟩ : ByteArray).toList)⟩ : Message)) rfl rfl rfl rfl (DT.r (DT.r (DT.r (DT.r (DT.r (DT.r (DT.r (DT.r (DT.r (DT.r (DT.r (DT.r DT.e)))))))))))) (by rw [rdS_fin ht hbd hfe hvv] <;> rfl)) (RVs.c (RV.b rfl (by rw [rdS_fin ht hbd hfe hvv] <;> rfl)) RVs.e)) (AOs.r AOs.e)
set_option maxHeartbeats 4000000 in
theorem laws_FnExactDecode_fn (t : ByteArray) : Eng.Fn E.P 3 [.one (.r (.v (.string t)))] (.one (.one (.w (.v (.bool true))))) [.one (.r (.v (.string t)))] := by
 refine Eng.Fn.intro (E := E) (rvs := [.tmp 2]) Try.func3 rfl rfl rfl (by simp [outSlots, moved, rvSlot, sl]) ?_
 intro B g bo
 refine CW.keep 66 [0] rfl ?_;(conv=>whnf);refine ⟨?_⟩
 refine CW.k XK 66 1 [0] rfl ?_
 (conv=>whnf);refine ⟨rfl,?_⟩
 refine CW.seq ?_
 refine CW.k XK 66 1 [0,13] rfl ?_
 (conv=>whnf);refine ⟨rfl,?_⟩
 refine CW.cond rfl (fun h1 => ?_) (fun h1 => ?_)
 ·skip
  refine CW.k XK 66 1 [2] rfl ?_
  (conv=>whnf);refine ⟨rfl,?_⟩
  refine CW.ret ?_
  exact Post.one (RV.b rfl (by first | rfl | (exfalso; have p0 := mkVMessage_facts (m := (rdMsg t).1) (by have h9 := rdm.2.1; omega) (by have h9 := rdm.2.2; omega); simp_all [eqMessage_refl]; done) | (exfalso; have p0 := mkVMessage_facts (m := (rdMsg t).1) (by have h9 := rdm.2.1; omega) (by have h9 := rdm.2.2; omega); simp_all [eqMessage_refl]; omega))) (AOs.r AOs.e)
 ·skip
  have ht : t.size ≤ 1048576 := by have h9 := of_decide_eq_false h1; omega
  have rdm := rdMsg_ok ht
  refine CW.skip ?_
  refine CW.keep 66 [0] rfl ?_;(conv=>whnf);refine ⟨?_⟩
  refine CW.seq ?_
  refine CW.region ?_
  refine RW.k XK 66 1 rfl ?_
  (conv=>whnf);refine ⟨rfl,?_⟩
  refine RW.call rfl (spec_Decode_fn t ht) rfl (.cons (.one (.r .r)) (.nil)) fun g2 => ?_
  refine RW.k XK 66 5 rfl ?_
  (conv=>whnf);intro b3;(conv=>whnf);refine ⟨rfl,?_⟩
  refine RW.freezeB (ts := (Message.c ((rdMsg t).1))) 3 rfl (DRd.r (DRd.r (DRd.r (DRd.r (DRd.r (DRd.r (DRd.r (DRd.r (DRd.r (DRd.r (DRd.r (DRd.r DRd.e)))))))))))) ?_
  refine RW.k XK 66 1 rfl ?_
  (conv=>whnf);refine ⟨rfl,?_⟩
  refine RW.nil ?_
  refine CW.keep 66 [0,3,4] rfl ?_;(conv=>whnf);refine ⟨?_⟩
  refine CW.seq ?_
  refine CW.region ?_
  refine RW.k XK 66 1 rfl ?_
  (conv=>whnf);refine ⟨rfl,?_⟩
  refine RW.call rfl (impl_Decode_fn t ht) rfl (.cons (.one (.r .r)) (.nil)) fun g4 => ?_
  refine RW.k XK 66 5 rfl ?_
  (conv=>whnf);intro b5;(conv=>whnf);refine ⟨rfl,?_⟩
  refine RW.keep 66 [0,3,4,5,22,23] rfl ?_;(conv=>whnf);refine ⟨?_⟩
  refine RW.pullA (k := 5) (l := 22) (j := 8) 5 22 8 rfl rfl rfl (by decide) rfl rfl rfl rfl ?_
  refine RW.keep 66 [0,3,4,5,22,23] rfl ?_;(conv=>whnf);refine ⟨?_⟩
  refine RW.pullA (k := 5) (l := 22) (j := 9) 5 22 9 rfl rfl rfl (by decide) rfl rfl rfl rfl ?_
  refine RW.keep 66 [0,3,4,5,23] rfl ?_;(conv=>whnf);refine ⟨?_⟩
  refine RW.k XK 66 1 rfl ?_
  (conv=>whnf);refine ⟨rfl,?_⟩
  refine RW.nil ?_
  refine CW.keep 66 [0,3,4,5,6] rfl ?_;(conv=>whnf);refine ⟨?_⟩
  refine CW.seq ?_
  refine CW.seqJ 66 (fun (v6 : Bool) => [(0, S t), (3, .rp (Message.c ((rdMsg t).1))), (4, Bo ((rdMsg t).2)), (5, .obj b5 [I (((rdMsg t).1).kind), I (((rdMsg t).1).from_), I (((rdMsg t).1).to), I (((rdMsg t).1).term_), I (((rdMsg t).1).index), I (((rdMsg t).1).logTerm), I (((rdMsg t).1).commit), Bo (((rdMsg t).1).ok), .w (sl 3 Entry.c (((rdMsg t).1).entries)) (g4 0 8), .w (sl 1 cI (((rdMsg t).1).conf)) (g4 0 9), S (((rdMsg t).1).data), Bo (((rdMsg t).1).last)]), (32, Bo v6)]) (fun v6 => v6 = ((!(eqMessage ((rdMsg t).1) ((rdMsg t).1))) || (!(((rdMsg t).2) == ((rdMsg t).2))))) ?_ ?_
  ·refine CW.region ?_
   refine RW.k XK 66 2 rfl ?_
   (conv=>whnf);refine ⟨rfl,?_⟩
   refine RW.callOwn rfl (laws_eqMessage_fn ((rdMsg t).1) ((rdMsg t).1)) rfl (.cons (.agg (.cons (.r .r) (.cons (.r .r) (.cons (.r .r) (.cons (.r .r) (.cons (.r .r) (.cons (.r .r) (.cons (.r .r) (.cons (.r .r) (.cons (.r (.alo (k := none) (i := 5) (j := 8) (sz := 3) (V := (g4 0 8)) rfl rfl rfl nofun)) (.cons (.r (.alo (k := none) (i := 5) (j := 9) (sz := 1) (V := (g4 0 9)) rfl rfl rfl nofun)) (.cons (.r .r) (.cons (.r .r) (.nil)))))))))))))) (.cons (.agg (.cons (.r .r) (.cons (.r .r) (.cons (.r .r) (.cons (.r .r) (.cons (.r .r) (.cons (.r .r) (.cons (.r .r) (.cons (.r .r) (.cons (.r .r) (.cons (.r .r) (.cons (.r .r) (.cons (.r .r) (.nil)))))))))))))) (.nil))) rfl fun g7 => ?_
   refine RW.k XK 66 2 rfl ?_
   (conv=>whnf);refine ⟨rfl,?_⟩
   refine RW.gv rfl rfl rfl rfl (fun h8 => V.mv (d := Bo ((rdMsg t).2)) rfl rfl) (fun h8 => ?_) (fun h8 => ?_)
   ·skip
    refine RW.k XK 66 1 rfl ?_
    (conv=>whnf);refine ⟨rfl,?_⟩
    refine RW.gt rfl rfl rfl rfl (V.eqBool rfl rfl rfl (by kernel_rfl) (.inr ⟨rfl, rfl⟩)) ?_
    refine RW.k XK 66 1 rfl ?_
    (conv=>whnf);refine ⟨rfl,?_⟩
    refine RW.nil ?_
    exact ⟨_, by first | rfl | (simp_all; done) | (simp_all; omega) | grind, rfl, Le.of rfl⟩
   ·skip
    refine RW.k XK 66 3 rfl ?_
    (conv=>whnf);refine ⟨rfl,?_⟩
    refine RW.nil ?_
    exact ⟨_, by first | rfl | (simp_all; done) | (simp_all; omega) | grind, rfl, Le.of rfl⟩
  ·intro v6 hv9
   refine CW.cond rfl (fun h10 => ?_) (fun h10 => ?_)
   ·skip
    refine CW.k XK 66 1 [2] rfl ?_
    (conv=>whnf);refine ⟨rfl,?_⟩
    refine CW.ret ?_
    exact Post.one (RV.b rfl (by first | rfl | (exfalso; have p0 := mkVMessage_facts (m := (rdMsg t).1) (by have h9 := rdm.2.1; omega) (by have h9 := rdm.2.2; omega); simp_all [eqMessage_refl]; done) | (exfalso; have p0 := mkVMessage_facts (m := (rdMsg t).1) (by have h9 := rdm.2.1; omega) (by have h9 := rdm.2.2; omega); simp_all [eqMessage_refl]; omega))) (AOs.r AOs.e)
   ·skip
    refine CW.skip ?_
    refine CW.keep 66 [0,3,4,5] rfl ?_;(conv=>whnf);refine ⟨?_⟩
    refine CW.k XK 66 1 [0,3,4,5,7] rfl ?_
    (conv=>whnf);refine ⟨rfl,?_⟩
    refine CW.seq ?_
    refine CW.region ?_
    refine RW.k XK 66 2 rfl ?_
    (conv=>whnf);refine ⟨rfl,?_⟩
    refine RW.callW (k := 5) (laws_markMessage_fn ((rdMsg t).1) 1 (by decide)) rfl rfl (Nat.le_of_ble_eq_true rfl) (by decide) (.here (AsW.aggO (Hand.v (Hand.v (Hand.v (Hand.v (Hand.v (Hand.v (Hand.v (Hand.v (Hand.w (Hand.w (Hand.v (Hand.v Hand.e))))))))))))) (.cons (.one (.r .r)) (.nil))) rfl fun g11 q12 => ?_
    refine RW.k XK 66 1 rfl ?_
    (conv=>whnf);refine ⟨rfl,?_⟩
    refine RW.nil ?_
    refine CW.keep 66 [0,3,4,5,7] rfl ?_;(conv=>whnf);refine ⟨?_⟩
    refine CW.k XK 66 1 [0,3,4,5,7,8] rfl ?_
    (conv=>whnf);refine ⟨rfl,?_⟩
    refine CW.seq ?_
    refine CW.region ?_
    refine RW.k XK 66 2 rfl ?_
    (conv=>whnf);refine ⟨rfl,?_⟩
    refine RW.callOwn rfl (laws_heldMessage_fn ((mkVMessage ((rdMsg t).1) 1).1) 1 (by decide)) rfl (.cons (.agg (.cons (.r .r) (.cons (.r .r) (.cons (.r .r) (.cons (.r .r) (.cons (.r .r) (.cons (.r .r) (.cons (.r .r) (.cons (.r .r) (.cons (.r (.alo (k := none) (i := 5) (j := 8) (sz := 3) (V := (g4 0 8)) rfl rfl rfl nofun)) (.cons (.r (.alo (k := none) (i := 5) (j := 9) (sz := 1) (V := (g4 0 9)) rfl rfl rfl nofun)) (.cons (.r .r) (.cons (.r .r) (.nil)))))))))))))) (.cons (.one (.r .r)) (.nil))) rfl fun g13 => ?_
    refine RW.k XK 66 1 rfl ?_
    (conv=>whnf);refine ⟨rfl,?_⟩
    refine RW.nil ?_
    refine CW.keep 66 [0,3,4,5,7,8] rfl ?_;(conv=>whnf);refine ⟨?_⟩
    refine CW.seq ?_
    refine CW.k XK 66 1 [0,3,4,5,7,8,40] rfl ?_
    (conv=>whnf);refine ⟨rfl,?_⟩
    refine CW.cond rfl (fun h14 => ?_) (fun h14 => ?_)
    ·skip
     refine CW.k XK 66 1 [2] rfl ?_
     (conv=>whnf);refine ⟨rfl,?_⟩
     refine CW.ret ?_
     exact Post.one (RV.b rfl (by first | rfl | (exfalso; have p0 := mkVMessage_facts (m := (rdMsg t).1) (by have h9 := rdm.2.1; omega) (by have h9 := rdm.2.2; omega); simp_all [eqMessage_refl]; done) | (exfalso; have p0 := mkVMessage_facts (m := (rdMsg t).1) (by have h9 := rdm.2.1; omega) (by have h9 := rdm.2.2; omega); simp_all [eqMessage_refl]; omega))) (AOs.r AOs.e)
    ·skip
     refine CW.skip ?_
     refine CW.keep 66 [0,3,4,5,7,8] rfl ?_;(conv=>whnf);refine ⟨?_⟩
     refine CW.seq ?_
     refine CW.k XK 66 1 [0,3,4,5,7,43] rfl ?_
     (conv=>whnf);refine ⟨rfl,?_⟩
     refine CW.cond rfl (fun h15 => ?_) (fun h15 => ?_)
     ·skip
      refine CW.k XK 66 1 [2] rfl ?_
      (conv=>whnf);refine ⟨rfl,?_⟩
      refine CW.ret ?_
      exact Post.one (RV.b rfl (by first | rfl | (exfalso; have p0 := mkVMessage_facts (m := (rdMsg t).1) (by have h9 := rdm.2.1; omega) (by have h9 := rdm.2.2; omega); simp_all [eqMessage_refl]; done) | (exfalso; have p0 := mkVMessage_facts (m := (rdMsg t).1) (by have h9 := rdm.2.1; omega) (by have h9 := rdm.2.2; omega); simp_all [eqMessage_refl]; omega))) (AOs.r AOs.e)
     ·skip
      refine CW.skip ?_
      refine CW.keep 66 [0,3,4,5,7] rfl ?_;(conv=>whnf);refine ⟨?_⟩
      refine CW.seq ?_
      refine CW.region ?_
      refine RW.k XK 66 1 rfl ?_
      (conv=>whnf);refine ⟨rfl,?_⟩
      refine RW.call rfl (impl_Decode_fn t ht) rfl (.cons (.one (.r .r)) (.nil)) fun g16 => ?_
      refine RW.k XK 66 5 rfl ?_
      (conv=>whnf);intro b17;(conv=>whnf);refine ⟨rfl,?_⟩
      refine RW.keep 66 [3,4,5,7,9,47,48] rfl ?_;(conv=>whnf);refine ⟨?_⟩
      refine RW.pullA (k := 9) (l := 47) (j := 8) 9 47 8 rfl rfl rfl (by decide) rfl rfl rfl rfl ?_
      refine RW.keep 66 [3,4,5,7,9,47,48] rfl ?_;(conv=>whnf);refine ⟨?_⟩
      refine RW.pullA (k := 9) (l := 47) (j := 9) 9 47 9 rfl rfl rfl (by decide) rfl rfl rfl rfl ?_
      refine RW.keep 66 [3,4,5,7,9,48] rfl ?_;(conv=>whnf);refine ⟨?_⟩
      refine RW.k XK 66 1 rfl ?_
      (conv=>whnf);refine ⟨rfl,?_⟩
      refine RW.nil ?_
      refine CW.keep 66 [3,4,5,7,9,10] rfl ?_;(conv=>whnf);refine ⟨?_⟩
      refine CW.seq ?_
      refine CW.seqJ 66 (fun (v18 : Bool) => [(5, .obj b5 [I (((mkVMessage ((rdMsg t).1) 1).1).kind), I (((mkVMessage ((rdMsg t).1) 1).1).from_), I (((mkVMessage ((rdMsg t).1) 1).1).to), I (((mkVMessage ((rdMsg t).1) 1).1).term_), I (((mkVMessage ((rdMsg t).1) 1).1).index), I (((mkVMessage ((rdMsg t).1) 1).1).logTerm), I (((mkVMessage ((rdMsg t).1) 1).1).commit), Bo (((mkVMessage ((rdMsg t).1) 1).1).ok), .w (sl 3 Entry.c (((mkVMessage ((rdMsg t).1) 1).1).entries)) (g4 0 8), .w (sl 1 cI (((mkVMessage ((rdMsg t).1) 1).1).conf)) (g4 0 9), S (((mkVMessage ((rdMsg t).1) 1).1).data), Bo (((mkVMessage ((rdMsg t).1) 1).1).last)]), (7, I ((mkVMessage ((rdMsg t).1) 1).2)), (57, Bo v18)]) (fun v18 => v18 = ((!(eqMessage ((rdMsg t).1) ((rdMsg t).1))) || (!(((rdMsg t).2) == ((rdMsg t).2))))) ?_ ?_
      ·refine CW.region ?_
       refine RW.k XK 66 2 rfl ?_
       (conv=>whnf);refine ⟨rfl,?_⟩
       refine RW.callOwn rfl (laws_eqMessage_fn ((rdMsg t).1) ((rdMsg t).1)) rfl (.cons (.agg (.cons (.r .r) (.cons (.r .r) (.cons (.r .r) (.cons (.r .r) (.cons (.r .r) (.cons (.r .r) (.cons (.r .r) (.cons (.r .r) (.cons (.r (.alo (k := none) (i := 9) (j := 8) (sz := 3) (V := (g16 0 8)) rfl rfl rfl nofun)) (.cons (.r (.alo (k := none) (i := 9) (j := 9) (sz := 1) (V := (g16 0 9)) rfl rfl rfl nofun)) (.cons (.r .r) (.cons (.r .r) (.nil)))))))))))))) (.cons (.agg (.cons (.r .r) (.cons (.r .r) (.cons (.r .r) (.cons (.r .r) (.cons (.r .r) (.cons (.r .r) (.cons (.r .r) (.cons (.r .r) (.cons (.r .r) (.cons (.r .r) (.cons (.r .r) (.cons (.r .r) (.nil)))))))))))))) (.nil))) rfl fun g19 => ?_
       refine RW.k XK 66 2 rfl ?_
       (conv=>whnf);refine ⟨rfl,?_⟩
       refine RW.gv rfl rfl rfl rfl (fun h20 => V.mv (d := Bo ((rdMsg t).2)) rfl rfl) (fun h20 => ?_) (fun h20 => ?_)
       ·skip
        refine RW.k XK 66 1 rfl ?_
        (conv=>whnf);refine ⟨rfl,?_⟩
        refine RW.gt rfl rfl rfl rfl (V.eqBool rfl rfl rfl (by kernel_rfl) (.inr ⟨rfl, rfl⟩)) ?_
        refine RW.k XK 66 1 rfl ?_
        (conv=>whnf);refine ⟨rfl,?_⟩
        refine RW.nil ?_
        exact ⟨_, by first | rfl | (simp_all; done) | (simp_all; omega) | grind, rfl, Le.of rfl⟩
       ·skip
        refine RW.k XK 66 3 rfl ?_
        (conv=>whnf);refine ⟨rfl,?_⟩
        refine RW.nil ?_
        exact ⟨_, by first | rfl | (simp_all; done) | (simp_all; omega) | grind, rfl, Le.of rfl⟩
      ·intro v18 hv21
       refine CW.cond rfl (fun h22 => ?_) (fun h22 => ?_)
       ·skip
        refine CW.k XK 66 1 [2] rfl ?_
        (conv=>whnf);refine ⟨rfl,?_⟩
        refine CW.ret ?_
        exact Post.one (RV.b rfl (by first | rfl | (exfalso; have p0 := mkVMessage_facts (m := (rdMsg t).1) (by have h9 := rdm.2.1; omega) (by have h9 := rdm.2.2; omega); simp_all [eqMessage_refl]; done) | (exfalso; have p0 := mkVMessage_facts (m := (rdMsg t).1) (by have h9 := rdm.2.1; omega) (by have h9 := rdm.2.2; omega); simp_all [eqMessage_refl]; omega))) (AOs.r AOs.e)
       ·skip
        refine CW.skip ?_
        refine CW.keep 66 [5,7] rfl ?_;(conv=>whnf);refine ⟨?_⟩
        refine CW.k XK 66 1 [5,7,8] rfl ?_
        (conv=>whnf);refine ⟨rfl,?_⟩
        refine CW.seq ?_
        refine CW.region ?_
        refine RW.k XK 66 2 rfl ?_
        (conv=>whnf);refine ⟨rfl,?_⟩
        refine RW.callOwn rfl (laws_heldMessage_fn ((mkVMessage ((rdMsg t).1) 1).1) 1 (by decide)) rfl (.cons (.agg (.cons (.r .r) (.cons (.r .r) (.cons (.r .r) (.cons (.r .r) (.cons (.r .r) (.cons (.r .r) (.cons (.r .r) (.cons (.r .r) (.cons (.r (.alo (k := none) (i := 5) (j := 8) (sz := 3) (V := (g4 0 8)) rfl rfl rfl nofun)) (.cons (.r (.alo (k := none) (i := 5) (j := 9) (sz := 1) (V := (g4 0 9)) rfl rfl rfl nofun)) (.cons (.r .r) (.cons (.r .r) (.nil)))))))))))))) (.cons (.one (.r .r)) (.nil))) rfl fun g23 => ?_
        refine RW.k XK 66 1 rfl ?_
        (conv=>whnf);refine ⟨rfl,?_⟩
        refine RW.nil ?_
        refine CW.keep 66 [7,8] rfl ?_;(conv=>whnf);refine ⟨?_⟩
        refine CW.seq ?_
        refine CW.k XK 66 1 [7,8,62] rfl ?_
        (conv=>whnf);refine ⟨rfl,?_⟩
        refine CW.cond rfl (fun h24 => ?_) (fun h24 => ?_)
        ·skip
         refine CW.k XK 66 1 [2] rfl ?_
         (conv=>whnf);refine ⟨rfl,?_⟩
         refine CW.ret ?_
         exact Post.one (RV.b rfl (by first | rfl | (exfalso; have p0 := mkVMessage_facts (m := (rdMsg t).1) (by have h9 := rdm.2.1; omega) (by have h9 := rdm.2.2; omega); simp_all [eqMessage_refl]; done) | (exfalso; have p0 := mkVMessage_facts (m := (rdMsg t).1) (by have h9 := rdm.2.1; omega) (by have h9 := rdm.2.2; omega); simp_all [eqMessage_refl]; omega))) (AOs.r AOs.e)
        ·skip
         refine CW.skip ?_
         refine CW.keep 66 [7,8] rfl ?_;(conv=>whnf);refine ⟨?_⟩
         refine CW.seq ?_
         refine CW.k XK 66 1 [65] rfl ?_
         (conv=>whnf);refine ⟨rfl,?_⟩
         refine CW.cond rfl (fun h25 => ?_) (fun h25 => ?_)
         ·skip
          refine CW.k XK 66 1 [2] rfl ?_
          (conv=>whnf);refine ⟨rfl,?_⟩
          refine CW.ret ?_
          exact Post.one (RV.b rfl (by first | rfl | (exfalso; have p0 := mkVMessage_facts (m := (rdMsg t).1) (by have h9 := rdm.2.1; omega) (by have h9 := rdm.2.2; omega); simp_all [eqMessage_refl]; done) | (exfalso; have p0 := mkVMessage_facts (m := (rdMsg t).1) (by have h9 := rdm.2.1; omega) (by have h9 := rdm.2.2; omega); simp_all [eqMessage_refl]; omega))) (AOs.r AOs.e)
         ·skip
          refine CW.skip ?_
          refine CW.keep 66 [] rfl ?_;(conv=>whnf);refine ⟨?_⟩
          refine CW.k XK 66 1 [2] rfl ?_
          (conv=>whnf);refine ⟨rfl,?_⟩
          refine CW.ret ?_
          exact Post.one (RV.b rfl (by first | rfl | (exfalso; have p0 := mkVMessage_facts (m := (rdMsg t).1) (by have h9 := rdm.2.1; omega) (by have h9 := rdm.2.2; omega); simp_all [eqMessage_refl]; done) | (exfalso; have p0 := mkVMessage_facts (m := (rdMsg t).1) (by have h9 := rdm.2.1; omega) (by have h9 := rdm.2.2; omega); simp_all [eqMessage_refl]; omega))) (AOs.r AOs.e)
end Go.Proofs.Ytmhnehgpmndiiaa.Y
