import Derived.Test.YtmhnehgpmndiiaaWMessagesC
namespace Go.Proofs.Ytmhnehgpmndiiaa.Y
open Go Go.RowKit Go.Eng Go.Proofs
set_option maxRecDepth 10000
set_option maxHeartbeats 4000000 in
theorem spec_Decode_fn (t : ByteArray) (ht : t.size ≤ 1048576) : Eng.Fn E.P 5 [.one (.r (.v (.string t)))] (.tup [.agg ((Message.c ((rdMsg t).1)).map .r), .one (.w (.v (.bool ((rdMsg t).2))))]) [.one (.r (.v (.string t)))] := by
 refine Eng.Fn.intro (E := E) (rvs := [.cell 2 25, .tmp 3]) Try.func5 rfl rfl rfl (by simp [outSlots, moved, rvSlot, sl]) ?_
 intro B g bo
 refine CW.keep 115 [0] rfl ?_;(conv=>whnf);refine ⟨?_⟩
 have hc0 := c0_ok ht
 have hc1 : (g1C t).sc.ok := tkC_ok hc0 (by omega)
 have hc5 : (g5C t).sc.ok := numC_ok (numC_ok (numC_ok (numC_ok hc1)))
 have hc6 : (tkC (g5C t) 1).sc.ok := tkC_ok hc5 (by omega)
 have hc7 : (g7C t).sc.ok := g7_ok ht
 refine CW.k XK 115 2 [0,2,4,16] rfl ?_
 (conv=>whnf);intro b1;(conv=>whnf);intro b2;(conv=>whnf);refine ⟨rfl,?_⟩
 refine CW.seq ?_
 refine CW.region ?_
 refine RW.k XK 115 1 rfl ?_
 (conv=>whnf);refine ⟨rfl,?_⟩
 refine RW.callP (k := 16) (spec_l05Take_fn (⟨t, 0, false⟩ : l05Cur) 3 hc0 (by omega)) rfl rfl (Nat.le_of_ble_eq_true rfl) (by decide) rfl (DT.r (DT.r (DT.r DT.e))) (AsPs.here rfl (.cons (.one (.r .r)) (.nil))) fun g3 q4 => ?_
 refine RW.k XK 115 1 rfl ?_
 (conv=>whnf);refine ⟨rfl,?_⟩
 refine RW.nil ?_
 refine CW.keep 115 [0,2,4,5,16] rfl ?_;(conv=>whnf);refine ⟨?_⟩
 refine CW.seq ?_
 refine CW.k XK 115 1 [0,2,4,5,16,22] rfl ?_
 (conv=>whnf);refine ⟨rfl,?_⟩
 refine CW.cond rfl (fun h5 => ?_) (fun h5 => ?_)
 ·skip
  have hbd : (g1C t).bad = true := h5
  refine CW.k XK 115 1 [2,3] rfl ?_
  (conv=>whnf);refine ⟨rfl,?_⟩
  refine CW.ret ?_
  exact Post.tup (by decide) (RVs.c (RV.c (f := fun e => (Message.c e).map .r) (e' := (⟨0, 0, 0, 0, 0, 0, 0, false, [], [], ⟨#[]⟩, false⟩ : Message)) rfl rfl rfl rfl (DT.r (DT.r (DT.r (DT.r (DT.r (DT.r (DT.r (DT.r (DT.nr (DT.nr (DT.r (DT.r DT.e)))))))))))) (by rw [rdS_bad0 ht hbd] <;> rfl)) (RVs.c (RV.b rfl (by rw [rdS_bad0 ht hbd] <;> rfl)) RVs.e)) (AOs.r AOs.e)
 ·skip
  have hbd : (g1C t).bad = false := h5
  have hsz : (tkW (⟨t, 0, false⟩ : l05Cur) 3).size = 3 := hd_size ht hbd
  refine CW.skip ?_
  refine CW.keep 115 [0,2,4,5,16] rfl ?_;(conv=>whnf);refine ⟨?_⟩
  refine CW.anyJ2 (fc := [(2, b1, [.int .i64 0, .int .i64 0, .int .i64 0, .int .i64 0, .int .i64 0, .int .i64 0, .int .i64 0, .bool false, .slice none 0 0, .slice none 0 0, .string (⟨#[]⟩), .bool false]), (16, b2, [.string ((tkC (⟨t, 0, false⟩ : l05Cur) 3).text), .int .i64 ((tkC (⟨t, 0, false⟩ : l05Cur) 3).at_), .bool ((tkC (⟨t, 0, false⟩ : l05Cur) 3).bad)])]) (L0 := [(0, S t), (2, .obj b1 [I 0, I 0, I 0, I 0, I 0, I 0, I 0, Bo false, .r (.v (.slice none 0 0)), .r (.v (.slice none 0 0)), S (⟨#[]⟩), Bo false]), (4, .pt 16 b2 0), (16, .obj b2 ((l05Cur.c (tkC (⟨t, 0, false⟩ : l05Cur) 3)).map .r))]) 115 (fun (bo6_10_1 : Nat) => [(6, .obj bo6_10_1 [I (IntKind.i64.wrap (bat (tkW (⟨t, 0, false⟩ : l05Cur) 3) 0)), I (IntKind.i64.wrap (bat (tkW (⟨t, 0, false⟩ : l05Cur) 3) 1)), I (IntKind.i64.wrap (bat (tkW (⟨t, 0, false⟩ : l05Cur) 3) 2)), I 0, I 0, I 0, I 0, Bo false, .r (.v (.slice none 0 0)), .r (.v (.slice none 0 0)), S (⟨#[]⟩), Bo false])]) (fun all hall f hf b0 hb K hK => ?_) ?_
  ·skip
   have ro6_2 : ∀ B, ∀ (bo6_10_1 : Nat), RA f E B all 0 (bt 12 4095) ⟨115, [(6, .obj bo6_10_1 [I (IntKind.i64.wrap (bat (tkW (⟨t, 0, false⟩ : l05Cur) 3) 0)), I (IntKind.i64.wrap (bat (tkW (⟨t, 0, false⟩ : l05Cur) 3) 1)), I (IntKind.i64.wrap (bat (tkW (⟨t, 0, false⟩ : l05Cur) 3) 2)), I 0, I 0, I 0, I 0, Bo false, .r (.v (.slice none 0 0)), .r (.v (.slice none 0 0)), S (⟨#[]⟩), Bo false])] ++ b0⟩ K := by
    intro B bo6_10_1
    exact RA.of2 hall hf hb (RA.finH (Tell.of rfl) (by kernel_rfl) (hK bo6_10_1 _ rfl (Le.of rfl)))
   have ro6_1 : ∀ B, ∀ (bo6_10_1 : Nat), RA f E B all 1 (bt 12 2047) ⟨115, [(6, .obj bo6_10_1 [I 0, I 0, I 0, I 0, I 0, I 0, I 0, Bo false, .r (.v (.slice none 0 0)), .r (.v (.slice none 0 0)), S (⟨#[]⟩), Bo false]), (33, .agg [I (IntKind.i64.wrap (bat (tkW (⟨t, 0, false⟩ : l05Cur) 3) 0)), I (IntKind.i64.wrap (bat (tkW (⟨t, 0, false⟩ : l05Cur) 3) 1)), I (IntKind.i64.wrap (bat (tkW (⟨t, 0, false⟩ : l05Cur) 3) 2)), I 0, I 0, I 0, I 0, Bo false, .r (.v (.slice none 0 0)), .r (.v (.slice none 0 0)), S (⟨#[]⟩), Bo false])] ++ b0⟩ K := by
    intro B bo6_10_1
    refine RA.of2 hall hf hb (RA.stepH (L := [11]) (Tell.of rfl) (by kernel_rfl) (by simp) (RA.each ?_ (RA.each0)))
    ·skip
     refine RO.storeAgg (es := [I (IntKind.i64.wrap (bat (tkW (⟨t, 0, false⟩ : l05Cur) 3) 0)), I (IntKind.i64.wrap (bat (tkW (⟨t, 0, false⟩ : l05Cur) 3) 1)), I (IntKind.i64.wrap (bat (tkW (⟨t, 0, false⟩ : l05Cur) 3) 2)), I 0, I 0, I 0, I 0, Bo false, .r (.v (.slice none 0 0)), .r (.v (.slice none 0 0)), S (⟨#[]⟩), Bo false]) rfl rfl rfl rfl rfl rfl rfl rfl rfl rfl (Nat.le_of_ble_eq_true rfl) rfl ?_
     exact RA.to2 hall hf hb (ro6_2 B bo6_10_1) rfl rfl (by kernel_rfl)
   have ro6_0 : ∀ B, RA f E B all 2 (bt 12 1023) ⟨115, [(33, .agg [I (IntKind.i64.wrap (bat (tkW (⟨t, 0, false⟩ : l05Cur) 3) 0)), I (IntKind.i64.wrap (bat (tkW (⟨t, 0, false⟩ : l05Cur) 3) 1)), I (IntKind.i64.wrap (bat (tkW (⟨t, 0, false⟩ : l05Cur) 3) 2)), I 0, I 0, I 0, I 0, Bo false, .r (.v (.slice none 0 0)), .r (.v (.slice none 0 0)), S (⟨#[]⟩), Bo false])] ++ b0⟩ K := by
    intro B
    refine RA.of2 hall hf hb (RA.stepH (L := [10]) (Tell.of rfl) (by kernel_rfl) (by simp) (RA.each ?_ (RA.each0)))
    ·skip
     refine RO.alloc (ds := [I 0, I 0, I 0, I 0, I 0, I 0, I 0, Bo false, .r (.v (.slice none 0 0)), .r (.v (.slice none 0 0)), S (⟨#[]⟩), Bo false]) rfl rfl rfl rfl rfl rfl fun bo6_10_1 => ?_
     exact RA.to2 hall hf hb (ro6_1 B bo6_10_1) rfl rfl (by kernel_rfl)
   refine RA.start (by kernel_rfl) (by kernel_rfl) (m := 12) (ls' := (bt 12 0)) ?_
   refine RA.fr XK 115 11 [0] (bt 12 1) rfl rfl (by kernel_rfl) (Tell.of rfl) ?_
   (conv=>whnf);refine ⟨rfl,fun B=>?_⟩
   refine RA.first (i := 1) (ls' := (bt 12 3)) (Tell.of rfl) (by kernel_rfl) rfl rfl rfl (VF.p (V.idxStr (m := 0) rfl (by kernel_rfl) rfl rfl (by omega))) ?_
   refine RA.fr XK 115 8 [2,3] (bt 12 15) rfl rfl (by kernel_rfl) (Tell.of rfl) ?_
   (conv=>whnf);refine ⟨rfl,fun B=>?_⟩
   refine RA.first (i := 4) (ls' := (bt 12 31)) (Tell.of rfl) (by kernel_rfl) rfl rfl rfl (VF.p (V.idxStr (m := 1) rfl (by kernel_rfl) rfl rfl (by omega))) ?_
   refine RA.fr XK 115 5 [5,6] (bt 12 127) rfl rfl (by kernel_rfl) (Tell.of rfl) ?_
   (conv=>whnf);refine ⟨rfl,fun B=>?_⟩
   refine RA.first (i := 7) (ls' := (bt 12 255)) (Tell.of rfl) (by kernel_rfl) rfl rfl rfl (VF.p (V.idxStr (m := 2) rfl (by kernel_rfl) rfl rfl (by omega))) ?_
   refine RA.fr XK 115 2 [8,9] (bt 12 1023) rfl rfl (by kernel_rfl) (Tell.of rfl) ?_
   (conv=>whnf);refine ⟨rfl,fun B=>?_⟩
   exact RA.to2 hall hf hb (ro6_0 B) rfl rfl (by kernel_rfl)
  ·rintro bo6_10_1
   refine CW.seq ?_
   refine CW.region ?_
   refine RW.k XK 115 1 rfl ?_
   (conv=>whnf);refine ⟨rfl,?_⟩
   refine RW.callP (k := 16) (spec_l05Var_fn (tkC (⟨t, 0, false⟩ : l05Cur) 3) hc1) rfl rfl (Nat.le_of_ble_eq_true rfl) (by decide) rfl (DT.r (DT.r (DT.r DT.e))) (AsPs.here rfl (.nil)) fun g7 q8 => ?_
   refine RW.k XK 115 2 rfl ?_
   (conv=>whnf);refine ⟨rfl,?_⟩
   refine RW.nil ?_
   refine CW.keep 115 [0,2,4,6,16] rfl ?_;(conv=>whnf);refine ⟨?_⟩
   refine CW.seq ?_
   refine CW.region ?_
   refine RW.k XK 115 1 rfl ?_
   (conv=>whnf);refine ⟨rfl,?_⟩
   refine RW.callP (k := 16) (spec_l05Var_fn (numC (tkC (⟨t, 0, false⟩ : l05Cur) 3)) (numC_ok hc1)) rfl rfl (Nat.le_of_ble_eq_true rfl) (by decide) rfl (DT.r (DT.r (DT.r DT.e))) (AsPs.here rfl (.nil)) fun g9 q10 => ?_
   refine RW.k XK 115 2 rfl ?_
   (conv=>whnf);refine ⟨rfl,?_⟩
   refine RW.nil ?_
   refine CW.keep 115 [0,2,4,6,16] rfl ?_;(conv=>whnf);refine ⟨?_⟩
   refine CW.seq ?_
   refine CW.region ?_
   refine RW.k XK 115 1 rfl ?_
   (conv=>whnf);refine ⟨rfl,?_⟩
   refine RW.callP (k := 16) (spec_l05Var_fn (numC (numC (tkC (⟨t, 0, false⟩ : l05Cur) 3))) (numC_ok (numC_ok hc1))) rfl rfl (Nat.le_of_ble_eq_true rfl) (by decide) rfl (DT.r (DT.r (DT.r DT.e))) (AsPs.here rfl (.nil)) fun g11 q12 => ?_
   refine RW.k XK 115 2 rfl ?_
   (conv=>whnf);refine ⟨rfl,?_⟩
   refine RW.nil ?_
   refine CW.keep 115 [0,2,4,6,16] rfl ?_;(conv=>whnf);refine ⟨?_⟩
   refine CW.seq ?_
   refine CW.region ?_
   refine RW.k XK 115 1 rfl ?_
   (conv=>whnf);refine ⟨rfl,?_⟩
   refine RW.callP (k := 16) (spec_l05Var_fn (numC (numC (numC (tkC (⟨t, 0, false⟩ : l05Cur) 3)))) (numC_ok (numC_ok (numC_ok hc1)))) rfl rfl (Nat.le_of_ble_eq_true rfl) (by decide) rfl (DT.r (DT.r (DT.r DT.e))) (AsPs.here rfl (.nil)) fun g13 q14 => ?_
   refine RW.k XK 115 2 rfl ?_
   (conv=>whnf);refine ⟨rfl,?_⟩
   refine RW.nil ?_
   refine CW.keep 115 [0,2,4,6,16] rfl ?_;(conv=>whnf);refine ⟨?_⟩
   refine CW.seq ?_
   refine CW.region ?_
   refine RW.k XK 115 1 rfl ?_
   (conv=>whnf);refine ⟨rfl,?_⟩
   refine RW.callP (k := 16) (spec_l05Take_fn (numC (numC (numC (numC (tkC (⟨t, 0, false⟩ : l05Cur) 3))))) 1 hc5 (by omega)) rfl rfl (Nat.le_of_ble_eq_true rfl) (by decide) rfl (DT.r (DT.r (DT.r DT.e))) (AsPs.here rfl (.cons (.one (.r .r)) (.nil))) fun g15 q16 => ?_
   refine RW.k XK 115 3 rfl ?_
   (conv=>whnf);refine ⟨rfl,?_⟩
   refine RW.nil ?_
   refine CW.keep 115 [0,2,4,6,16] rfl ?_;(conv=>whnf);refine ⟨?_⟩
   refine CW.seq ?_
   refine CW.region ?_
   refine RW.k XK 115 1 rfl ?_
   (conv=>whnf);refine ⟨rfl,?_⟩
   refine RW.callP (k := 16) (spec_l05Take_fn (tkC (numC (numC (numC (numC (tkC (⟨t, 0, false⟩ : l05Cur) 3))))) 1) 1 hc6 (by omega)) rfl rfl (Nat.le_of_ble_eq_true rfl) (by decide) rfl (DT.r (DT.r (DT.r DT.e))) (AsPs.here rfl (.cons (.one (.r .r)) (.nil))) fun g17 q18 => ?_
   refine RW.k XK 115 3 rfl ?_
   (conv=>whnf);refine ⟨rfl,?_⟩
   refine RW.nil ?_
   refine CW.keep 115 [0,2,4,6,16] rfl ?_;(conv=>whnf);refine ⟨?_⟩
   refine CW.seq ?_
   refine CW.region ?_
   refine RW.k XK 115 1 rfl ?_
   (conv=>whnf);refine ⟨rfl,?_⟩
   refine RW.callP (k := 16) (spec_l05Var_fn (tkC (tkC (numC (numC (numC (numC (tkC (⟨t, 0, false⟩ : l05Cur) 3))))) 1) 1) hc7) rfl rfl (Nat.le_of_ble_eq_true rfl) (by decide) rfl (DT.r (DT.r (DT.r DT.e))) (AsPs.here rfl (.nil)) fun g19 q20 => ?_
   refine RW.k XK 115 1 rfl ?_
   (conv=>whnf);refine ⟨rfl,?_⟩
   refine RW.nil ?_
   refine CW.keep 115 [0,2,4,6,7,16] rfl ?_;(conv=>whnf);refine ⟨?_⟩
   refine CW.seq ?_
   refine CW.k XK 115 1 [0,2,4,6,7,8,16] rfl ?_
   (conv=>whnf);refine ⟨rfl,?_⟩
   refine CW.block ?_
   refine CW.nilCell 6 8 3 Entry.c rfl rfl ?_
   refine CW.loopI 115 (fun (zz : Nat × l05Cur × List Entry × Value) => match zz with | (i, c, es, X) => [(0, S t), (2, .obj b1 [I 0, I 0, I 0, I 0, I 0, I 0, I 0, Bo false, .r (.v (.slice none 0 0)), .r (.v (.slice none 0 0)), S (⟨#[]⟩), Bo false]), (4, .pt 16 b2 0), (6, .obj bo6_10_1 [I (IntKind.i64.wrap (bat (tkW (⟨t, 0, false⟩ : l05Cur) 3) 0)), I (IntKind.i64.wrap (bat (tkW (⟨t, 0, false⟩ : l05Cur) 3) 1)), I (IntKind.i64.wrap (bat (tkW (⟨t, 0, false⟩ : l05Cur) 3) 2)), I (numW (tkC (⟨t, 0, false⟩ : l05Cur) 3)), I (numW (numC (tkC (⟨t, 0, false⟩ : l05Cur) 3))), I (numW (numC (numC (tkC (⟨t, 0, false⟩ : l05Cur) 3)))), I (numW (numC (numC (numC (tkC (⟨t, 0, false⟩ : l05Cur) 3))))), Bo ((tkW (numC (numC (numC (numC (tkC (⟨t, 0, false⟩ : l05Cur) 3))))) 1).toList == (⟨#[1]⟩ : ByteArray).toList), .w (sl 3 Entry.c es) X, .r (.v (.slice none 0 0)), S (⟨#[]⟩), Bo ((tkW (tkC (numC (numC (numC (numC (tkC (⟨t, 0, false⟩ : l05Cur) 3))))) 1) 1).toList == (⟨#[1]⟩ : ByteArray).toList)]), (7, I (numW (tkC (tkC (numC (numC (numC (numC (tkC (⟨t, 0, false⟩ : l05Cur) 3))))) 1) 1))), (8, I (i : Int)), (16, .obj b2 ((l05Cur.c c).map .r))]) (fun (zz : Nat × l05Cur × List Entry × Value) => match zz with | (i, c, es, X) => SeP t i c es) (fun (zz : Nat × l05Cur × List Entry × Value) => match zz with | (i, c, es, X) => 6 - i) (0, _, [], _) rfl (Le.c rfl <| Le.c rfl <| Le.c rfl <| Le.c rfl <| Le.c rfl <| Le.c rfl <| Le.c rfl <| Le.e) (SeP.init ht) ?_
   rintro ⟨i, c, es, X⟩ hP
   refine CW.seq ?_
   refine CW.seqJ 115 (fun (v21 : Bool) => [(0, S t), (2, .obj b1 [I 0, I 0, I 0, I 0, I 0, I 0, I 0, Bo false, .r (.v (.slice none 0 0)), .r (.v (.slice none 0 0)), S (⟨#[]⟩), Bo false]), (4, .pt 16 b2 0), (6, .obj bo6_10_1 [I (IntKind.i64.wrap (bat (tkW (⟨t, 0, false⟩ : l05Cur) 3) 0)), I (IntKind.i64.wrap (bat (tkW (⟨t, 0, false⟩ : l05Cur) 3) 1)), I (IntKind.i64.wrap (bat (tkW (⟨t, 0, false⟩ : l05Cur) 3) 2)), I (numW (tkC (⟨t, 0, false⟩ : l05Cur) 3)), I (numW (numC (tkC (⟨t, 0, false⟩ : l05Cur) 3))), I (numW (numC (numC (tkC (⟨t, 0, false⟩ : l05Cur) 3)))), I (numW (numC (numC (numC (tkC (⟨t, 0, false⟩ : l05Cur) 3))))), Bo ((tkW (numC (numC (numC (numC (tkC (⟨t, 0, false⟩ : l05Cur) 3))))) 1).toList == (⟨#[1]⟩ : ByteArray).toList), .w (sl 3 Entry.c es) X, .r (.v (.slice none 0 0)), S (⟨#[]⟩), Bo ((tkW (tkC (numC (numC (numC (numC (tkC (⟨t, 0, false⟩ : l05Cur) 3))))) 1) 1).toList == (⟨#[1]⟩ : ByteArray).toList)]), (7, I (numW (tkC (tkC (numC (numC (numC (numC (tkC (⟨t, 0, false⟩ : l05Cur) 3))))) 1) 1))), (8, I (i : Int)), (16, .obj b2 ((l05Cur.c c).map .r)), (69, Bo v21)]) (fun v21 => v21 = ((decide ((i : Int) < (numW (tkC (tkC (numC (numC (numC (numC (tkC (⟨t, 0, false⟩ : l05Cur) 3))))) 1) 1))) && (!c.bad)) && decide ((i : Int) ≤ 4))) ?_ ?_
   ·refine CW.region ?_
    refine RW.k XK 115 4 rfl ?_
    (conv=>whnf);refine ⟨rfl,?_⟩
    refine RW.gv rfl rfl rfl rfl (fun h22 => V.mv (d := .pt 16 b2 0) rfl rfl) (fun h22 => ?_) (fun h22 => ?_)
    ·skip
     refine RW.k XK 115 6 rfl ?_
     (conv=>whnf);refine ⟨rfl,?_⟩
     refine RW.gv rfl rfl rfl rfl (fun h23 => V.mv (d := I (i : Int)) rfl rfl) (fun h23 => ?_) (fun h23 => ?_)
     ·skip
      refine RW.k XK 115 2 rfl ?_
      (conv=>whnf);refine ⟨rfl,?_⟩
      refine RW.nil ?_
      exact ⟨_, by first | rfl | (simp_all; done) | (simp_all; omega) | grind, rfl, Le.of rfl⟩
     ·skip
      refine RW.k XK 115 2 rfl ?_
      (conv=>whnf);refine ⟨rfl,?_⟩
      refine RW.nil ?_
      exact ⟨_, by first | rfl | (simp_all; done) | (simp_all; omega) | grind, rfl, Le.of rfl⟩
    ·skip
     refine RW.k XK 115 9 rfl ?_
     (conv=>whnf);refine ⟨rfl,?_⟩
     refine RW.nil ?_
     exact ⟨_, by first | rfl | (simp_all; done) | (simp_all; omega) | grind, rfl, Le.of rfl⟩
   ·intro v21 hv24
    refine CW.cond rfl (fun h25 => ?_) (fun h25 => ?_)
    ·skip
     have hgo : ((decide ((i : Int) < numW (g7C t)) && !c.bad) && decide ((i : Int) ≤ 4)) = true := hv24.symm.trans h25
     refine CW.skip ?_
     refine CW.keep 115 [0,2,4,6,7,8,16] rfl ?_;(conv=>whnf);refine ⟨?_⟩
     refine CW.seq ?_
     refine CW.block ?_
     refine CW.seq ?_
     refine CW.region ?_
     refine RW.k XK 115 1 rfl ?_
     (conv=>whnf);refine ⟨rfl,?_⟩
     refine RW.callP (k := 16) (spec_l05ReadShort_fn c hP.ok) rfl rfl (Nat.le_of_ble_eq_true rfl) (by decide) rfl (DT.r (DT.r (DT.r DT.e))) (AsPs.here rfl (.nil)) fun g26 q27 => ?_
     refine RW.call rfl (spec_ReadEntry_fn (rshW c) (rshW_size hP.ok)) rfl (.cons (.one (.r .r)) (.nil)) fun g28 => ?_
     refine RW.k XK 115 7 rfl ?_
     (conv=>whnf);intro b29;(conv=>whnf);refine ⟨rfl,?_⟩
     refine RW.freezeB (ts := (Entry.c ((rdEnt (rshW c)).2.1))) 10 rfl (DRd.r (DRd.r (DRd.r DRd.e))) ?_
     refine RW.k XK 115 1 rfl ?_
     (conv=>whnf);refine ⟨rfl,?_⟩
     refine RW.nil ?_
     refine CW.keep 115 [0,2,4,6,7,8,10,16] rfl ?_;(conv=>whnf);refine ⟨?_⟩
     refine CW.region ?_
     refine RW.k XK 115 3 rfl ?_
     (conv=>whnf);refine ⟨rfl,?_⟩
     refine RW.build1 (c := Entry.c) (v := ((rdEnt (rshW c)).2.1)) rfl rfl rfl rfl rfl rfl (DW.v (DW.v (DW.v DW.e))) Entry.len (by decide) (by decide) fun X30 => ?_
     refine RW.takeO 80 6 8 (by decide) rfl rfl rfl ?_
     refine RW.appendSR (c := Entry.c) (l1 := es) (l2 := [((rdEnt (rshW c)).2.1)]) rfl rfl rfl rfl rfl rfl rfl rfl (.al (k := none) (i := 82) (sz := 3) (V := X30) rfl rfl nofun) (by decide) (Nat.le_of_ble_eq_true rfl) Entry.len (fun _ => rfl) rfl (by have h7 := hP.le; have h6 := hP.len; simp only [maxLen, List.length_singleton]; omega) (by have h7 := hP.le; have h6 := hP.len; simp only [maxLen, List.length_singleton]; omega) fun X31 => ?_
     refine RW.k XK 115 2 rfl ?_
     (conv=>whnf);refine ⟨rfl,?_⟩
     refine RW.keep 115 [0,2,4,6,7,8,16,83] rfl ?_;(conv=>whnf);refine ⟨?_⟩
     refine RW.pullT (k := 6) (l := 83) (j := 8) 6 83 8 rfl rfl rfl (by decide) rfl rfl rfl ?_
     refine RW.keep 115 [0,2,4,6,7,8,16] rfl ?_;(conv=>whnf);refine ⟨?_⟩
     refine RW.nil ?_
     refine CW.keep 115 [0,2,4,6,7,8,16] rfl ?_;(conv=>whnf);refine ⟨?_⟩
     refine CW.region ?_
     refine RW.k XK 115 1 rfl ?_
     (conv=>whnf);refine ⟨rfl,?_⟩
     refine RW.v rfl (V.inc rfl rfl rfl (show i < 6 by have h9 := hP.le; omega) (by simp only [maxLen]; omega)) ?_
     refine RW.k XK 115 1 rfl ?_
     (conv=>whnf);refine ⟨rfl,?_⟩
     refine RW.nil ?_
     exact ⟨(i + 1, _, _, _), by have h9 := hP.le; simp only []; omega, (hP.go hgo), rfl, Le.c rfl <| Le.c rfl <| Le.c rfl <| Le.c rfl <| Le.c rfl <| Le.c rfl <| Le.c rfl <| Le.e⟩
    ·skip
     have hfe := hP.fin (show ((decide ((i : Int) < numW (g7C t)) && !c.bad) && decide ((i : Int) ≤ 4)) = false from hv24.symm.trans h25)
     refine CW.exit ?_
     refine CW.keep 115 [0,2,4,6,16] rfl ?_;(conv=>whnf);refine ⟨?_⟩
     refine CW.seq ?_
     refine CW.region ?_
     refine RW.k XK 115 1 rfl ?_
     (conv=>whnf);refine ⟨rfl,?_⟩
     refine RW.callP (k := 16) (spec_l05ReadShort_fn c hP.ok) rfl rfl (Nat.le_of_ble_eq_true rfl) (by decide) rfl (DT.r (DT.r (DT.r DT.e))) (AsPs.here rfl (.nil)) fun g32 q33 => ?_
     refine RW.call rfl (spec_ReadConf_fn (rshW c) (rshW_size hP.ok)) rfl (.cons (.one (.r .r)) (.nil)) fun g34 => ?_
     refine RW.k XK 115 5 rfl ?_
     (conv=>whnf);refine ⟨rfl,?_⟩
     refine RW.keep 115 [0,2,4,6,16,89] rfl ?_;(conv=>whnf);refine ⟨?_⟩
     refine RW.pullT (k := 6) (l := 89) (j := 9) 6 89 9 rfl rfl rfl (by decide) rfl rfl rfl ?_
     refine RW.keep 115 [0,2,4,6,16] rfl ?_;(conv=>whnf);refine ⟨?_⟩
     refine RW.nil ?_
     refine CW.keep 115 [0,2,4,6,16] rfl ?_;(conv=>whnf);refine ⟨?_⟩
     refine CW.seq ?_
     refine CW.region ?_
     refine RW.k XK 115 1 rfl ?_
     (conv=>whnf);refine ⟨rfl,?_⟩
     refine RW.callP (k := 16) (spec_l05ReadShort_fn (rshC c) (rshC_ok hP.ok)) rfl rfl (Nat.le_of_ble_eq_true rfl) (by decide) rfl (DT.r (DT.r (DT.r DT.e))) (AsPs.here rfl (.nil)) fun g35 q36 => ?_
     refine RW.k XK 115 2 rfl ?_
     (conv=>whnf);refine ⟨rfl,?_⟩
     refine RW.nil ?_
     refine CW.keep 115 [0,2,4,6,16] rfl ?_;(conv=>whnf);refine ⟨?_⟩
     refine CW.seq ?_
     refine CW.region ?_
     refine RW.k XK 115 1 rfl ?_
     (conv=>whnf);refine ⟨rfl,?_⟩
     refine RW.callOwn rfl (spec_Encode_fn (⟨(IntKind.i64.wrap (bat (tkW (⟨t, 0, false⟩ : l05Cur) 3) 0)), (IntKind.i64.wrap (bat (tkW (⟨t, 0, false⟩ : l05Cur) 3) 1)), (IntKind.i64.wrap (bat (tkW (⟨t, 0, false⟩ : l05Cur) 3) 2)), (numW (tkC (⟨t, 0, false⟩ : l05Cur) 3)), (numW (numC (tkC (⟨t, 0, false⟩ : l05Cur) 3))), (numW (numC (numC (tkC (⟨t, 0, false⟩ : l05Cur) 3)))), (numW (numC (numC (numC (tkC (⟨t, 0, false⟩ : l05Cur) 3))))), ((tkW (numC (numC (numC (numC (tkC (⟨t, 0, false⟩ : l05Cur) 3))))) 1).toList == (⟨#[1]⟩ : ByteArray).toList), es, (readConf (rshW c)).1, (rshW (rshC c)), ((tkW (tkC (numC (numC (numC (numC (tkC (⟨t, 0, false⟩ : l05Cur) 3))))) 1) 1).toList == (⟨#[1]⟩ : ByteArray).toList)⟩ : Message) (sMsg_ok hP)) rfl (.cons (.agg (.cons (.r .r) (.cons (.r .r) (.cons (.r .r) (.cons (.r .r) (.cons (.r .r) (.cons (.r .r) (.cons (.r .r) (.cons (.r .r) (.cons (.r (.alo (k := none) (i := 6) (j := 8) (sz := 3) (V := X) rfl rfl rfl nofun)) (.cons (.r (.alo (k := none) (i := 6) (j := 9) (sz := 1) (V := (g34 0 0)) rfl rfl rfl nofun)) (.cons (.r .r) (.cons (.r .r) (.nil)))))))))))))) (.nil)) rfl fun g37 => ?_
     refine RW.k XK 115 5 rfl ?_
     (conv=>whnf);refine ⟨rfl,?_⟩
     refine RW.nil ?_
     refine CW.keep 115 [0,2,4,6,12,13,16] rfl ?_;(conv=>whnf);refine ⟨?_⟩
     refine CW.seq ?_
     refine CW.seqJ 115 (fun (v38 : Bool) => [(2, .obj b1 [I 0, I 0, I 0, I 0, I 0, I 0, I 0, Bo false, .r (.v (.slice none 0 0)), .r (.v (.slice none 0 0)), S (⟨#[]⟩), Bo false]), (6, .obj bo6_10_1 [I (IntKind.i64.wrap (bat (tkW (⟨t, 0, false⟩ : l05Cur) 3) 0)), I (IntKind.i64.wrap (bat (tkW (⟨t, 0, false⟩ : l05Cur) 3) 1)), I (IntKind.i64.wrap (bat (tkW (⟨t, 0, false⟩ : l05Cur) 3) 2)), I (numW (tkC (⟨t, 0, false⟩ : l05Cur) 3)), I (numW (numC (tkC (⟨t, 0, false⟩ : l05Cur) 3))), I (numW (numC (numC (tkC (⟨t, 0, false⟩ : l05Cur) 3)))), I (numW (numC (numC (numC (tkC (⟨t, 0, false⟩ : l05Cur) 3))))), Bo ((tkW (numC (numC (numC (numC (tkC (⟨t, 0, false⟩ : l05Cur) 3))))) 1).toList == (⟨#[1]⟩ : ByteArray).toList), .w (sl 3 Entry.c es) X, .w (sl 1 cI ((readConf (rshW c)).1)) (g34 0 0), S (rshW (rshC c)), Bo ((tkW (tkC (numC (numC (numC (numC (tkC (⟨t, 0, false⟩ : l05Cur) 3))))) 1) 1).toList == (⟨#[1]⟩ : ByteArray).toList)]), (112, Bo v38)]) (fun v38 => v38 = (((rshC (rshC c)).bad || (!((msgT (⟨(IntKind.i64.wrap (bat (tkW (⟨t, 0, false⟩ : l05Cur) 3) 0)), (IntKind.i64.wrap (bat (tkW (⟨t, 0, false⟩ : l05Cur) 3) 1)), (IntKind.i64.wrap (bat (tkW (⟨t, 0, false⟩ : l05Cur) 3) 2)), (numW (tkC (⟨t, 0, false⟩ : l05Cur) 3)), (numW (numC (tkC (⟨t, 0, false⟩ : l05Cur) 3))), (numW (numC (numC (tkC (⟨t, 0, false⟩ : l05Cur) 3)))), (numW (numC (numC (numC (tkC (⟨t, 0, false⟩ : l05Cur) 3))))), ((tkW (numC (numC (numC (numC (tkC (⟨t, 0, false⟩ : l05Cur) 3))))) 1).toList == (⟨#[1]⟩ : ByteArray).toList), es, (readConf (rshW c)).1, (rshW (rshC c)), ((tkW (tkC (numC (numC (numC (numC (tkC (⟨t, 0, false⟩ : l05Cur) 3))))) 1) 1).toList == (⟨#[1]⟩ : ByteArray).toList)⟩ : Message)).2))) || (!(((msgT (⟨(IntKind.i64.wrap (bat (tkW (⟨t, 0, false⟩ : l05Cur) 3) 0)), (IntKind.i64.wrap (bat (tkW (⟨t, 0, false⟩ : l05Cur) 3) 1)), (IntKind.i64.wrap (bat (tkW (⟨t, 0, false⟩ : l05Cur) 3) 2)), (numW (tkC (⟨t, 0, false⟩ : l05Cur) 3)), (numW (numC (tkC (⟨t, 0, false⟩ : l05Cur) 3))), (numW (numC (numC (tkC (⟨t, 0, false⟩ : l05Cur) 3)))), (numW (numC (numC (numC (tkC (⟨t, 0, false⟩ : l05Cur) 3))))), ((tkW (numC (numC (numC (numC (tkC (⟨t, 0, false⟩ : l05Cur) 3))))) 1).toList == (⟨#[1]⟩ : ByteArray).toList), es, (readConf (rshW c)).1, (rshW (rshC c)), ((tkW (tkC (numC (numC (numC (numC (tkC (⟨t, 0, false⟩ : l05Cur) 3))))) 1) 1).toList == (⟨#[1]⟩ : ByteArray).toList)⟩ : Message)).1).toList == t.toList)))) ?_ ?_
     ·refine CW.region ?_
      refine RW.k XK 115 5 rfl ?_
      (conv=>whnf);refine ⟨rfl,?_⟩
      refine RW.gv rfl rfl rfl rfl (fun h39 => V.mv (d := Bo ((msgT (⟨(IntKind.i64.wrap (bat (tkW (⟨t, 0, false⟩ : l05Cur) 3) 0)), (IntKind.i64.wrap (bat (tkW (⟨t, 0, false⟩ : l05Cur) 3) 1)), (IntKind.i64.wrap (bat (tkW (⟨t, 0, false⟩ : l05Cur) 3) 2)), (numW (tkC (⟨t, 0, false⟩ : l05Cur) 3)), (numW (numC (tkC (⟨t, 0, false⟩ : l05Cur) 3))), (numW (numC (numC (tkC (⟨t, 0, false⟩ : l05Cur) 3)))), (numW (numC (numC (numC (tkC (⟨t, 0, false⟩ : l05Cur) 3))))), ((tkW (numC (numC (numC (numC (tkC (⟨t, 0, false⟩ : l05Cur) 3))))) 1).toList == (⟨#[1]⟩ : ByteArray).toList), es, (readConf (rshW c)).1, (rshW (rshC c)), ((tkW (tkC (numC (numC (numC (numC (tkC (⟨t, 0, false⟩ : l05Cur) 3))))) 1) 1).toList == (⟨#[1]⟩ : ByteArray).toList)⟩ : Message)).2)) rfl rfl) (fun h39 => ?_) (fun h39 => ?_)
      ·skip
       refine RW.k XK 115 3 rfl ?_
       (conv=>whnf);refine ⟨rfl,?_⟩
       refine RW.gv rfl rfl rfl rfl (fun h40 => V.mv (d := S ((msgT (⟨(IntKind.i64.wrap (bat (tkW (⟨t, 0, false⟩ : l05Cur) 3) 0)), (IntKind.i64.wrap (bat (tkW (⟨t, 0, false⟩ : l05Cur) 3) 1)), (IntKind.i64.wrap (bat (tkW (⟨t, 0, false⟩ : l05Cur) 3) 2)), (numW (tkC (⟨t, 0, false⟩ : l05Cur) 3)), (numW (numC (tkC (⟨t, 0, false⟩ : l05Cur) 3))), (numW (numC (numC (tkC (⟨t, 0, false⟩ : l05Cur) 3)))), (numW (numC (numC (numC (tkC (⟨t, 0, false⟩ : l05Cur) 3))))), ((tkW (numC (numC (numC (numC (tkC (⟨t, 0, false⟩ : l05Cur) 3))))) 1).toList == (⟨#[1]⟩ : ByteArray).toList), es, (readConf (rshW c)).1, (rshW (rshC c)), ((tkW (tkC (numC (numC (numC (numC (tkC (⟨t, 0, false⟩ : l05Cur) 3))))) 1) 1).toList == (⟨#[1]⟩ : ByteArray).toList)⟩ : Message)).1)) rfl rfl) (fun h40 => ?_) (fun h40 => ?_)
       ·skip
        refine RW.k XK 115 3 rfl ?_
        (conv=>whnf);refine ⟨rfl,?_⟩
        refine RW.nil ?_
        exact ⟨_, by first | rfl | (simp_all; done) | (simp_all; omega) | grind, rfl, Le.of rfl⟩
       ·skip
        refine RW.k XK 115 3 rfl ?_
        (conv=>whnf);refine ⟨rfl,?_⟩
        refine RW.nil ?_
        exact ⟨_, by first | rfl | (simp_all; done) | (simp_all; omega) | grind, rfl, Le.of rfl⟩
      ·skip
       refine RW.k XK 115 7 rfl ?_
       (conv=>whnf);refine ⟨rfl,?_⟩
       refine RW.nil ?_
       exact ⟨_, by first | rfl | (simp_all; done) | (simp_all; omega) | grind, rfl, Le.of rfl⟩
     ·intro v38 hv41
      refine CW.cond rfl (fun h42 => ?_) (fun h42 => ?_)
      ·skip
       have hvv : sC t (es, c) = true := hv41.symm.trans h42
       refine CW.k XK 115 1 [2,3] rfl ?_
       (conv=>whnf);refine ⟨rfl,?_⟩
       refine CW.ret ?_
       exact Post.tup (by decide) (RVs.c (RV.c (f := fun e => (Message.c e).map .r) (e' := (⟨0, 0, 0, 0, 0, 0, 0, false, [], [], ⟨#[]⟩, false⟩ : Message)) rfl rfl rfl rfl (DT.r (DT.r (DT.r (DT.r (DT.r (DT.r (DT.r (DT.r (DT.nr (DT.nr (DT.r (DT.r DT.e)))))))))))) (by rw [rdS_fin ht hbd hfe hvv] <;> rfl)) (RVs.c (RV.b rfl (by rw [rdS_fin ht hbd hfe hvv] <;> rfl)) RVs.e)) (AOs.r AOs.e)
      ·skip
       have hvv : sC t (es, c) = false := hv41.symm.trans h42
       refine CW.skip ?_
       refine CW.keep 115 [2,6] rfl ?_;(conv=>whnf);refine ⟨?_⟩
       refine CW.seq ?_
       refine CW.region ?_
       refine RW.k XK 115 2 rfl ?_
       (conv=>whnf);refine ⟨rfl,?_⟩
       refine RW.keep 115 [2,6] rfl ?_;(conv=>whnf);refine ⟨?_⟩
       refine RW.pullO (k := 2) (l := 6) (j := 8) 2 6 8 rfl rfl rfl (by decide) rfl rfl rfl rfl ?_
       refine RW.keep 115 [2,6] rfl ?_;(conv=>whnf);refine ⟨?_⟩
       refine RW.pullO (k := 2) (l := 6) (j := 9) 2 6 9 rfl rfl rfl (by decide) rfl rfl rfl rfl ?_
       refine RW.keep 115 [2] rfl ?_;(conv=>whnf);refine ⟨?_⟩
       refine RW.k XK 115 1 rfl ?_
       (conv=>whnf);refine ⟨rfl,?_⟩
       refine RW.nil ?_
       refine CW.keep 115 [2,3] rfl ?_;(conv=>whnf);refine ⟨?_⟩
       refine CW.freeze 2 (d' := .obj b1 [I (IntKind.i64.wrap (bat (tkW (⟨t, 0, false⟩ : l05Cur) 3) 0)), I (IntKind.i64.wrap (bat (tkW (⟨t, 0, false⟩ : l05Cur) 3) 1)), I (IntKind.i64.wrap (bat (tkW (⟨t, 0, false⟩ : l05Cur) 3) 2)), I (numW (tkC (⟨t, 0, false⟩ : l05Cur) 3)), I (numW (numC (tkC (⟨t, 0, false⟩ : l05Cur) 3))), I (numW (numC (numC (tkC (⟨t, 0, false⟩ : l05Cur) 3)))), I (numW (numC (numC (numC (tkC (⟨t, 0, false⟩ : l05Cur) 3))))), Bo ((tkW (numC (numC (numC (numC (tkC (⟨t, 0, false⟩ : l05Cur) 3))))) 1).toList == (⟨#[1]⟩ : ByteArray).toList), .r (sl 3 Entry.c es), .r (sl 1 cI ((readConf (rshW c)).1)), S (rshW (rshC c)), Bo ((tkW (tkC (numC (numC (numC (numC (tkC (⟨t, 0, false⟩ : l05Cur) 3))))) 1) 1).toList == (⟨#[1]⟩ : ByteArray).toList)]) rfl rfl ?_
       refine CW.ret ?_
       exact Post.tup (by decide) (RVs.c (RV.c (f := fun e => (Message.c e).map .r) (e' := (⟨(IntKind.i64.wrap (bat (tkW (⟨t, 0, false⟩ : l05Cur) 3) 0)), (IntKind.i64.wrap (bat (tkW (⟨t, 0, false⟩ : l05Cur) 3) 1)), (IntKind.i64.wrap (bat (tkW (⟨t, 0, false⟩ : l05Cur) 3) 2)), (numW (tkC (⟨t, 0, false⟩ : l05Cur) 3)), (numW (numC (tkC (⟨t, 0, false⟩ : l05Cur) 3))), (numW (numC (numC (tkC (⟨t, 0, false⟩ : l05Cur) 3)))), (numW (numC (numC (numC (tkC (⟨t, 0, false⟩ : l05Cur) 3))))), ((tkW (numC (numC (numC (numC (tkC (⟨t, 0, false⟩ : l05Cur) 3))))) 1).toList == (⟨#[1]⟩ : ByteArray).toList), es, (readConf (rshW c)).1, (rshW (rshC c)), ((tkW (tkC (numC (numC (numC (numC (tkC (⟨t, 0, false⟩ : l05Cur) 3))))) 1) 1).toList == (⟨#[1]⟩ : ByteArray).toList)⟩ : Message)) rfl rfl rfl rfl (DT.r (DT.r (DT.r (DT.r (DT.r (DT.r (DT.r (DT.r (DT.r (DT.r (DT.r (DT.r DT.e)))))))))))) (by rw [rdS_fin ht hbd hfe hvv] <;> rfl)) (RVs.c (RV.b rfl (by rw [rdS_fin ht hbd hfe hvv] <;> rfl)) RVs.e)) (AOs.r AOs.e)
set_option maxHeartbeats 4000000 in
theorem spec_CommandOk_fn (x : Command) : Eng.Fn E.P 83 [.agg ((Command.c x).map .r)] (.one (.one (.w (.v (.bool (cmdOk x)))))) [.agg ((Command.c x).map .r)] := by
 refine Eng.Fn.intro (E := E) (rvs := [.tmp 2]) Try.func83 rfl rfl rfl (by simp [outSlots, moved, rvSlot, sl]) ?_
 intro B g bo
 refine CW.keep 76 [0] rfl ?_;(conv=>whnf);refine ⟨?_⟩
 refine CW.seq ?_
 refine CW.region ?_
 refine RW.k XK 76 1 rfl ?_
 (conv=>whnf);intro b1;(conv=>whnf);refine ⟨rfl,?_⟩
 refine RW.freezeB (ts := (Command.c x)) 1 rfl (DRd.r (DRd.r (DRd.r (DRd.r (DRd.r (DRd.r DRd.e)))))) ?_
 refine RW.k XK 76 1 rfl ?_
 (conv=>whnf);refine ⟨rfl,?_⟩
 refine RW.nil ?_
 refine CW.keep 76 [1] rfl ?_;(conv=>whnf);refine ⟨?_⟩
 refine CW.seq ?_
 refine CW.seqJ 76 (fun (v2 : Bool) => [(1, .rp (Command.c x)), (18, Bo v2)]) (fun v2 => v2 = (((!(inR x.token 0 1000000)) || (!(inR x.seq 0 1000000))) || (!(inR x.op 1 5)))) ?_ ?_
 ·refine CW.region ?_
  refine RW.k XK 76 2 rfl ?_
  (conv=>whnf);refine ⟨rfl,?_⟩
  refine RW.call rfl (spec_l01In_fn x.token 0 1000000) rfl (.cons (.one (.r .r)) (.cons (.one (.r .r)) (.cons (.one (.r .r)) (.nil)))) fun g3 => ?_
  refine RW.k XK 76 2 rfl ?_
  (conv=>whnf);refine ⟨rfl,?_⟩
  refine RW.gv rfl rfl rfl rfl (fun h4 => V.fieldR rfl rfl rfl rfl (by decide) rfl (Nat.le_of_ble_eq_true rfl)) (fun h4 => ?_) (fun h4 => ?_)
  ·skip
   refine RW.k XK 76 1 rfl ?_
   (conv=>whnf);refine ⟨rfl,?_⟩
   refine RW.gcall rfl rfl rfl rfl (spec_l01In_fn x.seq 0 1000000) rfl (.cons (.one (.r .r)) (.cons (.one (.r .r)) (.cons (.one (.r .r)) (.nil)))) fun g5 => ?_
   refine RW.k XK 76 3 rfl ?_
   (conv=>whnf);refine ⟨rfl,?_⟩
   refine RW.gv rfl rfl rfl rfl (fun h6 => V.fieldR rfl rfl rfl rfl (by decide) rfl (Nat.le_of_ble_eq_true rfl)) (fun h6 => ?_) (fun h6 => ?_)
   ·skip
    refine RW.k XK 76 1 rfl ?_
    (conv=>whnf);refine ⟨rfl,?_⟩
    refine RW.gcall rfl rfl rfl rfl (spec_l01In_fn x.op 1 5) rfl (.cons (.one (.r .r)) (.cons (.one (.r .r)) (.cons (.one (.r .r)) (.nil)))) fun g7 => ?_
    refine RW.k XK 76 2 rfl ?_
    (conv=>whnf);refine ⟨rfl,?_⟩
    refine RW.nil ?_
    exact ⟨_, by first | rfl | (simp_all; done) | (simp_all; omega) | grind, rfl, Le.of rfl⟩
   ·skip
    refine RW.k XK 76 4 rfl ?_
    (conv=>whnf);refine ⟨rfl,?_⟩
    refine RW.nil ?_
    exact ⟨_, by first | rfl | (simp_all; done) | (simp_all; omega) | grind, rfl, Le.of rfl⟩
  ·skip
   refine RW.k XK 76 10 rfl ?_
   (conv=>whnf);refine ⟨rfl,?_⟩
   refine RW.nil ?_
   exact ⟨_, by first | rfl | (simp_all; done) | (simp_all; omega) | grind, rfl, Le.of rfl⟩
 ·intro v2 hv8
  refine CW.cond rfl (fun h9 => ?_) (fun h9 => ?_)
  ·skip
   refine CW.k XK 76 1 [2] rfl ?_
   (conv=>whnf);refine ⟨rfl,?_⟩
   refine CW.ret ?_
   exact Post.one (RV.b rfl (by first | (simp_all [cmdOk, emp, inR]; done) | grind [cmdOk, emp, inR])) (AOs.a rfl AOs.e)
  ·skip
   refine CW.skip ?_
   refine CW.keep 76 [1] rfl ?_;(conv=>whnf);refine ⟨?_⟩
   refine CW.seq ?_
   refine CW.k XK 76 1 [1,21] rfl ?_
   (conv=>whnf);refine ⟨rfl,?_⟩
   refine CW.cond rfl (fun h10 => ?_) (fun h10 => ?_)
   ·skip
    refine CW.seqJ 76 (fun (v11 : Bool) => [(2, Bo v11)]) (fun v11 => v11 = (((((x.token == 0) && (x.seq == 0)) && (x.key.toList == (⟨#[]⟩ : ByteArray).toList)) && (x.val.toList == (⟨#[]⟩ : ByteArray).toList)) && (x.ver == 0))) ?_ ?_
    ·refine CW.region ?_
     refine RW.k XK 76 4 rfl ?_
     (conv=>whnf);refine ⟨rfl,?_⟩
     refine RW.gv rfl rfl rfl rfl (fun h12 => V.fieldR rfl rfl rfl rfl (by decide) rfl (Nat.le_of_ble_eq_true rfl)) (fun h12 => ?_) (fun h12 => ?_)
     ·skip
      refine RW.k XK 76 4 rfl ?_
      (conv=>whnf);refine ⟨rfl,?_⟩
      refine RW.gv rfl rfl rfl rfl (fun h13 => V.fieldR rfl rfl rfl rfl (by decide) rfl (Nat.le_of_ble_eq_true rfl)) (fun h13 => ?_) (fun h13 => ?_)
      ·skip
       refine RW.k XK 76 4 rfl ?_
       (conv=>whnf);refine ⟨rfl,?_⟩
       refine RW.gv rfl rfl rfl rfl (fun h14 => V.fieldR rfl rfl rfl rfl (by decide) rfl (Nat.le_of_ble_eq_true rfl)) (fun h14 => ?_) (fun h14 => ?_)
       ·skip
        refine RW.k XK 76 4 rfl ?_
        (conv=>whnf);refine ⟨rfl,?_⟩
        refine RW.gv rfl rfl rfl rfl (fun h15 => V.fieldR rfl rfl rfl rfl (by decide) rfl (Nat.le_of_ble_eq_true rfl)) (fun h15 => ?_) (fun h15 => ?_)
        ·skip
         refine RW.k XK 76 4 rfl ?_
         (conv=>whnf);refine ⟨rfl,?_⟩
         refine RW.nil ?_
         exact ⟨_, by first | rfl | (simp_all; done) | (simp_all; omega) | grind, rfl, Le.of rfl⟩
        ·skip
         refine RW.k XK 76 4 rfl ?_
         (conv=>whnf);refine ⟨rfl,?_⟩
         refine RW.nil ?_
         exact ⟨_, by first | rfl | (simp_all; done) | (simp_all; omega) | grind, rfl, Le.of rfl⟩
       ·skip
        refine RW.k XK 76 9 rfl ?_
        (conv=>whnf);refine ⟨rfl,?_⟩
        refine RW.nil ?_
        exact ⟨_, by first | rfl | (simp_all; done) | (simp_all; omega) | grind, rfl, Le.of rfl⟩
      ·skip
       refine RW.k XK 76 14 rfl ?_
       (conv=>whnf);refine ⟨rfl,?_⟩
       refine RW.nil ?_
       exact ⟨_, by first | rfl | (simp_all; done) | (simp_all; omega) | grind, rfl, Le.of rfl⟩
     ·skip
      refine RW.k XK 76 19 rfl ?_
      (conv=>whnf);refine ⟨rfl,?_⟩
      refine RW.nil ?_
      exact ⟨_, by first | rfl | (simp_all; done) | (simp_all; omega) | grind, rfl, Le.of rfl⟩
    ·intro v11 hv16
     refine CW.ret ?_
     exact Post.one (RV.b rfl (by first | (simp_all [cmdOk, emp, inR]; done) | grind [cmdOk, emp, inR])) (AOs.a rfl AOs.e)
   ·skip
    refine CW.skip ?_
    refine CW.keep 76 [1] rfl ?_;(conv=>whnf);refine ⟨?_⟩
    refine CW.seq ?_
    refine CW.seqJ 76 (fun (v17 : Bool) => [(1, .rp (Command.c x)), (55, Bo v17)]) (fun v17 => v17 = ((!(inR (x.key.size : Int) 1 8)) || decide ((x.val.size : Int) > 20))) ?_ ?_
    ·refine CW.region ?_
     refine RW.k XK 76 3 rfl ?_
     (conv=>whnf);refine ⟨rfl,?_⟩
     refine RW.call rfl (spec_l01In_fn (x.key.size : Int) 1 8) rfl (.cons (.one (.r .r)) (.cons (.one (.r .r)) (.cons (.one (.r .r)) (.nil)))) fun g18 => ?_
     refine RW.k XK 76 2 rfl ?_
     (conv=>whnf);refine ⟨rfl,?_⟩
     refine RW.gv rfl rfl rfl rfl (fun h19 => V.fieldR rfl rfl rfl rfl (by decide) rfl (Nat.le_of_ble_eq_true rfl)) (fun h19 => ?_) (fun h19 => ?_)
     ·skip
      refine RW.k XK 76 4 rfl ?_
      (conv=>whnf);refine ⟨rfl,?_⟩
      refine RW.nil ?_
      exact ⟨_, by first | rfl | (simp_all; done) | (simp_all; omega) | grind, rfl, Le.of rfl⟩
     ·skip
      refine RW.k XK 76 4 rfl ?_
      (conv=>whnf);refine ⟨rfl,?_⟩
      refine RW.nil ?_
      exact ⟨_, by first | rfl | (simp_all; done) | (simp_all; omega) | grind, rfl, Le.of rfl⟩
    ·intro v17 hv20
     refine CW.cond rfl (fun h21 => ?_) (fun h21 => ?_)
     ·skip
      refine CW.k XK 76 1 [2] rfl ?_
      (conv=>whnf);refine ⟨rfl,?_⟩
      refine CW.ret ?_
      exact Post.one (RV.b rfl (by first | (simp_all [cmdOk, emp, inR]; done) | grind [cmdOk, emp, inR])) (AOs.a rfl AOs.e)
     ·skip
      refine CW.skip ?_
      refine CW.keep 76 [1] rfl ?_;(conv=>whnf);refine ⟨?_⟩
      refine CW.seq ?_
      refine CW.k XK 76 1 [1,57] rfl ?_
      (conv=>whnf);refine ⟨rfl,?_⟩
      refine CW.block ?_
      refine CW.k XK 76 1 [1,57,58] rfl ?_
      (conv=>whnf);refine ⟨rfl,?_⟩
      refine CW.cond rfl (fun h22 => ?_) (fun h22 => ?_)
      ·skip
       refine CW.k XK 76 1 [2] rfl ?_
       (conv=>whnf);refine ⟨rfl,?_⟩
       refine CW.ret ?_
       exact Post.one (RV.b rfl (by first | (simp_all [cmdOk, emp, inR]; done) | grind [cmdOk, emp, inR])) (AOs.a rfl AOs.e)
      ·skip
       refine CW.k XK 76 1 [1,63] rfl ?_
       (conv=>whnf);refine ⟨rfl,?_⟩
       refine CW.cond rfl (fun h23 => ?_) (fun h23 => ?_)
       ·skip
        refine CW.seq ?_
        refine CW.region ?_
        refine RW.k XK 76 2 rfl ?_
        (conv=>whnf);refine ⟨rfl,?_⟩
        refine RW.call rfl (spec_l01In_fn x.ver 1 1000000000) rfl (.cons (.one (.r .r)) (.cons (.one (.r .r)) (.cons (.one (.r .r)) (.nil)))) fun g24 => ?_
        refine RW.k XK 76 1 rfl ?_
        (conv=>whnf);refine ⟨rfl,?_⟩
        refine RW.nil ?_
        refine CW.keep 76 [2] rfl ?_;(conv=>whnf);refine ⟨?_⟩
        refine CW.ret ?_
        exact Post.one (RV.b rfl (by first | (simp_all [cmdOk, emp, inR]; done) | grind [cmdOk, emp, inR])) (AOs.a rfl AOs.e)
       ·skip
        refine CW.skip ?_
        refine CW.keep 76 [1] rfl ?_;(conv=>whnf);refine ⟨?_⟩
        refine CW.seqJ 76 (fun (v25 : Bool) => [(2, Bo v25)]) (fun v25 => v25 = ((x.val.toList == (⟨#[]⟩ : ByteArray).toList) && (x.ver == 0))) ?_ ?_
        ·refine CW.region ?_
         refine RW.k XK 76 4 rfl ?_
         (conv=>whnf);refine ⟨rfl,?_⟩
         refine RW.gv rfl rfl rfl rfl (fun h26 => V.fieldR rfl rfl rfl rfl (by decide) rfl (Nat.le_of_ble_eq_true rfl)) (fun h26 => ?_) (fun h26 => ?_)
         ·skip
          refine RW.k XK 76 4 rfl ?_
          (conv=>whnf);refine ⟨rfl,?_⟩
          refine RW.nil ?_
          exact ⟨_, by first | rfl | (simp_all; done) | (simp_all; omega) | grind, rfl, Le.of rfl⟩
         ·skip
          refine RW.k XK 76 4 rfl ?_
          (conv=>whnf);refine ⟨rfl,?_⟩
          refine RW.nil ?_
          exact ⟨_, by first | rfl | (simp_all; done) | (simp_all; omega) | grind, rfl, Le.of rfl⟩
        ·intro v25 hv27
         refine CW.ret ?_
         exact Post.one (RV.b rfl (by first | (simp_all [cmdOk, emp, inR]; done) | grind [cmdOk, emp, inR])) (AOs.a rfl AOs.e)
set_option maxHeartbeats 4000000 in
theorem spec_l16Short_fn (s : ByteArray) (hs : s.size ≤ 1048576) : Eng.Fn E.P 84 [.one (.r (.v (.string s)))] (.one (.one (.w (.v (.string (shB s)))))) [.one (.r (.v (.string s)))] := by
 refine Eng.Fn.intro (E := E) (rvs := [.tmp 2]) Try.func84 rfl rfl rfl (by simp [outSlots, moved, rvSlot, sl]) ?_
 intro B g bo
 refine CW.keep 8 [0] rfl ?_;(conv=>whnf);refine ⟨?_⟩
 refine CW.k XK 8 1 [0] rfl ?_
 (conv=>whnf);refine ⟨rfl,?_⟩
 refine CW.seq ?_
 refine CW.region ?_
 refine RW.k XK 8 2 rfl ?_
 (conv=>whnf);refine ⟨rfl,?_⟩
 refine RW.call rfl (spec_l01Var_fn (s.size : Int) ⟨by omega, by omega⟩) rfl (.cons (.one (.r .r)) (.nil)) fun g1 => ?_
 refine RW.k XK 8 1 rfl ?_
 (conv=>whnf);refine ⟨rfl,?_⟩
 refine RW.v rfl (V.cat rfl rfl rfl (by have h9 := varB_len9 (n := s.size) (by omega); simp only [maxLen, Int.toNat_natCast]; omega)) ?_
 refine RW.k XK 8 1 rfl ?_
 (conv=>whnf);refine ⟨rfl,?_⟩
 refine RW.nil ?_
 refine CW.keep 8 [2] rfl ?_;(conv=>whnf);refine ⟨?_⟩
 refine CW.ret ?_
 exact Post.one (RV.s rfl (by rfl)) (AOs.r AOs.e)
set_option maxHeartbeats 4000000 in
theorem spec_CommandText_fn (x : Command) : Eng.Fn E.P 81 [.agg ((Command.c x).map .r)] (.tup [.one (.w (.v (.string ((cmdT x).1)))), .one (.w (.v (.bool ((cmdT x).2))))]) [.agg ((Command.c x).map .r)] := by
 refine Eng.Fn.intro (E := E) (rvs := [.tmp 2, .tmp 3]) Try.func81 rfl rfl rfl (by simp [outSlots, moved, rvSlot, sl]) ?_
 intro B g bo
 refine CW.keep 32 [0] rfl ?_;(conv=>whnf);refine ⟨?_⟩
 refine CW.seq ?_
 refine CW.region ?_
 refine RW.k XK 32 1 rfl ?_
 (conv=>whnf);intro b1;(conv=>whnf);refine ⟨rfl,?_⟩
 refine RW.freezeB (ts := (Command.c x)) 1 rfl (DRd.r (DRd.r (DRd.r (DRd.r (DRd.r (DRd.r DRd.e)))))) ?_
 refine RW.k XK 32 2 rfl ?_
 (conv=>whnf);refine ⟨rfl,?_⟩
 refine RW.nil ?_
 refine CW.keep 32 [1] rfl ?_;(conv=>whnf);refine ⟨?_⟩
 refine CW.seq ?_
 refine CW.seq ?_
 refine CW.region ?_
 refine RW.k XK 32 1 rfl ?_
 (conv=>whnf);refine ⟨rfl,?_⟩
 refine RW.call rfl (spec_CommandOk_fn x) rfl (.cons (.agg (.cons (.r .r) (.cons (.r .r) (.cons (.r .r) (.cons (.r .r) (.cons (.r .r) (.cons (.r .r) (.nil)))))))) (.nil)) fun g2 => ?_
 refine RW.k XK 32 1 rfl ?_
 (conv=>whnf);refine ⟨rfl,?_⟩
 refine RW.nil ?_
 refine CW.keep 32 [1,6] rfl ?_;(conv=>whnf);refine ⟨?_⟩
 refine CW.cond rfl (fun h3 => ?_) (fun h3 => ?_)
 ·skip
  refine CW.k XK 32 1 [2,3] rfl ?_
  (conv=>whnf);refine ⟨rfl,?_⟩
  refine CW.ret ?_
  exact Post.tup (by decide) (RVs.c (RV.s rfl (by rw [cmdT, if_neg (by rw [nT h3]; simp)] <;> rfl)) (RVs.c (RV.b rfl (by rw [cmdT, if_neg (by rw [nT h3]; simp)] <;> rfl)) RVs.e)) (AOs.a rfl AOs.e)
 ·skip
  have cin := CSz.of (nF h3)
  refine CW.skip ?_
  refine CW.keep 32 [1] rfl ?_;(conv=>whnf);refine ⟨?_⟩
  refine CW.anyJ2 (fc := []) (L0 := []) 32 (fun (zz : Value × (Nat → Nat → Value) × (Nat → Nat → Value) × (Nat → Nat → Value) × (Nat → Nat → Value) × (Nat → Nat → Value)) => match zz with | (Xo4_3_1, go4_11_1, go4_15_1, go4_19_1, go4_23_1, go4_7_1) => [(2, S ((((((bytesOf ([(IntKind.u8.wrap x.op)])) ++ (varB x.token.toNat)) ++ (varB x.seq.toNat)) ++ (shB x.key)) ++ (shB x.val)) ++ (varB x.ver.toNat))), (3, Bo true)]) (fun all hall f hf b0 hb K hK => ?_) ?_
  ·skip
   have ro4_17 : ∀ B, ∀ (Xo4_3_1 : Value), ∀ (go4_11_1 : Nat → Nat → Value), ∀ (go4_15_1 : Nat → Nat → Value), ∀ (go4_19_1 : Nat → Nat → Value), ∀ (go4_23_1 : Nat → Nat → Value), ∀ (go4_7_1 : Nat → Nat → Value), RA f E B all 0 (bt 27 134217727) ⟨32, [(2, S ((((((bytesOf ([(IntKind.u8.wrap x.op)])) ++ (varB x.token.toNat)) ++ (varB x.seq.toNat)) ++ (shB x.key)) ++ (shB x.val)) ++ (varB x.ver.toNat))), (3, Bo true)] ++ b0⟩ K := by
    intro B Xo4_3_1 go4_11_1 go4_15_1 go4_19_1 go4_23_1 go4_7_1
    exact RA.of2 hall hf hb (RA.finH (Tell.of rfl) (by kernel_rfl) (hK (Xo4_3_1, go4_11_1, go4_15_1, go4_19_1, go4_23_1, go4_7_1) _ rfl (Le.of rfl)))
   have ro4_16 : ∀ B, ∀ (Xo4_3_1 : Value), ∀ (go4_11_1 : Nat → Nat → Value), ∀ (go4_15_1 : Nat → Nat → Value), ∀ (go4_19_1 : Nat → Nat → Value), ∀ (go4_7_1 : Nat → Nat → Value), RA f E B all 4 (bt 27 8388607) ⟨32, [(27, S (((((bytesOf ([(IntKind.u8.wrap x.op)])) ++ (varB x.token.toNat)) ++ (varB x.seq.toNat)) ++ (shB x.key)) ++ (shB x.val))), (29, I x.ver)] ++ b0⟩ K := by
    intro B Xo4_3_1 go4_11_1 go4_15_1 go4_19_1 go4_7_1
    refine RA.of2 hall hf hb (RA.stepH (L := [23]) (Tell.of rfl) (by kernel_rfl) (by simp) (RA.each ?_ (RA.each0)))
    ·skip
     refine RO.call rfl rfl (spec_l01Var_fn x.ver (by first | exact cin.t | exact cin.s | exact cin.v)) rfl (.cons (.one (.r .r)) (.nil)) rfl fun go4_23_1 => ?_
     refine RA.first (i := 24) (ls' := (bt 27 33554431)) (Tell.of rfl) (by kernel_rfl) rfl rfl rfl (VF.p (V.cat rfl rfl rfl (by have z1 := cin.zt; have z2 := cin.zs; have z3 := cin.zv; have z4 := cin.zk; have z5 := cin.zl; have z6 : ∀ q : Int, (bytesOf [q]).size = 1 := fun q => rfl; simp only [ByteArray.size_append, maxLen, z6]; omega))) ?_
     refine RA.fr XK 32 0 [25,26] (bt 27 134217727) rfl rfl (by kernel_rfl) (Tell.of rfl) ?_
     (conv=>whnf);refine ⟨rfl,fun B=>?_⟩
     exact RA.to2 hall hf hb (ro4_17 B Xo4_3_1 go4_11_1 go4_15_1 go4_19_1 go4_23_1 go4_7_1) rfl rfl (by kernel_rfl)
   have ro4_15 : ∀ B, ∀ (Xo4_3_1 : Value), ∀ (go4_11_1 : Nat → Nat → Value), ∀ (go4_15_1 : Nat → Nat → Value), ∀ (go4_7_1 : Nat → Nat → Value), RA f E B all 6 (bt 27 6815743) ⟨32, [(23, S ((((bytesOf ([(IntKind.u8.wrap x.op)])) ++ (varB x.token.toNat)) ++ (varB x.seq.toNat)) ++ (shB x.key))), (25, S x.val), (29, I x.ver)] ++ b0⟩ K := by
    intro B Xo4_3_1 go4_11_1 go4_15_1 go4_7_1
    refine RA.of2 hall hf hb (RA.stepH (L := [19]) (Tell.of rfl) (by kernel_rfl) (by simp) (RA.each ?_ (RA.each0)))
    ·skip
     refine RO.call rfl rfl (spec_l16Short_fn x.val (by first | exact cin.k | exact cin.l)) rfl (.cons (.one (.r .r)) (.nil)) rfl fun go4_19_1 => ?_
     refine RA.first (i := 20) (ls' := (bt 27 8388607)) (Tell.of rfl) (by kernel_rfl) rfl rfl rfl (VF.p (V.cat rfl rfl rfl (by have z1 := cin.zt; have z2 := cin.zs; have z3 := cin.zv; have z4 := cin.zk; have z5 := cin.zl; have z6 : ∀ q : Int, (bytesOf [q]).size = 1 := fun q => rfl; simp only [ByteArray.size_append, maxLen, z6]; omega))) ?_
     exact RA.to2 hall hf hb (ro4_16 B Xo4_3_1 go4_11_1 go4_15_1 go4_19_1 go4_7_1) rfl rfl (by kernel_rfl)
   have ro4_14 : ∀ B, ∀ (Xo4_3_1 : Value), ∀ (go4_11_1 : Nat → Nat → Value), ∀ (go4_15_1 : Nat → Nat → Value), ∀ (go4_19_1 : Nat → Nat → Value), ∀ (go4_23_1 : Nat → Nat → Value), ∀ (go4_7_1 : Nat → Nat → Value), RA f E B all 8 (bt 27 15658735) ⟨32, [(10, .w (sl 1 cU ([(IntKind.u8.wrap x.op)])) Xo4_3_1), (14, S (varB x.token.toNat)), (18, S (varB x.seq.toNat)), (22, S (shB x.key)), (26, S (shB x.val)), (30, S (varB x.ver.toNat))] ++ b0⟩ K := by
    intro B Xo4_3_1 go4_11_1 go4_15_1 go4_19_1 go4_23_1 go4_7_1
    refine RA.of2 hall hf hb (RA.stepH (L := [4]) (Tell.of rfl) (by kernel_rfl) (by simp) (RA.each ?_ (RA.each0)))
    ·skip
     refine RO.v rfl rfl (V.bytesStr (l := [(IntKind.u8.wrap x.op)]) rfl rfl rfl (by kernel_rfl) (by kernel_rfl) (.al (k := none) (i := 10) (sz := 1) (V := Xo4_3_1) rfl rfl nofun)) rfl ?_
     refine RA.first (i := 8) (ls' := (bt 27 15659007)) (Tell.of rfl) (by kernel_rfl) rfl rfl rfl (VF.p (V.cat rfl rfl rfl (by have z1 := cin.zt; have z2 := cin.zs; have z3 := cin.zv; have z4 := cin.zk; have z5 := cin.zl; have z6 : ∀ q : Int, (bytesOf [q]).size = 1 := fun q => rfl; simp only [ByteArray.size_append, maxLen, z6]; omega))) ?_
     refine RA.first (i := 12) (ls' := (bt 27 15663103)) (Tell.of rfl) (by kernel_rfl) rfl rfl rfl (VF.p (V.cat rfl rfl rfl (by have z1 := cin.zt; have z2 := cin.zs; have z3 := cin.zv; have z4 := cin.zk; have z5 := cin.zl; have z6 : ∀ q : Int, (bytesOf [q]).size = 1 := fun q => rfl; simp only [ByteArray.size_append, maxLen, z6]; omega))) ?_
     refine RA.first (i := 16) (ls' := (bt 27 15728639)) (Tell.of rfl) (by kernel_rfl) rfl rfl rfl (VF.p (V.cat rfl rfl rfl (by have z1 := cin.zt; have z2 := cin.zs; have z3 := cin.zv; have z4 := cin.zk; have z5 := cin.zl; have z6 : ∀ q : Int, (bytesOf [q]).size = 1 := fun q => rfl; simp only [ByteArray.size_append, maxLen, z6]; omega))) ?_
     refine RA.first (i := 20) (ls' := (bt 27 16777215)) (Tell.of rfl) (by kernel_rfl) rfl rfl rfl (VF.p (V.cat rfl rfl rfl (by have z1 := cin.zt; have z2 := cin.zs; have z3 := cin.zv; have z4 := cin.zk; have z5 := cin.zl; have z6 : ∀ q : Int, (bytesOf [q]).size = 1 := fun q => rfl; simp only [ByteArray.size_append, maxLen, z6]; omega))) ?_
     refine RA.first (i := 24) (ls' := (bt 27 33554431)) (Tell.of rfl) (by kernel_rfl) rfl rfl rfl (VF.p (V.cat rfl rfl rfl (by have z1 := cin.zt; have z2 := cin.zs; have z3 := cin.zv; have z4 := cin.zk; have z5 := cin.zl; have z6 : ∀ q : Int, (bytesOf [q]).size = 1 := fun q => rfl; simp only [ByteArray.size_append, maxLen, z6]; omega))) ?_
     refine RA.fr XK 32 0 [25,26] (bt 27 134217727) rfl rfl (by kernel_rfl) (Tell.of rfl) ?_
     (conv=>whnf);refine ⟨rfl,fun B=>?_⟩
     exact RA.to2 hall hf hb (ro4_17 B Xo4_3_1 go4_11_1 go4_15_1 go4_19_1 go4_23_1 go4_7_1) rfl rfl (by kernel_rfl)
   have ro4_13 : ∀ B, ∀ (Xo4_3_1 : Value), ∀ (go4_11_1 : Nat → Nat → Value), ∀ (go4_7_1 : Nat → Nat → Value), RA f E B all 8 (bt 27 6717439) ⟨32, [(19, S (((bytesOf ([(IntKind.u8.wrap x.op)])) ++ (varB x.token.toNat)) ++ (varB x.seq.toNat))), (21, S x.key), (25, S x.val), (29, I x.ver)] ++ b0⟩ K := by
    intro B Xo4_3_1 go4_11_1 go4_7_1
    refine RA.of2 hall hf hb (RA.stepH (L := [15]) (Tell.of rfl) (by kernel_rfl) (by simp) (RA.each ?_ (RA.each0)))
    ·skip
     refine RO.call rfl rfl (spec_l16Short_fn x.key (by first | exact cin.k | exact cin.l)) rfl (.cons (.one (.r .r)) (.nil)) rfl fun go4_15_1 => ?_
     refine RA.first (i := 16) (ls' := (bt 27 6815743)) (Tell.of rfl) (by kernel_rfl) rfl rfl rfl (VF.p (V.cat rfl rfl rfl (by have z1 := cin.zt; have z2 := cin.zs; have z3 := cin.zv; have z4 := cin.zk; have z5 := cin.zl; have z6 : ∀ q : Int, (bytesOf [q]).size = 1 := fun q => rfl; simp only [ByteArray.size_append, maxLen, z6]; omega))) ?_
     exact RA.to2 hall hf hb (ro4_15 B Xo4_3_1 go4_11_1 go4_15_1 go4_7_1) rfl rfl (by kernel_rfl)
   have ro4_12 : ∀ B, ∀ (go4_11_1 : Nat → Nat → Value), ∀ (go4_15_1 : Nat → Nat → Value), ∀ (go4_19_1 : Nat → Nat → Value), ∀ (go4_23_1 : Nat → Nat → Value), ∀ (go4_7_1 : Nat → Nat → Value), RA f E B all 9 (bt 27 15658727) ⟨32, [(9, .r (.v (.int .u8 (IntKind.u8.wrap x.op)))), (14, S (varB x.token.toNat)), (18, S (varB x.seq.toNat)), (22, S (shB x.key)), (26, S (shB x.val)), (30, S (varB x.ver.toNat))] ++ b0⟩ K := by
    intro B go4_11_1 go4_15_1 go4_19_1 go4_23_1 go4_7_1
    refine RA.of2 hall hf hb (RA.stepH (L := [3]) (Tell.of rfl) (by kernel_rfl) (by simp) (RA.each ?_ (RA.each0)))
    ·skip
     refine RO.build1c (c := cU) (v := (IntKind.u8.wrap x.op)) (u := .v (.int .u8 (IntKind.u8.wrap x.op))) rfl rfl rfl rfl rfl rfl rfl rfl (.inl rfl) rfl rfl fun Xo4_3_1 => ?_
     exact RA.to2 hall hf hb (ro4_14 B Xo4_3_1 go4_11_1 go4_15_1 go4_19_1 go4_23_1 go4_7_1) rfl rfl (by kernel_rfl)
   have ro4_11 : ∀ B, ∀ (Xo4_3_1 : Value), ∀ (go4_11_1 : Nat → Nat → Value), ∀ (go4_15_1 : Nat → Nat → Value), ∀ (go4_19_1 : Nat → Nat → Value), ∀ (go4_7_1 : Nat → Nat → Value), RA f E B all 9 (bt 27 7270127) ⟨32, [(10, .w (sl 1 cU ([(IntKind.u8.wrap x.op)])) Xo4_3_1), (14, S (varB x.token.toNat)), (18, S (varB x.seq.toNat)), (22, S (shB x.key)), (26, S (shB x.val)), (29, I x.ver)] ++ b0⟩ K := by
    intro B Xo4_3_1 go4_11_1 go4_15_1 go4_19_1 go4_7_1
    refine RA.of2 hall hf hb (RA.stepH (L := [4, 23]) (Tell.of rfl) (by kernel_rfl) (by simp) (RA.each ?_ (RA.each ?_ (RA.each0))))
    ·skip
     refine RO.v rfl rfl (V.bytesStr (l := [(IntKind.u8.wrap x.op)]) rfl rfl rfl (by kernel_rfl) (by kernel_rfl) (.al (k := none) (i := 10) (sz := 1) (V := Xo4_3_1) rfl rfl nofun)) rfl ?_
     refine RA.first (i := 8) (ls' := (bt 27 7270399)) (Tell.of rfl) (by kernel_rfl) rfl rfl rfl (VF.p (V.cat rfl rfl rfl (by have z1 := cin.zt; have z2 := cin.zs; have z3 := cin.zv; have z4 := cin.zk; have z5 := cin.zl; have z6 : ∀ q : Int, (bytesOf [q]).size = 1 := fun q => rfl; simp only [ByteArray.size_append, maxLen, z6]; omega))) ?_
     refine RA.first (i := 12) (ls' := (bt 27 7274495)) (Tell.of rfl) (by kernel_rfl) rfl rfl rfl (VF.p (V.cat rfl rfl rfl (by have z1 := cin.zt; have z2 := cin.zs; have z3 := cin.zv; have z4 := cin.zk; have z5 := cin.zl; have z6 : ∀ q : Int, (bytesOf [q]).size = 1 := fun q => rfl; simp only [ByteArray.size_append, maxLen, z6]; omega))) ?_
     refine RA.first (i := 16) (ls' := (bt 27 7340031)) (Tell.of rfl) (by kernel_rfl) rfl rfl rfl (VF.p (V.cat rfl rfl rfl (by have z1 := cin.zt; have z2 := cin.zs; have z3 := cin.zv; have z4 := cin.zk; have z5 := cin.zl; have z6 : ∀ q : Int, (bytesOf [q]).size = 1 := fun q => rfl; simp only [ByteArray.size_append, maxLen, z6]; omega))) ?_
     refine RA.first (i := 20) (ls' := (bt 27 8388607)) (Tell.of rfl) (by kernel_rfl) rfl rfl rfl (VF.p (V.cat rfl rfl rfl (by have z1 := cin.zt; have z2 := cin.zs; have z3 := cin.zv; have z4 := cin.zk; have z5 := cin.zl; have z6 : ∀ q : Int, (bytesOf [q]).size = 1 := fun q => rfl; simp only [ByteArray.size_append, maxLen, z6]; omega))) ?_
     exact RA.to2 hall hf hb (ro4_16 B Xo4_3_1 go4_11_1 go4_15_1 go4_19_1 go4_7_1) rfl rfl (by kernel_rfl)
    ·skip
     refine RO.call rfl rfl (spec_l01Var_fn x.ver (by first | exact cin.t | exact cin.s | exact cin.v)) rfl (.cons (.one (.r .r)) (.nil)) rfl fun go4_23_1 => ?_
     exact RA.to2 hall hf hb (ro4_14 B Xo4_3_1 go4_11_1 go4_15_1 go4_19_1 go4_23_1 go4_7_1) rfl rfl (by kernel_rfl)
   have ro4_10 : ∀ B, ∀ (go4_11_1 : Nat → Nat → Value), ∀ (go4_15_1 : Nat → Nat → Value), ∀ (go4_19_1 : Nat → Nat → Value), ∀ (go4_7_1 : Nat → Nat → Value), RA f E B all 10 (bt 27 7270119) ⟨32, [(9, .r (.v (.int .u8 (IntKind.u8.wrap x.op)))), (14, S (varB x.token.toNat)), (18, S (varB x.seq.toNat)), (22, S (shB x.key)), (26, S (shB x.val)), (29, I x.ver)] ++ b0⟩ K := by
    intro B go4_11_1 go4_15_1 go4_19_1 go4_7_1
    refine RA.of2 hall hf hb (RA.stepH (L := [3, 23]) (Tell.of rfl) (by kernel_rfl) (by simp) (RA.each ?_ (RA.each ?_ (RA.each0))))
    ·skip
     refine RO.build1c (c := cU) (v := (IntKind.u8.wrap x.op)) (u := .v (.int .u8 (IntKind.u8.wrap x.op))) rfl rfl rfl rfl rfl rfl rfl rfl (.inl rfl) rfl rfl fun Xo4_3_1 => ?_
     exact RA.to2 hall hf hb (ro4_11 B Xo4_3_1 go4_11_1 go4_15_1 go4_19_1 go4_7_1) rfl rfl (by kernel_rfl)
    ·skip
     refine RO.call rfl rfl (spec_l01Var_fn x.ver (by first | exact cin.t | exact cin.s | exact cin.v)) rfl (.cons (.one (.r .r)) (.nil)) rfl fun go4_23_1 => ?_
     exact RA.to2 hall hf hb (ro4_12 B go4_11_1 go4_15_1 go4_19_1 go4_23_1 go4_7_1) rfl rfl (by kernel_rfl)
   have ro4_9 : ∀ B, ∀ (Xo4_3_1 : Value), ∀ (go4_11_1 : Nat → Nat → Value), ∀ (go4_15_1 : Nat → Nat → Value), ∀ (go4_7_1 : Nat → Nat → Value), RA f E B all 10 (bt 27 6745839) ⟨32, [(10, .w (sl 1 cU ([(IntKind.u8.wrap x.op)])) Xo4_3_1), (14, S (varB x.token.toNat)), (18, S (varB x.seq.toNat)), (22, S (shB x.key)), (25, S x.val), (29, I x.ver)] ++ b0⟩ K := by
    intro B Xo4_3_1 go4_11_1 go4_15_1 go4_7_1
    refine RA.of2 hall hf hb (RA.stepH (L := [4, 19]) (Tell.of rfl) (by kernel_rfl) (by simp) (RA.each ?_ (RA.each ?_ (RA.each0))))
    ·skip
     refine RO.v rfl rfl (V.bytesStr (l := [(IntKind.u8.wrap x.op)]) rfl rfl rfl (by kernel_rfl) (by kernel_rfl) (.al (k := none) (i := 10) (sz := 1) (V := Xo4_3_1) rfl rfl nofun)) rfl ?_
     refine RA.first (i := 8) (ls' := (bt 27 6746111)) (Tell.of rfl) (by kernel_rfl) rfl rfl rfl (VF.p (V.cat rfl rfl rfl (by have z1 := cin.zt; have z2 := cin.zs; have z3 := cin.zv; have z4 := cin.zk; have z5 := cin.zl; have z6 : ∀ q : Int, (bytesOf [q]).size = 1 := fun q => rfl; simp only [ByteArray.size_append, maxLen, z6]; omega))) ?_
     refine RA.first (i := 12) (ls' := (bt 27 6750207)) (Tell.of rfl) (by kernel_rfl) rfl rfl rfl (VF.p (V.cat rfl rfl rfl (by have z1 := cin.zt; have z2 := cin.zs; have z3 := cin.zv; have z4 := cin.zk; have z5 := cin.zl; have z6 : ∀ q : Int, (bytesOf [q]).size = 1 := fun q => rfl; simp only [ByteArray.size_append, maxLen, z6]; omega))) ?_
     refine RA.first (i := 16) (ls' := (bt 27 6815743)) (Tell.of rfl) (by kernel_rfl) rfl rfl rfl (VF.p (V.cat rfl rfl rfl (by have z1 := cin.zt; have z2 := cin.zs; have z3 := cin.zv; have z4 := cin.zk; have z5 := cin.zl; have z6 : ∀ q : Int, (bytesOf [q]).size = 1 := fun q => rfl; simp only [ByteArray.size_append, maxLen, z6]; omega))) ?_
     exact RA.to2 hall hf hb (ro4_15 B Xo4_3_1 go4_11_1 go4_15_1 go4_7_1) rfl rfl (by kernel_rfl)
    ·skip
     refine RO.call rfl rfl (spec_l16Short_fn x.val (by first | exact cin.k | exact cin.l)) rfl (.cons (.one (.r .r)) (.nil)) rfl fun go4_19_1 => ?_
     exact RA.to2 hall hf hb (ro4_11 B Xo4_3_1 go4_11_1 go4_15_1 go4_19_1 go4_7_1) rfl rfl (by kernel_rfl)
   have ro4_8 : ∀ B, ∀ (Xo4_3_1 : Value), ∀ (go4_7_1 : Nat → Nat → Value), RA f E B all 10 (bt 27 6711295) ⟨32, [(15, S ((bytesOf ([(IntKind.u8.wrap x.op)])) ++ (varB x.token.toNat))), (17, I x.seq), (21, S x.key), (25, S x.val), (29, I x.ver)] ++ b0⟩ K := by
    intro B Xo4_3_1 go4_7_1
    refine RA.of2 hall hf hb (RA.stepH (L := [11]) (Tell.of rfl) (by kernel_rfl) (by simp) (RA.each ?_ (RA.each0)))
    ·skip
     refine RO.call rfl rfl (spec_l01Var_fn x.seq (by first | exact cin.t | exact cin.s | exact cin.v)) rfl (.cons (.one (.r .r)) (.nil)) rfl fun go4_11_1 => ?_
     refine RA.first (i := 12) (ls' := (bt 27 6717439)) (Tell.of rfl) (by kernel_rfl) rfl rfl rfl (VF.p (V.cat rfl rfl rfl (by have z1 := cin.zt; have z2 := cin.zs; have z3 := cin.zv; have z4 := cin.zk; have z5 := cin.zl; have z6 : ∀ q : Int, (bytesOf [q]).size = 1 := fun q => rfl; simp only [ByteArray.size_append, maxLen, z6]; omega))) ?_
     exact RA.to2 hall hf hb (ro4_13 B Xo4_3_1 go4_11_1 go4_7_1) rfl rfl (by kernel_rfl)
   have ro4_7 : ∀ B, ∀ (go4_11_1 : Nat → Nat → Value), ∀ (go4_15_1 : Nat → Nat → Value), ∀ (go4_7_1 : Nat → Nat → Value), RA f E B all 11 (bt 27 6745831) ⟨32, [(9, .r (.v (.int .u8 (IntKind.u8.wrap x.op)))), (14, S (varB x.token.toNat)), (18, S (varB x.seq.toNat)), (22, S (shB x.key)), (25, S x.val), (29, I x.ver)] ++ b0⟩ K := by
    intro B go4_11_1 go4_15_1 go4_7_1
    refine RA.of2 hall hf hb (RA.stepH (L := [3, 19]) (Tell.of rfl) (by kernel_rfl) (by simp) (RA.each ?_ (RA.each ?_ (RA.each0))))
    ·skip
     refine RO.build1c (c := cU) (v := (IntKind.u8.wrap x.op)) (u := .v (.int .u8 (IntKind.u8.wrap x.op))) rfl rfl rfl rfl rfl rfl rfl rfl (.inl rfl) rfl rfl fun Xo4_3_1 => ?_
     exact RA.to2 hall hf hb (ro4_9 B Xo4_3_1 go4_11_1 go4_15_1 go4_7_1) rfl rfl (by kernel_rfl)
    ·skip
     refine RO.call rfl rfl (spec_l16Short_fn x.val (by first | exact cin.k | exact cin.l)) rfl (.cons (.one (.r .r)) (.nil)) rfl fun go4_19_1 => ?_
     exact RA.to2 hall hf hb (ro4_10 B go4_11_1 go4_15_1 go4_19_1 go4_7_1) rfl rfl (by kernel_rfl)
   have ro4_6 : ∀ B, ∀ (Xo4_3_1 : Value), ∀ (go4_11_1 : Nat → Nat → Value), ∀ (go4_7_1 : Nat → Nat → Value), RA f E B all 11 (bt 27 6713071) ⟨32, [(10, .w (sl 1 cU ([(IntKind.u8.wrap x.op)])) Xo4_3_1), (14, S (varB x.token.toNat)), (18, S (varB x.seq.toNat)), (21, S x.key), (25, S x.val), (29, I x.ver)] ++ b0⟩ K := by
    intro B Xo4_3_1 go4_11_1 go4_7_1
    refine RA.of2 hall hf hb (RA.stepH (L := [4, 15]) (Tell.of rfl) (by kernel_rfl) (by simp) (RA.each ?_ (RA.each ?_ (RA.each0))))
    ·skip
     refine RO.v rfl rfl (V.bytesStr (l := [(IntKind.u8.wrap x.op)]) rfl rfl rfl (by kernel_rfl) (by kernel_rfl) (.al (k := none) (i := 10) (sz := 1) (V := Xo4_3_1) rfl rfl nofun)) rfl ?_
     refine RA.first (i := 8) (ls' := (bt 27 6713343)) (Tell.of rfl) (by kernel_rfl) rfl rfl rfl (VF.p (V.cat rfl rfl rfl (by have z1 := cin.zt; have z2 := cin.zs; have z3 := cin.zv; have z4 := cin.zk; have z5 := cin.zl; have z6 : ∀ q : Int, (bytesOf [q]).size = 1 := fun q => rfl; simp only [ByteArray.size_append, maxLen, z6]; omega))) ?_
     refine RA.first (i := 12) (ls' := (bt 27 6717439)) (Tell.of rfl) (by kernel_rfl) rfl rfl rfl (VF.p (V.cat rfl rfl rfl (by have z1 := cin.zt; have z2 := cin.zs; have z3 := cin.zv; have z4 := cin.zk; have z5 := cin.zl; have z6 : ∀ q : Int, (bytesOf [q]).size = 1 := fun q => rfl; simp only [ByteArray.size_append, maxLen, z6]; omega))) ?_
     exact RA.to2 hall hf hb (ro4_13 B Xo4_3_1 go4_11_1 go4_7_1) rfl rfl (by kernel_rfl)
    ·skip
     refine RO.call rfl rfl (spec_l16Short_fn x.key (by first | exact cin.k | exact cin.l)) rfl (.cons (.one (.r .r)) (.nil)) rfl fun go4_15_1 => ?_
     exact RA.to2 hall hf hb (ro4_9 B Xo4_3_1 go4_11_1 go4_15_1 go4_7_1) rfl rfl (by kernel_rfl)
   have ro4_5 : ∀ B, ∀ (go4_11_1 : Nat → Nat → Value), ∀ (go4_7_1 : Nat → Nat → Value), RA f E B all 12 (bt 27 6713063) ⟨32, [(9, .r (.v (.int .u8 (IntKind.u8.wrap x.op)))), (14, S (varB x.token.toNat)), (18, S (varB x.seq.toNat)), (21, S x.key), (25, S x.val), (29, I x.ver)] ++ b0⟩ K := by
    intro B go4_11_1 go4_7_1
    refine RA.of2 hall hf hb (RA.stepH (L := [3, 15]) (Tell.of rfl) (by kernel_rfl) (by simp) (RA.each ?_ (RA.each ?_ (RA.each0))))
    ·skip
     refine RO.build1c (c := cU) (v := (IntKind.u8.wrap x.op)) (u := .v (.int .u8 (IntKind.u8.wrap x.op))) rfl rfl rfl rfl rfl rfl rfl rfl (.inl rfl) rfl rfl fun Xo4_3_1 => ?_
     exact RA.to2 hall hf hb (ro4_6 B Xo4_3_1 go4_11_1 go4_7_1) rfl rfl (by kernel_rfl)
    ·skip
     refine RO.call rfl rfl (spec_l16Short_fn x.key (by first | exact cin.k | exact cin.l)) rfl (.cons (.one (.r .r)) (.nil)) rfl fun go4_15_1 => ?_
     exact RA.to2 hall hf hb (ro4_7 B go4_11_1 go4_15_1 go4_7_1) rfl rfl (by kernel_rfl)
   have ro4_4 : ∀ B, ∀ (Xo4_3_1 : Value), ∀ (go4_7_1 : Nat → Nat → Value), RA f E B all 12 (bt 27 6711023) ⟨32, [(10, .w (sl 1 cU ([(IntKind.u8.wrap x.op)])) Xo4_3_1), (14, S (varB x.token.toNat)), (17, I x.seq), (21, S x.key), (25, S x.val), (29, I x.ver)] ++ b0⟩ K := by
    intro B Xo4_3_1 go4_7_1
    refine RA.of2 hall hf hb (RA.stepH (L := [4, 11]) (Tell.of rfl) (by kernel_rfl) (by simp) (RA.each ?_ (RA.each ?_ (RA.each0))))
    ·skip
     refine RO.v rfl rfl (V.bytesStr (l := [(IntKind.u8.wrap x.op)]) rfl rfl rfl (by kernel_rfl) (by kernel_rfl) (.al (k := none) (i := 10) (sz := 1) (V := Xo4_3_1) rfl rfl nofun)) rfl ?_
     refine RA.first (i := 8) (ls' := (bt 27 6711295)) (Tell.of rfl) (by kernel_rfl) rfl rfl rfl (VF.p (V.cat rfl rfl rfl (by have z1 := cin.zt; have z2 := cin.zs; have z3 := cin.zv; have z4 := cin.zk; have z5 := cin.zl; have z6 : ∀ q : Int, (bytesOf [q]).size = 1 := fun q => rfl; simp only [ByteArray.size_append, maxLen, z6]; omega))) ?_
     exact RA.to2 hall hf hb (ro4_8 B Xo4_3_1 go4_7_1) rfl rfl (by kernel_rfl)
    ·skip
     refine RO.call rfl rfl (spec_l01Var_fn x.seq (by first | exact cin.t | exact cin.s | exact cin.v)) rfl (.cons (.one (.r .r)) (.nil)) rfl fun go4_11_1 => ?_
     exact RA.to2 hall hf hb (ro4_6 B Xo4_3_1 go4_11_1 go4_7_1) rfl rfl (by kernel_rfl)
   have ro4_3 : ∀ B, ∀ (Xo4_3_1 : Value), RA f E B all 12 (bt 27 6710911) ⟨32, [(11, S (bytesOf ([(IntKind.u8.wrap x.op)]))), (13, I x.token), (17, I x.seq), (21, S x.key), (25, S x.val), (29, I x.ver)] ++ b0⟩ K := by
    intro B Xo4_3_1
    refine RA.of2 hall hf hb (RA.stepH (L := [7]) (Tell.of rfl) (by kernel_rfl) (by simp) (RA.each ?_ (RA.each0)))
    ·skip
     refine RO.call rfl rfl (spec_l01Var_fn x.token (by first | exact cin.t | exact cin.s | exact cin.v)) rfl (.cons (.one (.r .r)) (.nil)) rfl fun go4_7_1 => ?_
     refine RA.first (i := 8) (ls' := (bt 27 6711295)) (Tell.of rfl) (by kernel_rfl) rfl rfl rfl (VF.p (V.cat rfl rfl rfl (by have z1 := cin.zt; have z2 := cin.zs; have z3 := cin.zv; have z4 := cin.zk; have z5 := cin.zl; have z6 : ∀ q : Int, (bytesOf [q]).size = 1 := fun q => rfl; simp only [ByteArray.size_append, maxLen, z6]; omega))) ?_
     exact RA.to2 hall hf hb (ro4_8 B Xo4_3_1 go4_7_1) rfl rfl (by kernel_rfl)
   have ro4_2 : ∀ B, ∀ (go4_7_1 : Nat → Nat → Value), RA f E B all 13 (bt 27 6711015) ⟨32, [(9, .r (.v (.int .u8 (IntKind.u8.wrap x.op)))), (14, S (varB x.token.toNat)), (17, I x.seq), (21, S x.key), (25, S x.val), (29, I x.ver)] ++ b0⟩ K := by
    intro B go4_7_1
    refine RA.of2 hall hf hb (RA.stepH (L := [3, 11]) (Tell.of rfl) (by kernel_rfl) (by simp) (RA.each ?_ (RA.each ?_ (RA.each0))))
    ·skip
     refine RO.build1c (c := cU) (v := (IntKind.u8.wrap x.op)) (u := .v (.int .u8 (IntKind.u8.wrap x.op))) rfl rfl rfl rfl rfl rfl rfl rfl (.inl rfl) rfl rfl fun Xo4_3_1 => ?_
     exact RA.to2 hall hf hb (ro4_4 B Xo4_3_1 go4_7_1) rfl rfl (by kernel_rfl)
    ·skip
     refine RO.call rfl rfl (spec_l01Var_fn x.seq (by first | exact cin.t | exact cin.s | exact cin.v)) rfl (.cons (.one (.r .r)) (.nil)) rfl fun go4_11_1 => ?_
     exact RA.to2 hall hf hb (ro4_5 B go4_11_1 go4_7_1) rfl rfl (by kernel_rfl)
   have ro4_1 : ∀ B, ∀ (Xo4_3_1 : Value), RA f E B all 13 (bt 27 6710895) ⟨32, [(10, .w (sl 1 cU ([(IntKind.u8.wrap x.op)])) Xo4_3_1), (13, I x.token), (17, I x.seq), (21, S x.key), (25, S x.val), (29, I x.ver)] ++ b0⟩ K := by
    intro B Xo4_3_1
    refine RA.of2 hall hf hb (RA.stepH (L := [4, 7]) (Tell.of rfl) (by kernel_rfl) (by simp) (RA.each ?_ (RA.each ?_ (RA.each0))))
    ·skip
     refine RO.v rfl rfl (V.bytesStr (l := [(IntKind.u8.wrap x.op)]) rfl rfl rfl (by kernel_rfl) (by kernel_rfl) (.al (k := none) (i := 10) (sz := 1) (V := Xo4_3_1) rfl rfl nofun)) rfl ?_
     exact RA.to2 hall hf hb (ro4_3 B Xo4_3_1) rfl rfl (by kernel_rfl)
    ·skip
     refine RO.call rfl rfl (spec_l01Var_fn x.token (by first | exact cin.t | exact cin.s | exact cin.v)) rfl (.cons (.one (.r .r)) (.nil)) rfl fun go4_7_1 => ?_
     exact RA.to2 hall hf hb (ro4_4 B Xo4_3_1 go4_7_1) rfl rfl (by kernel_rfl)
   have ro4_0 : ∀ B, RA f E B all 14 (bt 27 6710887) ⟨32, [(9, .r (.v (.int .u8 (IntKind.u8.wrap x.op)))), (13, I x.token), (17, I x.seq), (21, S x.key), (25, S x.val), (29, I x.ver)] ++ b0⟩ K := by
    intro B
    refine RA.of2 hall hf hb (RA.stepH (L := [3, 7]) (Tell.of rfl) (by kernel_rfl) (by simp) (RA.each ?_ (RA.each ?_ (RA.each0))))
    ·skip
     refine RO.build1c (c := cU) (v := (IntKind.u8.wrap x.op)) (u := .v (.int .u8 (IntKind.u8.wrap x.op))) rfl rfl rfl rfl rfl rfl rfl rfl (.inl rfl) rfl rfl fun Xo4_3_1 => ?_
     exact RA.to2 hall hf hb (ro4_1 B Xo4_3_1) rfl rfl (by kernel_rfl)
    ·skip
     refine RO.call rfl rfl (spec_l01Var_fn x.token (by first | exact cin.t | exact cin.s | exact cin.v)) rfl (.cons (.one (.r .r)) (.nil)) rfl fun go4_7_1 => ?_
     exact RA.to2 hall hf hb (ro4_2 B go4_7_1) rfl rfl (by kernel_rfl)
   refine RA.start (by kernel_rfl) (by kernel_rfl) (m := 27) (ls' := (bt 27 0)) ?_
   refine RA.fr XK 32 14 [0,1,2,5,6,9,10,13,14,17,18,21,22] (bt 27 6710887) rfl rfl (by kernel_rfl) (Tell.of rfl) ?_
   (conv=>whnf);refine ⟨rfl,fun B=>?_⟩
   exact RA.to2 hall hf hb (ro4_0 B) rfl rfl (by kernel_rfl)
  ·rintro ⟨Xo4_3_1, go4_11_1, go4_15_1, go4_19_1, go4_23_1, go4_7_1⟩
   refine CW.ret ?_
   exact Post.tup (by decide) (RVs.c (RV.s rfl (by rw [cmdT, if_pos (nF h3)] <;> rfl)) (RVs.c (RV.b rfl (by rw [cmdT, if_pos (nF h3)] <;> rfl)) RVs.e)) (AOs.a rfl AOs.e)
set_option maxHeartbeats 4000000 in
theorem spec_KeepNew_fn  : Eng.Fn E.P 85 [] (.one (.agg ((Keep.c keepNew).map .w))) [] := by
 refine Eng.Fn.intro (E := E) (rvs := [.cell 0 106]) Try.func85 rfl rfl rfl (by simp [outSlots, moved, rvSlot, sl]) ?_
 intro B g bo
 refine CW.keep 4 [] rfl ?_;(conv=>whnf);refine ⟨?_⟩
 refine CW.k XK 4 1 [0] rfl ?_
 (conv=>whnf);intro b1;(conv=>whnf);refine ⟨rfl,?_⟩
 refine CW.seq ?_
 refine CW.region ?_
 refine RW.k XK 4 1 rfl ?_
 (conv=>whnf);refine ⟨rfl,?_⟩
 refine RW.build1 (c := Item.c) (v := (⟨(⟨#[114, 111, 111, 116]⟩ : ByteArray), ⟨#[]⟩, 1⟩ : Item)) rfl rfl rfl rfl rfl rfl (DW.v (DW.v (DW.v DW.e))) Item.len (by decide) (by decide) fun X2 => ?_
 refine RW.k XK 4 2 rfl ?_
 (conv=>whnf);refine ⟨rfl,?_⟩
 refine RW.keep 4 [0,2] rfl ?_;(conv=>whnf);refine ⟨?_⟩
 refine RW.pullT (k := 0) (l := 2) (j := 1) 0 2 1 rfl rfl rfl (by decide) rfl rfl rfl ?_
 refine RW.keep 4 [0] rfl ?_;(conv=>whnf);refine ⟨?_⟩
 refine RW.nil ?_
 refine CW.keep 4 [0] rfl ?_;(conv=>whnf);refine ⟨?_⟩
 refine CW.ret ?_
 exact Post.one (RV.c (f := fun e => (Keep.c e).map .w) (e' := (⟨[], [(⟨(⟨#[114, 111, 111, 116]⟩ : ByteArray), ⟨#[]⟩, 1⟩ : Item)]⟩ : Keep)) rfl rfl rfl rfl (DT.n (DT.w DT.e)) (by rfl)) AOs.e
set_option maxHeartbeats 4000000 in
theorem spec_l01New_fn (code : List Int) : Eng.Fn E.P 37 [.one (.r (sl 1 cU code))] (.one (.ob ((l01Cur.c (cur0 code)).map .r))) [.one (.r (sl 1 cU code))] := by
 refine Eng.Fn.intro (E := E) (rvs := [.tmp 2]) Try.func37 rfl rfl rfl (by simp [outSlots, moved, rvSlot, sl]) ?_
 intro B g bo
 refine CW.bound (x := .tmp 0) (n := code.length) (AsT.r) (fun hl0 => ?_)
 refine CW.keep 32 [0] rfl ?_;(conv=>whnf);refine ⟨?_⟩
 refine CW.k XK 32 2 [0,3] rfl ?_
 (conv=>whnf);refine ⟨rfl,?_⟩
 refine CW.seq ?_
 refine CW.k XK 32 1 [0,3,4] rfl ?_
 (conv=>whnf);refine ⟨rfl,?_⟩
 refine CW.block ?_
 refine CW.loopI 32 (fun (zz : Nat × Int) => match zz with | (i, h) => [(0, .r (sl 1 cU code)), (3, I h), (4, I (i : Int))]) (fun (zz : Nat × Int) => match zz with | (i, h) => i ≤ code.length ∧ i ≤ 4000 ∧ h = (code.take i).foldl hashStep (IntKind.i64.wrap (37401 + (code.length : Int)))) (fun (zz : Nat × Int) => match zz with | (i, h) => code.length - i) (0, _) rfl (Le.c rfl <| Le.c rfl <| Le.c rfl <| Le.e) ⟨by omega, by omega, rfl⟩ ?_
 rintro ⟨i, h⟩ ⟨hb, hq4, hh⟩
 refine CW.seq ?_
 refine CW.seqJ 32 (fun (v1 : Bool) => [(0, .r (sl 1 cU code)), (3, I h), (4, I (i : Int)), (15, Bo v1)]) (fun v1 => v1 = (decide ((i : Int) < (code.length : Int)) && decide ((i : Int) < 4000))) ?_ ?_
 ·refine CW.region ?_
  refine RW.k XK 32 5 rfl ?_
  (conv=>whnf);refine ⟨rfl,?_⟩
  refine RW.gv rfl rfl rfl rfl (fun h2 => V.mv (d := I (i : Int)) rfl rfl) (fun h2 => ?_) (fun h2 => ?_)
  ·skip
   refine RW.k XK 32 2 rfl ?_
   (conv=>whnf);refine ⟨rfl,?_⟩
   refine RW.nil ?_
   exact ⟨_, by first | (simp_all; done) | grind, rfl, Le.of rfl⟩
  ·skip
   refine RW.k XK 32 2 rfl ?_
   (conv=>whnf);refine ⟨rfl,?_⟩
   refine RW.nil ?_
   exact ⟨_, by first | (simp_all; done) | grind, rfl, Le.of rfl⟩
 ·intro v1 hv3
  refine CW.cond rfl (fun h4 => ?_) (fun h4 => ?_)
  ·skip
   have hii : i < code.length := by simp_all
   have hi4 : i < 4000 := by simp [hv3] at h4; omega
   obtain ⟨ei, hei⟩ : ∃ e, code[i]? = some e := ⟨_, List.getElem?_eq_getElem hii⟩
   refine CW.skip ?_
   refine CW.keep 32 [0,3,4] rfl ?_;(conv=>whnf);refine ⟨?_⟩
   refine CW.seq ?_
   refine CW.block ?_
   refine CW.region ?_
   refine RW.k XK 32 4 rfl ?_
   (conv=>whnf);refine ⟨rfl,?_⟩
   refine RW.v rfl (V.indexS rfl rfl rfl rfl rfl rfl cU.len hei) ?_
   refine RW.k XK 32 6 rfl ?_
   (conv=>whnf);refine ⟨rfl,?_⟩
   refine RW.nil ?_
   refine CW.keep 32 [0,3,4] rfl ?_;(conv=>whnf);refine ⟨?_⟩
   refine CW.region ?_
   refine RW.k XK 32 1 rfl ?_
   (conv=>whnf);refine ⟨rfl,?_⟩
   refine RW.v rfl (V.inc rfl rfl rfl hii hl0) ?_
   refine RW.k XK 32 1 rfl ?_
   (conv=>whnf);refine ⟨rfl,?_⟩
   refine RW.nil ?_
   exact ⟨(i + 1, _), by simp only []; omega, ⟨by omega, by omega, by rw [take_snoc hei, List.foldl_append, hh]; rfl⟩, rfl, Le.c rfl <| Le.c rfl <| Le.c rfl <| Le.e⟩
  ·skip
   have h4x : i < code.length → 4000 ≤ i := by intro hq; simp [hv3, hq] at h4; omega
   refine CW.exit ?_
   refine CW.keep 32 [0,3] rfl ?_;(conv=>whnf);refine ⟨?_⟩
   refine CW.k XK 32 1 [2,31] rfl ?_
   (conv=>whnf);intro b5;(conv=>whnf);refine ⟨rfl,?_⟩
   refine CW.pullP 2 31 (by decide) rfl rfl ?_
   refine CW.ret ?_
   exact Post.one (RV.p (f := fun e => (l01Cur.c e).map .r) (e' := (⟨code, 0, h⟩ : l01Cur)) rfl (DT.r (DT.r (DT.r DT.e))) (by rw [hh]; exact congrArg (fun l => (⟨code, 0, List.foldl hashStep _ l⟩ : l01Cur)) (take_min hb hq4 h4x))) (AOs.r AOs.e)
set_option maxHeartbeats 4000000 in
theorem spec_l01Byte_fn (c : l01Cur) (hc : curOk c) : Eng.Fn E.P 80 [.ob ((l01Cur.c c).map .r)] (.one (.one (.w (.v (.int .i64 ((byteN c).1)))))) [.ob ((l01Cur.c ((byteN c).2)).map .r)] := by
 refine Eng.Fn.intro (E := E) (rvs := [.tmp 2]) Try.func80 rfl rfl rfl (by simp [outSlots, moved, rvSlot, sl]) ?_
 intro B g bo
 refine CW.keep 58 [0] rfl ?_;(conv=>whnf);refine ⟨?_⟩
 obtain ⟨hc0, hc1, hc2⟩ := hc
 refine CW.k XK 58 2 [0] rfl ?_
 (conv=>whnf);refine ⟨rfl,?_⟩
 refine CW.seq ?_
 refine CW.drawn (by kernel_rfl) ?_
 refine RQ.k XK 58 13 rfl ?_
 (conv=>whnf);refine ⟨rfl,?_⟩
 refine RQ.nil ?_
 refine CW.keep 58 [0,3] rfl ?_;(conv=>whnf);refine ⟨?_⟩
 refine CW.seq ?_
 refine CW.seq ?_
 refine CW.drawn (by kernel_rfl) ?_
 refine RQ.k XK 58 10 rfl ?_
 (conv=>whnf);refine ⟨rfl,?_⟩
 refine RQ.nil ?_
 refine CW.keep 58 [0,3,34] rfl ?_;(conv=>whnf);refine ⟨?_⟩
 refine CW.cond rfl (fun h1 => ?_) (fun h1 => ?_)
 ·skip
  have hlt : c.i < (c.b.length : Int) := by simpa using h1
  refine CW.seq ?_
  refine CW.drawn (by kernel_rfl) ?_
  refine RQ.k XK 58 9 rfl ?_
  (conv=>whnf);refine ⟨rfl,?_⟩
  refine RQ.v rfl (V.indexZ (m := c.i.toNat) (v := (c.b.getD c.i.toNat 0)) rfl rfl rfl rfl rfl rfl (by omega) cU.len (getD_some (by omega))) ?_
  refine RQ.k XK 58 5 rfl ?_
  (conv=>whnf);refine ⟨rfl,?_⟩
  refine RQ.nil ?_
  refine CW.keep 58 [0,3] rfl ?_;(conv=>whnf);refine ⟨?_⟩
  refine CW.region ?_
  refine RW.k XK 58 9 rfl ?_
  (conv=>whnf);refine ⟨rfl,?_⟩
  refine RW.nil ?_
  refine CW.keep 58 [0,3] rfl ?_;(conv=>whnf);refine ⟨?_⟩
  refine CW.k XK 58 1 [0,2] rfl ?_
  (conv=>whnf);refine ⟨rfl,?_⟩
  refine CW.ret ?_
  exact Post.one (RV.i rfl (by unfold byteN; first | (rw [if_pos (by simpa using h1)]; rfl) | (rw [if_neg (by simpa using h1)]; rfl))) (AOs.obE (f := fun e => (l01Cur.c e).map .r) (e' := (⟨c.b, (IntKind.i64.wrap (c.i + 1)), (IntKind.i64.wrap ((IntKind.i64.wrap (c.h * 6364136223846793005)) + 1442695040888963407))⟩ : l01Cur)) rfl (DT.r (DT.r (DT.r DT.e))) (by unfold byteN; first | (rw [if_pos (by simpa using h1)]; rfl) | (rw [if_neg (by simpa using h1)]; rfl)) AOs.e)
 ·skip
  refine CW.skip ?_
  refine CW.keep 58 [0,3] rfl ?_;(conv=>whnf);refine ⟨?_⟩
  refine CW.k XK 58 1 [0,2] rfl ?_
  (conv=>whnf);refine ⟨rfl,?_⟩
  refine CW.ret ?_
  exact Post.one (RV.i rfl (by unfold byteN; first | (rw [if_pos (by simpa using h1)]; rfl) | (rw [if_neg (by simpa using h1)]; rfl))) (AOs.obE (f := fun e => (l01Cur.c e).map .r) (e' := (⟨c.b, c.i, (IntKind.i64.wrap ((IntKind.i64.wrap (c.h * 6364136223846793005)) + 1442695040888963407))⟩ : l01Cur)) rfl (DT.r (DT.r (DT.r DT.e))) (by unfold byteN; first | (rw [if_pos (by simpa using h1)]; rfl) | (rw [if_neg (by simpa using h1)]; rfl)) AOs.e)
set_option maxHeartbeats 4000000 in
theorem spec_l01Below_fn (c : l01Cur) (n : Int) (hc : curOk c) : Eng.Fn E.P 66 [.ob ((l01Cur.c c).map .r), .one (.r (.v (.int .i64 n)))] (.one (.one (.w (.v (.int .i64 ((belowN c n).1)))))) [.ob ((l01Cur.c ((belowN c n).2)).map .r), .one (.r (.v (.int .i64 n)))] := by
 refine Eng.Fn.intro (E := E) (rvs := [.tmp 4]) Try.func66 rfl rfl rfl (by simp [outSlots, moved, rvSlot, sl]) ?_
 intro B g bo
 refine CW.keep 37 [0,1] rfl ?_;(conv=>whnf);refine ⟨?_⟩
 refine CW.k XK 37 1 [0,1] rfl ?_
 (conv=>whnf);refine ⟨rfl,?_⟩
 refine CW.seq ?_
 refine CW.k XK 37 1 [0,1,10] rfl ?_
 (conv=>whnf);refine ⟨rfl,?_⟩
 refine CW.cond rfl (fun h1 => ?_) (fun h1 => ?_)
 ·skip
  refine CW.k XK 37 1 [0,4] rfl ?_
  (conv=>whnf);refine ⟨rfl,?_⟩
  refine CW.ret ?_
  exact Post.one (RV.i rfl (by unfold belowN; simp at h1; first | (rw [if_pos h1]; done) | (rw [if_neg (by omega)]; simp at h2; first | (rw [if_pos h2]; done) | (rw [if_neg (by omega)]; done)))) (AOs.obE (f := fun e => (l01Cur.c e).map .r) (e' := c) rfl (DT.r (DT.r (DT.r DT.e))) (by unfold belowN; simp at h1; first | (rw [if_pos h1]; done) | (rw [if_neg (by omega)]; simp at h2; first | (rw [if_pos h2]; done) | (rw [if_neg (by omega)]; done))) (AOs.r AOs.e))
 ·skip
  refine CW.skip ?_
  refine CW.keep 37 [0,1] rfl ?_;(conv=>whnf);refine ⟨?_⟩
  refine CW.seq ?_
  refine CW.k XK 37 1 [0,1,12] rfl ?_
  (conv=>whnf);refine ⟨rfl,?_⟩
  refine CW.cond rfl (fun h2 => ?_) (fun h2 => ?_)
  ·skip
   refine CW.seq ?_
   refine CW.region ?_
   refine RW.k XK 37 1 rfl ?_
   (conv=>whnf);refine ⟨rfl,?_⟩
   refine RW.callP (k := 0) (spec_l01Byte_fn c hc) rfl rfl (Nat.le_of_ble_eq_true rfl) (by decide) rfl (DT.r (DT.r (DT.r DT.e))) (AsPs.here rfl (.nil)) fun g3 q4 => ?_
   refine RW.k XK 37 1 rfl ?_
   (conv=>whnf);refine ⟨rfl,?_⟩
   refine RW.v rfl (V.rem rfl rfl rfl (by simp at h1; omega)) ?_
   refine RW.k XK 37 1 rfl ?_
   (conv=>whnf);refine ⟨rfl,?_⟩
   refine RW.nil ?_
   refine CW.keep 37 [0,4] rfl ?_;(conv=>whnf);refine ⟨?_⟩
   refine CW.ret ?_
   exact Post.one (RV.i rfl (by unfold belowN; simp at h1; first | (rw [if_pos h1]; done) | (rw [if_neg (by omega)]; simp at h2; first | (rw [if_pos h2]; done) | (rw [if_neg (by omega)]; done)))) (AOs.obE (f := fun e => (l01Cur.c e).map .r) (e' := ((byteN c).2)) rfl (DT.r (DT.r (DT.r DT.e))) (by unfold belowN; simp at h1; first | (rw [if_pos h1]; done) | (rw [if_neg (by omega)]; simp at h2; first | (rw [if_pos h2]; done) | (rw [if_neg (by omega)]; done))) (AOs.r AOs.e))
  ·skip
   refine CW.skip ?_
   refine CW.keep 37 [0,1] rfl ?_;(conv=>whnf);refine ⟨?_⟩
   refine CW.seq ?_
   refine CW.region ?_
   refine RW.k XK 37 1 rfl ?_
   (conv=>whnf);refine ⟨rfl,?_⟩
   refine RW.callP (k := 0) (spec_l01Byte_fn c hc) rfl rfl (Nat.le_of_ble_eq_true rfl) (by decide) rfl (DT.r (DT.r (DT.r DT.e))) (AsPs.here rfl (.nil)) fun g5 q6 => ?_
   refine RW.k XK 37 1 rfl ?_
   (conv=>whnf);refine ⟨rfl,?_⟩
   refine RW.nil ?_
   refine CW.keep 37 [0,1,5] rfl ?_;(conv=>whnf);refine ⟨?_⟩
   refine CW.seq ?_
   refine CW.region ?_
   refine RW.k XK 37 1 rfl ?_
   (conv=>whnf);refine ⟨rfl,?_⟩
   refine RW.callP (k := 0) (spec_l01Byte_fn ((byteN c).2) (byteN_ok hc)) rfl rfl (Nat.le_of_ble_eq_true rfl) (by decide) rfl (DT.r (DT.r (DT.r DT.e))) (AsPs.here rfl (.nil)) fun g7 q8 => ?_
   refine RW.k XK 37 1 rfl ?_
   (conv=>whnf);refine ⟨rfl,?_⟩
   refine RW.nil ?_
   refine CW.keep 37 [0,1,5,6] rfl ?_;(conv=>whnf);refine ⟨?_⟩
   refine CW.seq ?_
   refine CW.region ?_
   refine RW.k XK 37 1 rfl ?_
   (conv=>whnf);refine ⟨rfl,?_⟩
   refine RW.callP (k := 0) (spec_l01Byte_fn ((byteN ((byteN c).2)).2) (byteN_ok (byteN_ok hc))) rfl rfl (Nat.le_of_ble_eq_true rfl) (by decide) rfl (DT.r (DT.r (DT.r DT.e))) (AsPs.here rfl (.nil)) fun g9 q10 => ?_
   refine RW.k XK 37 1 rfl ?_
   (conv=>whnf);refine ⟨rfl,?_⟩
   refine RW.nil ?_
   refine CW.keep 37 [0,1,5,6,7] rfl ?_;(conv=>whnf);refine ⟨?_⟩
   refine CW.seq ?_
   refine CW.region ?_
   refine RW.k XK 37 1 rfl ?_
   (conv=>whnf);refine ⟨rfl,?_⟩
   refine RW.callP (k := 0) (spec_l01Byte_fn ((byteN ((byteN ((byteN c).2)).2)).2) (byteN_ok (byteN_ok (byteN_ok hc)))) rfl rfl (Nat.le_of_ble_eq_true rfl) (by decide) rfl (DT.r (DT.r (DT.r DT.e))) (AsPs.here rfl (.nil)) fun g11 q12 => ?_
   refine RW.k XK 37 1 rfl ?_
   (conv=>whnf);refine ⟨rfl,?_⟩
   refine RW.nil ?_
   refine CW.keep 37 [0,1,5,6,7,8] rfl ?_;(conv=>whnf);refine ⟨?_⟩
   refine CW.seq ?_
   refine CW.region ?_
   refine RW.k XK 37 11 rfl ?_
   (conv=>whnf);refine ⟨rfl,?_⟩
   refine RW.v rfl (V.rem rfl rfl rfl (by simp at h1; omega)) ?_
   refine RW.k XK 37 1 rfl ?_
   (conv=>whnf);refine ⟨rfl,?_⟩
   refine RW.nil ?_
   refine CW.keep 37 [0,4] rfl ?_;(conv=>whnf);refine ⟨?_⟩
   refine CW.ret ?_
   exact Post.one (RV.i rfl (by unfold belowN; simp at h1; first | (rw [if_pos h1]; done) | (rw [if_neg (by omega)]; simp at h2; first | (rw [if_pos h2]; done) | (rw [if_neg (by omega)]; done)))) (AOs.obE (f := fun e => (l01Cur.c e).map .r) (e' := ((byteN ((byteN ((byteN ((byteN c).2)).2)).2)).2)) rfl (DT.r (DT.r (DT.r DT.e))) (by unfold belowN; simp at h1; first | (rw [if_pos h1]; done) | (rw [if_neg (by omega)]; simp at h2; first | (rw [if_pos h2]; done) | (rw [if_neg (by omega)]; done))) (AOs.r AOs.e))
theorem spec_l01Below_fn_dx (c : l01Cur) (n : Int) (hc : curOk c) : Eng.FnX E.P (α := Drw (fun v : Int => 0 ≤ v ∧ (0 < n → v < n))) 66 [.ob ((l01Cur.c c).map .r), .one (.r (.v (.int .i64 n)))] (fun y => .one (.one (.w (.v (.int .i64 y.v))))) (fun y => [.ob ((l01Cur.c y.d).map .r), .one (.r (.v (.int .i64 n)))]) := drw_of (⟨(belowN c n).1, (belowN c n).2, below_in c n, belowN_ok hc n⟩ : Drw (fun v : Int => 0 ≤ v ∧ (0 < n → v < n))) (spec_l01Below_fn c n hc)
set_option maxHeartbeats 4000000 in
theorem spec_l01Once_fn (c : l01Cur) (n : Int) (hc : curOk c) : Eng.FnX E.P (α := Drw (fun _ : Bool => True)) 77 [.ob ((l01Cur.c c).map .r), .one (.r (.v (.int .i64 n)))] (fun y => .one (.one (.w (.v (.bool y.v))))) (fun y => [.ob ((l01Cur.c y.d).map .r), .one (.r (.v (.int .i64 n)))]) := by
 refine Eng.FnX.intro (E := E) (rvs := [.tmp 4]) Try.func77 rfl rfl rfl (by intro y; simp [outSlots, moved, rvSlot, sl]) ?_
 intro B g bo
 refine CW.keep 9 [0,1] rfl ?_;(conv=>whnf);refine ⟨?_⟩
 refine CW.k XK 9 1 [0,1] rfl ?_
 (conv=>whnf);refine ⟨rfl,?_⟩
 refine CW.seq ?_
 refine CW.region ?_
 refine RW.k XK 9 2 rfl ?_
 (conv=>whnf);refine ⟨rfl,?_⟩
 refine RW.callPX (k := 0) (spec_l01Below_fn_dx c n hc) rfl rfl (Nat.le_of_ble_eq_true rfl) (by decide) rfl (DT.r (DT.r (DT.r DT.e))) (AsPs.here (os := []) (outs := []) rfl (.cons (.one (.r .r)) (.nil))) (fun _ => AsPs.here rfl (.cons (.one (.r .r)) (.nil))) fun y1 g2 q3 => ?_
 refine RW.k XK 9 2 rfl ?_
 (conv=>whnf);refine ⟨rfl,?_⟩
 refine RW.nil ?_
 refine CW.keep 9 [0,4] rfl ?_;(conv=>whnf);refine ⟨?_⟩
 refine CW.ret ?_
 refine ⟨⟨(y1.v == 0), y1.d, trivial, y1.hd⟩, ?_⟩
 exact Post.one (RV.b rfl (by rfl)) (AOs.obE (f := fun e => (l01Cur.c e).map .r) (e' := y1.d) rfl (DT.r (DT.r (DT.r DT.e))) (by rfl) (AOs.r AOs.e))
set_option maxHeartbeats 4000000 in
theorem spec_l01PickInt_fn (c : l01Cur) (l : List Int) (hc : curOk c) (hl : 0 < l.length) : Eng.FnX E.P (α := Drw (fun _ : Int => True)) 67 [.ob ((l01Cur.c c).map .r), .one (.r (sl 1 cI l))] (fun y => .one (.one (.w (.v (.int .i64 y.v))))) (fun y => [.ob ((l01Cur.c y.d).map .r), .one (.r (sl 1 cI l))]) := by
 refine Eng.FnX.intro (E := E) (rvs := [.tmp 4]) Try.func67 rfl rfl rfl (by intro y; simp [outSlots, moved, rvSlot, sl]) ?_
 intro B g bo
 refine CW.bound (x := .tmp 1) (n := l.length) (AsT.r) (fun hl1 => ?_)
 refine CW.keep 12 [0,1] rfl ?_;(conv=>whnf);refine ⟨?_⟩
 refine CW.k XK 12 1 [0,1] rfl ?_
 (conv=>whnf);refine ⟨rfl,?_⟩
 refine CW.seq ?_
 refine CW.region ?_
 refine RW.k XK 12 4 rfl ?_
 (conv=>whnf);refine ⟨rfl,?_⟩
 refine RW.callPX (k := 0) (spec_l01Below_fn_dx c (l.length : Int) hc) rfl rfl (Nat.le_of_ble_eq_true rfl) (by decide) rfl (DT.r (DT.r (DT.r DT.e))) (AsPs.here (os := []) (outs := []) rfl (.cons (.one (.r .r)) (.nil))) (fun _ => AsPs.here rfl (.cons (.one (.r .r)) (.nil))) fun y1 g2 q3 => ?_
 refine RW.v rfl (V.indexZ (m := y1.v.toNat) (v := (l.getD y1.v.toNat 0)) rfl rfl rfl rfl rfl rfl (by have h9 := y1.h; omega) cI.len (getD_some (by have h9 := y1.h; omega))) ?_
 refine RW.k XK 12 2 rfl ?_
 (conv=>whnf);refine ⟨rfl,?_⟩
 refine RW.nil ?_
 refine CW.keep 12 [0,4] rfl ?_;(conv=>whnf);refine ⟨?_⟩
 refine CW.ret ?_
 refine ⟨⟨(l.getD y1.v.toNat 0), y1.d, trivial, y1.hd⟩, ?_⟩
 exact Post.one (RV.i rfl (by rfl)) (AOs.obE (f := fun e => (l01Cur.c e).map .r) (e' := y1.d) rfl (DT.r (DT.r (DT.r DT.e))) (by rfl) (AOs.r AOs.e))
set_option maxHeartbeats 4000000 in
theorem spec_l01Pick_fn (c : l01Cur) (l : List ByteArray) (hc : curOk c) (hl : 0 < l.length) : Eng.FnX E.P (α := Drw (fun _ : ByteArray => True)) 88 [.ob ((l01Cur.c c).map .r), .one (.r (sl 1 cS l))] (fun y => .one (.one (.w (.v (.string y.v))))) (fun y => [.ob ((l01Cur.c y.d).map .r), .one (.r (sl 1 cS l))]) := by
 refine Eng.FnX.intro (E := E) (rvs := [.tmp 4]) Try.func88 rfl rfl rfl (by intro y; simp [outSlots, moved, rvSlot, sl]) ?_
 intro B g bo
 refine CW.bound (x := .tmp 1) (n := l.length) (AsT.r) (fun hl1 => ?_)
 refine CW.keep 12 [0,1] rfl ?_;(conv=>whnf);refine ⟨?_⟩
 refine CW.k XK 12 1 [0,1] rfl ?_
 (conv=>whnf);refine ⟨rfl,?_⟩
 refine CW.seq ?_
 refine CW.region ?_
 refine RW.k XK 12 4 rfl ?_
 (conv=>whnf);refine ⟨rfl,?_⟩
 refine RW.callPX (k := 0) (spec_l01Below_fn_dx c (l.length : Int) hc) rfl rfl (Nat.le_of_ble_eq_true rfl) (by decide) rfl (DT.r (DT.r (DT.r DT.e))) (AsPs.here (os := []) (outs := []) rfl (.cons (.one (.r .r)) (.nil))) (fun _ => AsPs.here rfl (.cons (.one (.r .r)) (.nil))) fun y1 g2 q3 => ?_
 refine RW.v rfl (V.indexZ (m := y1.v.toNat) (v := (l.getD y1.v.toNat ⟨#[]⟩)) rfl rfl rfl rfl rfl rfl (by have h9 := y1.h; omega) cS.len (getD_some (by have h9 := y1.h; omega))) ?_
 refine RW.k XK 12 2 rfl ?_
 (conv=>whnf);refine ⟨rfl,?_⟩
 refine RW.nil ?_
 refine CW.keep 12 [0,4] rfl ?_;(conv=>whnf);refine ⟨?_⟩
 refine CW.ret ?_
 refine ⟨⟨(l.getD y1.v.toNat ⟨#[]⟩), y1.d, trivial, y1.hd⟩, ?_⟩
 exact Post.one (RV.s rfl (by rfl)) (AOs.obE (f := fun e => (l01Cur.c e).map .r) (e' := y1.d) rfl (DT.r (DT.r (DT.r DT.e))) (by rfl) (AOs.r AOs.e))
set_option maxHeartbeats 4000000 in
theorem spec_ItemOf_fn (k : Keep) (key : ByteArray) (hk : k.items.length ≤ maxLen) : Eng.FnX E.P (α := Item × Bool) 89 [.agg ((Keep.c k).map .r), .one (.r (.v (.string key)))] (fun y => .tup [.agg ((Item.c y.1).map .w), .one (.w (.v (.bool y.2)))]) (fun y => [.agg ((Keep.c k).map .r), .one (.r (.v (.string key)))]) := by
 refine Eng.FnX.intro (E := E) (rvs := [.cell 4 112, .tmp 5]) Try.func89 rfl rfl rfl (by intro y; simp [outSlots, moved, rvSlot, sl]) ?_
 intro B g bo
 refine CW.keep 28 [0,1] rfl ?_;(conv=>whnf);refine ⟨?_⟩
 refine CW.seq ?_
 refine CW.region ?_
 refine RW.k XK 28 1 rfl ?_
 (conv=>whnf);intro b1;(conv=>whnf);refine ⟨rfl,?_⟩
 refine RW.freezeB (ts := (Keep.c k)) 2 rfl (DRd.r (DRd.r DRd.e)) ?_
 refine RW.k XK 28 2 rfl ?_
 (conv=>whnf);intro b2;(conv=>whnf);refine ⟨rfl,?_⟩
 refine RW.nil ?_
 refine CW.keep 28 [1,2,4] rfl ?_;(conv=>whnf);refine ⟨?_⟩
 refine CW.seq ?_
 refine CW.k XK 28 1 [1,2,4,6] rfl ?_
 (conv=>whnf);refine ⟨rfl,?_⟩
 refine CW.block ?_
 refine CW.loopI 28 (fun (i : Nat) => [(1, S key), (2, .rp (Keep.c k)), (4, .obj b2 [S (⟨#[]⟩), S (⟨#[]⟩), I 0]), (6, I (i : Int))]) (fun (i : Nat) => i ≤ k.items.length) (fun (i : Nat) => k.items.length - i) 0 rfl (Le.c rfl <| Le.c rfl <| Le.c rfl <| Le.c rfl <| Le.e) (by omega) ?_
 rintro i hb
 refine CW.seq ?_
 refine CW.k XK 28 1 [1,2,4,6,11] rfl ?_
 (conv=>whnf);refine ⟨rfl,?_⟩
 refine CW.cond rfl (fun h3 => ?_) (fun h3 => ?_)
 ·skip
  have hii : i < k.items.length := by have := h3; simp at this; first | exact this | omega | (simp; done) | (simp; omega)
  obtain ⟨ei, hei⟩ : ∃ e, k.items[i]? = some e := ⟨_, List.getElem?_eq_getElem hii⟩
  have hdi := drop_get hei
  refine CW.skip ?_
  refine CW.keep 28 [1,2,4,6] rfl ?_;(conv=>whnf);refine ⟨?_⟩
  refine CW.seq ?_
  refine CW.block ?_
  refine CW.seq ?_
  refine CW.region ?_
  refine RW.k XK 28 3 rfl ?_
  (conv=>whnf);refine ⟨rfl,?_⟩
  refine RW.v rfl (V.indexS rfl rfl rfl rfl rfl rfl Item.len hei) ?_
  refine RW.k XK 28 4 rfl ?_
  (conv=>whnf);refine ⟨rfl,?_⟩
  refine RW.nil ?_
  refine CW.keep 28 [1,2,4,6,21] rfl ?_;(conv=>whnf);refine ⟨?_⟩
  refine CW.cond rfl (fun h4 => ?_) (fun h4 => ?_)
  ·skip
   refine CW.seq ?_
   refine CW.region ?_
   refine RW.k XK 28 3 rfl ?_
   (conv=>whnf);refine ⟨rfl,?_⟩
   refine RW.v rfl (V.indexS rfl rfl rfl rfl rfl rfl Item.len hei) ?_
   refine RW.k XK 28 3 rfl ?_
   (conv=>whnf);refine ⟨rfl,?_⟩
   refine RW.nil ?_
   refine CW.keep 28 [4,5] rfl ?_;(conv=>whnf);refine ⟨?_⟩
   refine CW.ret ?_
   refine ⟨⟨ei, true⟩, ?_⟩
   exact Post.tup (by decide) (RVs.c (RV.c (f := fun e => (Item.c e).map .w) (e' := ei) rfl rfl rfl rfl (DT.v (DT.v (DT.v DT.e))) (by rfl)) (RVs.c (RV.b rfl (by rfl)) RVs.e)) (AOs.a rfl (AOs.r AOs.e))
  ·skip
   refine CW.skip ?_
   refine CW.keep 28 [1,2,4,6] rfl ?_;(conv=>whnf);refine ⟨?_⟩
   refine CW.region ?_
   refine RW.k XK 28 1 rfl ?_
   (conv=>whnf);refine ⟨rfl,?_⟩
   refine RW.v rfl (V.inc rfl rfl rfl hii hk) ?_
   refine RW.k XK 28 1 rfl ?_
   (conv=>whnf);refine ⟨rfl,?_⟩
   refine RW.nil ?_
   exact ⟨i + 1, by omega, (by omega), rfl, Le.c rfl <| Le.c rfl <| Le.c rfl <| Le.c rfl <| Le.e⟩
 ·skip
  have hii : k.items.length ≤ i := by have := h3; simp at this; first | exact this | omega | (simp; done) | (simp; omega)
  have hdi : k.items.drop i = [] := List.drop_eq_nil_of_le hii
  refine CW.exit ?_
  refine CW.keep 28 [4] rfl ?_;(conv=>whnf);refine ⟨?_⟩
  refine CW.k XK 28 1 [4,5] rfl ?_
  (conv=>whnf);refine ⟨rfl,?_⟩
  refine CW.ret ?_
  refine ⟨⟨(⟨⟨#[]⟩, ⟨#[]⟩, 0⟩ : Item), false⟩, ?_⟩
  exact Post.tup (by decide) (RVs.c (RV.c (f := fun e => (Item.c e).map .w) (e' := (⟨⟨#[]⟩, ⟨#[]⟩, 0⟩ : Item)) rfl rfl rfl rfl (DT.v (DT.v (DT.v DT.e))) (by rfl)) (RVs.c (RV.b rfl (by rfl)) RVs.e)) (AOs.a rfl (AOs.r AOs.e))
set_option maxHeartbeats 4000000 in
theorem spec_l01Text_fn (c : l01Cur) (n : Int) (hc : curOk c) : Eng.FnX E.P (α := Drw (fun s : ByteArray => s.size ≤ 5000)) 76 [.ob ((l01Cur.c c).map .r), .one (.r (.v (.int .i64 n)))] (fun y => .one (.one (.w (.v (.string y.v))))) (fun y => [.ob ((l01Cur.c y.d).map .r), .one (.r (.v (.int .i64 n)))]) := by
 refine Eng.FnX.intro (E := E) (rvs := [.tmp 4]) Try.func76 rfl rfl rfl (by intro y; simp [outSlots, moved, rvSlot, sl]) ?_
 intro B g bo
 refine CW.keep 23 [0,1] rfl ?_;(conv=>whnf);refine ⟨?_⟩
 refine CW.k XK 23 1 [0,1] rfl ?_
 (conv=>whnf);refine ⟨rfl,?_⟩
 refine CW.seq ?_
 refine CW.k XK 23 1 [0,1,8] rfl ?_
 (conv=>whnf);refine ⟨rfl,?_⟩
 refine CW.joinS 23 (fun (m : Int) => [(0, .obj (bo 0) ((l01Cur.c c).map .r)), (1, I m)]) (fun (m : Int) => m ≤ 5000) ?_ ?_
 ·skip
  refine CW.cond rfl (fun h1 => ?_) (fun h1 => ?_)
  ·skip
   refine CW.region ?_
   refine RW.k XK 23 1 rfl ?_
   (conv=>whnf);refine ⟨rfl,?_⟩
   refine RW.nil ?_
   exact ⟨5000, (by first | omega | (have h9 := of_decide_eq_false h1; omega)), rfl, Le.c rfl <| Le.c rfl <| Le.e⟩
  ·skip
   refine CW.skip ?_
   exact ⟨n, (by first | omega | (have h9 := of_decide_eq_false h1; omega)), rfl, Le.c rfl <| Le.c rfl <| Le.e⟩
 ·rintro m hm
  refine CW.keep 23 [0,1] rfl ?_;(conv=>whnf);refine ⟨?_⟩
  refine CW.seq ?_
  refine CW.region ?_
  refine RW.build0 cU rfl rfl rfl rfl rfl fun X2 => ?_
  refine RW.assignMove rfl rfl rfl (by decide) (Nat.le_of_ble_eq_true rfl) (Nat.le_of_ble_eq_true rfl) ?_
  refine RW.nil ?_
  refine CW.keep 23 [0,1,5] rfl ?_;(conv=>whnf);refine ⟨?_⟩
  refine CW.seq ?_
  refine CW.k XK 23 1 [0,1,5,6] rfl ?_
  (conv=>whnf);refine ⟨rfl,?_⟩
  refine CW.block ?_
  refine CW.loopI 23 (fun (zz : Nat × List Int × Value × l01Cur) => match zz with | (i, l, X, d) => [(0, .obj (bo 0) ((l01Cur.c d).map .r)), (1, I m), (5, .w (sl 1 cU l) X), (6, I (i : Int))]) (fun (zz : Nat × List Int × Value × l01Cur) => match zz with | (i, l, X, d) => curOk d ∧ l.length = i ∧ i ≤ 5000) (fun (zz : Nat × List Int × Value × l01Cur) => match zz with | (i, l, X, d) => 5000 - i) (0, [], _, _) rfl (Le.c rfl <| Le.c rfl <| Le.c rfl <| Le.c rfl <| Le.e) ⟨hc, rfl, by omega⟩ ?_
  rintro ⟨i, l, X, d⟩ ⟨hd, hl, hi5⟩
  refine CW.seq ?_
  refine CW.k XK 23 1 [0,1,5,6,12] rfl ?_
  (conv=>whnf);refine ⟨rfl,?_⟩
  refine CW.cond rfl (fun h3 => ?_) (fun h3 => ?_)
  ·skip
   have hlt := of_decide_eq_true h3
   refine CW.skip ?_
   refine CW.keep 23 [0,1,5,6] rfl ?_;(conv=>whnf);refine ⟨?_⟩
   refine CW.seq ?_
   refine CW.block ?_
   refine CW.region ?_
   refine RW.k XK 23 2 rfl ?_
   (conv=>whnf);refine ⟨rfl,?_⟩
   refine RW.callP (k := 0) (spec_l01Byte_fn d hd) rfl rfl (Nat.le_of_ble_eq_true rfl) (by decide) rfl (DT.r (DT.r (DT.r DT.e))) (AsPs.here rfl (.nil)) fun g4 q5 => ?_
   refine RW.k XK 23 1 rfl ?_
   (conv=>whnf);refine ⟨rfl,?_⟩
   refine RW.build1c (c := cU) (v := (IntKind.u8.wrap ((byteN d).1))) (u := .v (.int .u8 (IntKind.u8.wrap ((byteN d).1)))) rfl rfl rfl rfl rfl rfl (.inl rfl) rfl rfl fun X6 => ?_
   refine RW.appendSR (c := cU) (l1 := l) (l2 := [(IntKind.u8.wrap ((byteN d).1))]) rfl rfl rfl rfl rfl rfl rfl rfl (.al (k := none) (i := 19) (sz := 1) (V := X6) rfl rfl nofun) (by decide) (Nat.le_of_ble_eq_true rfl) cU.len (fun _ => rfl) rfl (by simp only [maxLen, List.length_singleton]; omega) (by simp only [maxLen, List.length_singleton]; omega) fun X7 => ?_
   refine RW.assignMove rfl rfl rfl (by decide) (Nat.le_of_ble_eq_true rfl) (Nat.le_of_ble_eq_true rfl) ?_
   refine RW.nil ?_
   refine CW.keep 23 [0,1,5,6] rfl ?_;(conv=>whnf);refine ⟨?_⟩
   refine CW.region ?_
   refine RW.k XK 23 1 rfl ?_
   (conv=>whnf);refine ⟨rfl,?_⟩
   refine RW.v rfl (V.inc rfl rfl rfl (show i < 5000 by omega) (by simp only [maxLen]; omega)) ?_
   refine RW.k XK 23 1 rfl ?_
   (conv=>whnf);refine ⟨rfl,?_⟩
   refine RW.nil ?_
   exact ⟨(i + 1, _, _, _), by simp only []; omega, ⟨byteN_ok hd, by simp [hl], by omega⟩, rfl, Le.c rfl <| Le.c rfl <| Le.c rfl <| Le.c rfl <| Le.e⟩
  ·skip
   have hge := of_decide_eq_false h3
   refine CW.exit ?_
   refine CW.keep 23 [0,5] rfl ?_;(conv=>whnf);refine ⟨?_⟩
   refine CW.seq ?_
   refine CW.region ?_
   refine RW.k XK 23 1 rfl ?_
   (conv=>whnf);refine ⟨rfl,?_⟩
   refine RW.v rfl (V.bytesStr (l := l) rfl rfl rfl (by kernel_rfl) (by kernel_rfl) (.al (k := none) (i := 5) (sz := 1) (V := X) rfl rfl nofun)) ?_
   refine RW.k XK 23 1 rfl ?_
   (conv=>whnf);refine ⟨rfl,?_⟩
   refine RW.nil ?_
   refine CW.keep 23 [0,4] rfl ?_;(conv=>whnf);refine ⟨?_⟩
   refine CW.ret ?_
   refine ⟨⟨(bytesOf l), d, (bytesOf_le (by omega)), hd⟩, ?_⟩
   exact Post.one (RV.s rfl (by rfl)) (AOs.obE (f := fun e => (l01Cur.c e).map .r) (e' := d) rfl (DT.r (DT.r (DT.r DT.e))) (by rfl) (AOs.r AOs.e))
set_option maxHeartbeats 4000000 in
theorem spec_l01Long_fn (n : Int) (x : Int) (hn : 0 ≤ n ∧ n ≤ 5000) : Eng.FnX E.P (α := {s : ByteArray // s.size ≤ 5000}) 69 [.one (.r (.v (.int .i64 n))), .one (.r (.v (.int .u8 x)))] (fun y => .one (.one (.w (.v (.string y.1))))) (fun y => [.one (.r (.v (.int .i64 n))), .one (.r (.v (.int .u8 x)))]) := by
 refine Eng.FnX.intro (E := E) (rvs := [.tmp 4]) Try.func69 rfl rfl rfl (by intro y; simp [outSlots, moved, rvSlot, sl]) ?_
 intro B g bo
 refine CW.keep 20 [0,1] rfl ?_;(conv=>whnf);refine ⟨?_⟩
 have hn2 : n = ((n.toNat : Nat) : Int) := by omega
 refine CW.k XK 20 1 [0,1] rfl ?_
 (conv=>whnf);refine ⟨rfl,?_⟩
 refine CW.seq ?_
 refine CW.region ?_
 refine RW.k XK 20 1 rfl ?_
 (conv=>whnf);refine ⟨rfl,?_⟩
 refine RW.makeS (n := n.toNat) (c := cU) 0 rfl rfl rfl rfl rfl (congrArg (fun z : Int => D.r (.v (.int .i64 z))) hn2) (congrArg (fun z : Int => D.r (.v (.int .i64 z))) hn2) rfl (ZT.v ZT.e) (by show 1 * n.toNat ≤ 281474976710656; omega) (by simp only [maxLen]; omega) fun X1 => ?_
 refine RW.assignMove rfl rfl rfl (by decide) (Nat.le_of_ble_eq_true rfl) (Nat.le_of_ble_eq_true rfl) ?_
 refine RW.nil ?_
 refine CW.keep 20 [0,1,5] rfl ?_;(conv=>whnf);refine ⟨?_⟩
 refine CW.seq ?_
 refine CW.k XK 20 1 [0,1,5,6] rfl ?_
 (conv=>whnf);refine ⟨rfl,?_⟩
 refine CW.block ?_
 refine CW.loopI 20 (fun (zz : Nat × List Int × Value) => match zz with | (i, l, X) => [(0, I n), (1, .r (.v (.int .u8 x))), (5, .w (sl 1 cU l) X), (6, I (i : Int))]) (fun (zz : Nat × List Int × Value) => match zz with | (i, l, X) => l.length = n.toNat ∧ i ≤ n.toNat) (fun (zz : Nat × List Int × Value) => match zz with | (i, l, X) => n.toNat - i) (0, _, _) rfl (Le.c rfl <| Le.c rfl <| Le.c rfl <| Le.c rfl <| Le.e) ⟨by simp, by omega⟩ ?_
 rintro ⟨i, l, X⟩ ⟨hl, hi5⟩
 refine CW.seq ?_
 refine CW.k XK 20 1 [0,1,5,6,11] rfl ?_
 (conv=>whnf);refine ⟨rfl,?_⟩
 refine CW.cond rfl (fun h2 => ?_) (fun h2 => ?_)
 ·skip
  have hlt := of_decide_eq_true h2
  refine CW.skip ?_
  refine CW.keep 20 [0,1,5,6] rfl ?_;(conv=>whnf);refine ⟨?_⟩
  refine CW.seq ?_
  refine CW.block ?_
  refine CW.region ?_
  refine RW.k XK 20 3 rfl ?_
  (conv=>whnf);refine ⟨rfl,?_⟩
  refine RW.v rfl (V.indexW rfl rfl rfl rfl rfl rfl rfl (by omega)) ?_
  refine RW.storeS1 (v := x) (c := cU) (u := .v (.int .u8 x)) rfl rfl rfl rfl rfl rfl rfl (.inl rfl) rfl cU.len (by omega) rfl ?_
  refine RW.nil ?_
  refine CW.keep 20 [0,1,5,6] rfl ?_;(conv=>whnf);refine ⟨?_⟩
  refine CW.region ?_
  refine RW.k XK 20 1 rfl ?_
  (conv=>whnf);refine ⟨rfl,?_⟩
  refine RW.v rfl (V.inc rfl rfl rfl (show i < n.toNat by omega) (by simp only [maxLen]; omega)) ?_
  refine RW.k XK 20 1 rfl ?_
  (conv=>whnf);refine ⟨rfl,?_⟩
  refine RW.nil ?_
  exact ⟨(i + 1, _, _), by simp only []; omega, ⟨by simp [hl], by omega⟩, rfl, Le.c rfl <| Le.c rfl <| Le.c rfl <| Le.c rfl <| Le.e⟩
 ·skip
  have hge := of_decide_eq_false h2
  refine CW.exit ?_
  refine CW.keep 20 [5] rfl ?_;(conv=>whnf);refine ⟨?_⟩
  refine CW.seq ?_
  refine CW.region ?_
  refine RW.k XK 20 1 rfl ?_
  (conv=>whnf);refine ⟨rfl,?_⟩
  refine RW.v rfl (V.bytesStr (l := l) rfl rfl rfl (by kernel_rfl) (by kernel_rfl) (.al (k := none) (i := 5) (sz := 1) (V := X) rfl rfl nofun)) ?_
  refine RW.k XK 20 1 rfl ?_
  (conv=>whnf);refine ⟨rfl,?_⟩
  refine RW.nil ?_
  refine CW.keep 20 [4] rfl ?_;(conv=>whnf);refine ⟨?_⟩
  refine CW.ret ?_
  refine ⟨⟨(bytesOf l), (bytesOf_le (by omega))⟩, ?_⟩
  exact Post.one (RV.s rfl (by rfl)) (AOs.r (AOs.r AOs.e))
set_option maxHeartbeats 4000000 in
theorem spec_l05Conf_fn (c : l01Cur) (hc : curOk c) : Eng.FnX E.P (α := Drw (fun l : List Int => l.length ≤ 5)) 79 [.ob ((l01Cur.c c).map .r)] (fun y => .one (.one (.w (sl 1 cI y.v)))) (fun y => [.ob ((l01Cur.c y.d).map .r)]) := by
 refine Eng.FnX.intro (E := E) (rvs := [.tmp 2]) Try.func79 rfl rfl rfl (by intro y; simp [outSlots, moved, rvSlot, sl]) ?_
 intro B g bo
 refine CW.keep 23 [0] rfl ?_;(conv=>whnf);refine ⟨?_⟩
 refine CW.k XK 23 1 [0] rfl ?_
 (conv=>whnf);refine ⟨rfl,?_⟩
 refine CW.seq ?_
 refine CW.region ?_
 refine RW.build0 cI rfl rfl rfl rfl rfl fun X1 => ?_
 refine RW.assignMove rfl rfl rfl (by decide) (Nat.le_of_ble_eq_true rfl) (Nat.le_of_ble_eq_true rfl) ?_
 refine RW.nil ?_
 refine CW.keep 23 [0,3] rfl ?_;(conv=>whnf);refine ⟨?_⟩
 refine CW.seq ?_
 refine CW.k XK 23 1 [0,3,4] rfl ?_
 (conv=>whnf);refine ⟨rfl,?_⟩
 refine CW.block ?_
 refine CW.loopI 23 (fun (zz : Nat × List Int × Value × l01Cur) => match zz with | (i, l, X, d) => [(0, .obj (bo 0) ((l01Cur.c d).map .r)), (3, .w (sl 1 cI l) X), (4, I (i : Int))]) (fun (zz : Nat × List Int × Value × l01Cur) => match zz with | (i, l, X, d) => curOk d ∧ l.length + 1 ≤ i ∧ i ≤ 5) (fun (zz : Nat × List Int × Value × l01Cur) => match zz with | (i, l, X, d) => 5 - i) (1, [], _, _) rfl (Le.c rfl <| Le.c rfl <| Le.c rfl <| Le.e) ⟨hc, by simp, by omega⟩ ?_
 rintro ⟨i, l, X, d⟩ ⟨hd, hl, hi5⟩
 refine CW.seq ?_
 refine CW.k XK 23 1 [0,3,4,7] rfl ?_
 (conv=>whnf);refine ⟨rfl,?_⟩
 refine CW.cond rfl (fun h2 => ?_) (fun h2 => ?_)
 ·skip
  have hlt := of_decide_eq_true h2
  refine CW.skip ?_
  refine CW.keep 23 [0,3,4] rfl ?_;(conv=>whnf);refine ⟨?_⟩
  refine CW.seq ?_
  refine CW.block ?_
  refine CW.seq ?_
  refine CW.region ?_
  refine RW.k XK 23 1 rfl ?_
  (conv=>whnf);refine ⟨rfl,?_⟩
  refine RW.callPX (k := 0) (spec_l01Once_fn d 2 hd) rfl rfl (Nat.le_of_ble_eq_true rfl) (by decide) rfl (DT.r (DT.r (DT.r DT.e))) (AsPs.here (os := []) (outs := []) rfl (.cons (.one (.r .r)) (.nil))) (fun _ => AsPs.here rfl (.cons (.one (.r .r)) (.nil))) fun y3 g4 q5 => ?_
  refine RW.nil ?_
  refine CW.keep 23 [0,3,4,11] rfl ?_;(conv=>whnf);refine ⟨?_⟩
  refine CW.cond rfl (fun h6 => ?_) (fun h6 => ?_)
  ·skip
   refine CW.region ?_
   refine RW.k XK 23 2 rfl ?_
   (conv=>whnf);refine ⟨rfl,?_⟩
   refine RW.build1c (c := cI) (v := (i : Int)) (u := .v (.int .i64 (i : Int))) rfl rfl rfl rfl rfl rfl (.inl rfl) rfl rfl fun X7 => ?_
   refine RW.appendSR (c := cI) (l1 := l) (l2 := [(i : Int)]) rfl rfl rfl rfl rfl rfl rfl rfl (.al (k := none) (i := 14) (sz := 1) (V := X7) rfl rfl nofun) (by decide) (Nat.le_of_ble_eq_true rfl) cI.len (fun _ => rfl) rfl (by simp only [maxLen, List.length_singleton]; omega) (by simp only [maxLen, List.length_singleton]; omega) fun X8 => ?_
   refine RW.assignMove rfl rfl rfl (by decide) (Nat.le_of_ble_eq_true rfl) (Nat.le_of_ble_eq_true rfl) ?_
   refine RW.nil ?_
   refine CW.keep 23 [0,3,4] rfl ?_;(conv=>whnf);refine ⟨?_⟩
   refine CW.region ?_
   refine RW.k XK 23 1 rfl ?_
   (conv=>whnf);refine ⟨rfl,?_⟩
   refine RW.v rfl (V.inc rfl rfl rfl (show i < 5 by omega) (by simp only [maxLen]; omega)) ?_
   refine RW.k XK 23 1 rfl ?_
   (conv=>whnf);refine ⟨rfl,?_⟩
   refine RW.nil ?_
   exact ⟨(i + 1, _, _, _), by simp only []; omega, ⟨y3.hd, by (try simp only [List.length_append, List.length_singleton]); omega, by omega⟩, rfl, Le.c rfl <| Le.c rfl <| Le.c rfl <| Le.e⟩
  ·skip
   refine CW.skip ?_
   refine CW.keep 23 [0,3,4] rfl ?_;(conv=>whnf);refine ⟨?_⟩
   refine CW.region ?_
   refine RW.k XK 23 1 rfl ?_
   (conv=>whnf);refine ⟨rfl,?_⟩
   refine RW.v rfl (V.inc rfl rfl rfl (show i < 5 by omega) (by simp only [maxLen]; omega)) ?_
   refine RW.k XK 23 1 rfl ?_
   (conv=>whnf);refine ⟨rfl,?_⟩
   refine RW.nil ?_
   exact ⟨(i + 1, _, _, _), by simp only []; omega, ⟨y3.hd, by (try simp only [List.length_append, List.length_singleton]); omega, by omega⟩, rfl, Le.c rfl <| Le.c rfl <| Le.c rfl <| Le.e⟩
 ·skip
  have hge := of_decide_eq_false h2
  refine CW.exit ?_
  refine CW.keep 23 [0,3] rfl ?_;(conv=>whnf);refine ⟨?_⟩
  refine CW.seq ?_
  refine CW.k XK 23 1 [0,3,18] rfl ?_
  (conv=>whnf);refine ⟨rfl,?_⟩
  refine CW.cond rfl (fun h9 => ?_) (fun h9 => ?_)
  ·skip
   refine CW.region ?_
   refine RW.k XK 23 1 rfl ?_
   (conv=>whnf);refine ⟨rfl,?_⟩
   refine RW.build1c (c := cI) (v := 1) (u := .v (.int .i64 1)) rfl rfl rfl rfl rfl rfl (.inl rfl) rfl rfl fun X10 => ?_
   refine RW.appendSR (c := cI) (l1 := l) (l2 := [1]) rfl rfl rfl rfl rfl rfl rfl rfl (.al (k := none) (i := 20) (sz := 1) (V := X10) rfl rfl nofun) (by decide) (Nat.le_of_ble_eq_true rfl) cI.len (fun _ => rfl) rfl (by simp only [maxLen, List.length_singleton]; omega) (by simp only [maxLen, List.length_singleton]; omega) fun X11 => ?_
   refine RW.assignMove rfl rfl rfl (by decide) (Nat.le_of_ble_eq_true rfl) (Nat.le_of_ble_eq_true rfl) ?_
   refine RW.nil ?_
   refine CW.keep 23 [0,3] rfl ?_;(conv=>whnf);refine ⟨?_⟩
   refine CW.seq ?_
   refine CW.region ?_
   refine RW.k XK 23 2 rfl ?_
   (conv=>whnf);refine ⟨rfl,?_⟩
   refine RW.pullS 2 3 (by decide) rfl rfl ?_
   refine RW.nil ?_
   refine CW.keep 23 [0,2] rfl ?_;(conv=>whnf);refine ⟨?_⟩
   refine CW.ret ?_
   refine ⟨⟨(l ++ ([1])), d, (by (try simp only [List.length_append, List.length_singleton]); omega), hd⟩, ?_⟩
   exact Post.one (RV.w rfl (by rfl)) (AOs.obE (f := fun e => (l01Cur.c e).map .r) (e' := d) rfl (DT.r (DT.r (DT.r DT.e))) (by rfl) AOs.e)
  ·skip
   refine CW.skip ?_
   refine CW.keep 23 [0,3] rfl ?_;(conv=>whnf);refine ⟨?_⟩
   refine CW.seq ?_
   refine CW.region ?_
   refine RW.k XK 23 2 rfl ?_
   (conv=>whnf);refine ⟨rfl,?_⟩
   refine RW.pullS 2 3 (by decide) rfl rfl ?_
   refine RW.nil ?_
   refine CW.keep 23 [0,2] rfl ?_;(conv=>whnf);refine ⟨?_⟩
   refine CW.ret ?_
   refine ⟨⟨l, d, (by (try simp only [List.length_append, List.length_singleton]); omega), hd⟩, ?_⟩
   exact Post.one (RV.w rfl (by rfl)) (AOs.obE (f := fun e => (l01Cur.c e).map .r) (e' := d) rfl (DT.r (DT.r (DT.r DT.e))) (by rfl) AOs.e)
end Go.Proofs.Ytmhnehgpmndiiaa.Y
