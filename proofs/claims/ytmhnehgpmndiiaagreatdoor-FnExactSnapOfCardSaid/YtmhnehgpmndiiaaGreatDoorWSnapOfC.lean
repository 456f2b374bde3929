import Derived.Test.YtmhnehgpmndiiaaGreatDoorWSnapOfB
namespace Go.Proofs.YtmhnehgpmndiiaaGreatDoor.Y
open Go Go.RowKit Go.Eng Go.Proofs
set_option maxRecDepth 10000
set_option maxHeartbeats 4000000 in
theorem impl_NewestSnap_fn (d : Disk) (hok : okToDisk d) : Eng.Fn E.P 31 [.agg ((Disk.c d).map .r)] (.tup [.agg ((Snap.c ((newest d).1)).map .w), .one (.w (.v (.bool ((newest d).2))))]) [.agg ((Disk.c d).map .r)] := by
 refine Eng.Fn.intro (E := E) (rvs := [.cell 2 42, .tmp 3]) Tryz.func31 rfl rfl rfl (by simp [outSlots, moved, rvSlot, sl]) ?_
 intro B g bo
 refine CW.keep 55 [0] rfl ?_;(conv=>whnf);refine ⟨?_⟩
 have hl1 : d.files.length ≤ maxLen := by have := hok.1; simp only [maxLen]; omega
 refine CW.seq ?_
 refine CW.region ?_
 refine RW.k XK 55 1 rfl ?_
 (conv=>whnf);intro b1;(conv=>whnf);refine ⟨rfl,?_⟩
 refine RW.freezeB (ts := (Disk.c d)) 1 rfl (DRd.r DRd.e) ?_
 refine RW.k XK 55 2 rfl ?_
 (conv=>whnf);intro b2;(conv=>whnf);refine ⟨rfl,?_⟩
 refine RW.nil ?_
 refine CW.keep 55 [1,2] rfl ?_;(conv=>whnf);refine ⟨?_⟩
 refine CW.k XK 55 1 [1,2,4] rfl ?_
 (conv=>whnf);intro b3;(conv=>whnf);refine ⟨rfl,?_⟩
 refine CW.seq ?_
 refine CW.seq ?_
 refine CW.region ?_
 refine RW.k XK 55 1 rfl ?_
 (conv=>whnf);refine ⟨rfl,?_⟩
 refine RW.call rfl (impl_DiskOk_fn d hok) rfl (.cons (.agg (.cons (.r .r) (.nil))) (.nil)) fun g4 => ?_
 refine RW.k XK 55 1 rfl ?_
 (conv=>whnf);refine ⟨rfl,?_⟩
 refine RW.nil ?_
 refine CW.keep 55 [1,2,4,13] rfl ?_;(conv=>whnf);refine ⟨?_⟩
 refine CW.cond rfl (fun h5 => ?_) (fun h5 => ?_)
 ·skip
  have hno := nT h5
  refine CW.k XK 55 1 [2,3] rfl ?_
  (conv=>whnf);refine ⟨rfl,?_⟩
  refine CW.ret ?_
  exact Post.tup (by decide) (RVs.c (RV.c (f := fun e => (Snap.c e).map .w) (e' := (⟨0, 0, [], ⟨#[]⟩⟩ : Snap)) rfl rfl rfl rfl (DT.v (DT.v (DT.n (DT.v DT.e)))) (by rw [newest_bad hno]; rfl)) (RVs.c (RV.b rfl (by rw [newest_bad hno])) RVs.e)) (AOs.a rfl AOs.e)
 ·skip
  have hdk := nF h5
  refine CW.skip ?_
  refine CW.keep 55 [1,2,4] rfl ?_;(conv=>whnf);refine ⟨?_⟩
  refine CW.seq ?_
  refine CW.k XK 55 1 [2,4,16,17,18] rfl ?_
  (conv=>whnf);refine ⟨rfl,?_⟩
  refine CW.block ?_
  refine CW.nilCell 4 2 1 cI rfl rfl ?_
  refine CW.loopI 55 (fun (zz : Nat × Snap × Value) => match zz with | (i, b, X) => [(2, .obj b2 [I 0, I 0, .r (.v (.slice none 0 0)), S (⟨#[]⟩)]), (4, .obj b3 [I b.index, I b.term_, .w (sl 1 cI b.conf) X, S b.body]), (16, .r (sl 3 File.c d.files)), (17, I (d.files.length : Int)), (18, I (i : Int))]) (fun (zz : Nat × Snap × Value) => match zz with | (i, b, X) => BsP d i b) (fun (zz : Nat × Snap × Value) => match zz with | (i, b, X) => d.files.length - i) (0, bst0, _) rfl (Le.c rfl <| Le.c rfl <| Le.c rfl <| Le.c rfl <| Le.c rfl <| Le.e) (BsP.init d) ?_
  rintro ⟨i, b, X⟩ hP
  refine CW.k XK 55 1 [2,4,16,17,18,19] rfl ?_
  (conv=>whnf);refine ⟨rfl,?_⟩
  refine CW.seq ?_
  refine CW.cond rfl (fun h6 => ?_) (fun h6 => ?_)
  ·skip
   have hii : i < d.files.length := by have := h6; simp at this; first | exact this | omega | (simp; done) | (simp; omega)
   obtain ⟨ei, hei⟩ : ∃ e, d.files[i]? = some e := ⟨_, List.getElem?_eq_getElem hii⟩
   have hdi := drop_get hei
   refine CW.skip ?_
   refine CW.keep 55 [2,4,16,17,18] rfl ?_;(conv=>whnf);refine ⟨?_⟩
   refine CW.seq ?_
   refine CW.block ?_
   refine CW.seq ?_
   refine CW.region ?_
   refine RW.v rfl (V.indexS rfl rfl rfl rfl rfl rfl File.len hei) ?_
   refine RW.k XK 55 3 rfl ?_
   (conv=>whnf);intro b7;(conv=>whnf);refine ⟨rfl,?_⟩
   refine RW.freezeB (ts := (File.c ei)) 6 rfl (DRd.r (DRd.r (DRd.r DRd.e))) ?_
   refine RW.nil ?_
   refine CW.keep 55 [2,4,6,16,17,18] rfl ?_;(conv=>whnf);refine ⟨?_⟩
   refine CW.seq ?_
   refine CW.region ?_
   refine RW.k XK 55 2 rfl ?_
   (conv=>whnf);refine ⟨rfl,?_⟩
   refine RW.call rfl (impl_numberOf_fn ei.name (⟨#[115]⟩ : ByteArray) 1000000 (hok.2 ei (List.mem_of_getElem? hei)).1 rfl rfl) rfl (.cons (.one (.r .r)) (.cons (.one (.r .r)) (.cons (.one (.r .r)) (.nil)))) fun g8 => ?_
   refine RW.k XK 55 1 rfl ?_
   (conv=>whnf);refine ⟨rfl,?_⟩
   refine RW.nil ?_
   refine CW.keep 55 [2,4,6,7,16,17,18] rfl ?_;(conv=>whnf);refine ⟨?_⟩
   refine CW.seq ?_
   refine CW.region ?_
   refine RW.k XK 55 2 rfl ?_
   (conv=>whnf);refine ⟨rfl,?_⟩
   refine RW.call rfl (impl_ReadSnap_fn ei.text (hok.2 ei (List.mem_of_getElem? hei)).2) rfl (.cons (.one (.r .r)) (.nil)) fun g9 => ?_
   refine RW.k XK 55 5 rfl ?_
   (conv=>whnf);intro b10;(conv=>whnf);refine ⟨rfl,?_⟩
   refine RW.keep 55 [2,4,7,8,16,17,18,29,30] rfl ?_;(conv=>whnf);refine ⟨?_⟩
   refine RW.pullA (k := 8) (l := 29) (j := 2) 8 29 2 rfl rfl rfl (by decide) rfl rfl rfl rfl ?_
   refine RW.keep 55 [2,4,7,8,16,17,18,30] rfl ?_;(conv=>whnf);refine ⟨?_⟩
   refine RW.k XK 55 1 rfl ?_
   (conv=>whnf);refine ⟨rfl,?_⟩
   refine RW.nil ?_
   refine CW.keep 55 [2,4,7,8,9,16,17,18] rfl ?_;(conv=>whnf);refine ⟨?_⟩
   refine CW.seqJ 55 (fun (v11 : Bool) => [(2, .obj b2 [I 0, I 0, .r (.v (.slice none 0 0)), S (⟨#[]⟩)]), (4, .obj b3 [I b.index, I b.term_, .w (sl 1 cI b.conf) X, S b.body]), (8, .obj b10 [I (((rdSnap ei.text).1).index), I (((rdSnap ei.text).1).term_), .w (sl 1 cI (((rdSnap ei.text).1).conf)) (g9 0 2), S (((rdSnap ei.text).1).body)]), (16, .r (sl 3 File.c d.files)), (17, I (d.files.length : Int)), (18, I (i : Int)), (47, Bo v11)]) (fun v11 => v11 = (((decide ((snIx ei.name) ≥ 0) && ((rdSnap ei.text).2)) && (((rdSnap ei.text).1).index == (snIx ei.name))) && decide ((snIx ei.name) > b.index))) ?_ ?_
   ·refine CW.region ?_
    refine RW.k XK 55 3 rfl ?_
    (conv=>whnf);refine ⟨rfl,?_⟩
    refine RW.gv rfl rfl rfl rfl (fun h12 => V.mv (d := Bo ((rdSnap ei.text).2)) rfl rfl) (fun h12 => ?_) (fun h12 => ?_)
    ·skip
     refine RW.k XK 55 2 rfl ?_
     (conv=>whnf);refine ⟨rfl,?_⟩
     refine RW.gv rfl rfl rfl rfl (fun h13 => V.field rfl rfl rfl rfl (by decide) rfl) (fun h13 => ?_) (fun h13 => ?_)
     ·skip
      refine RW.k XK 55 5 rfl ?_
      (conv=>whnf);refine ⟨rfl,?_⟩
      refine RW.gv rfl rfl rfl rfl (fun h14 => V.mv (d := I (snIx ei.name)) rfl rfl) (fun h14 => ?_) (fun h14 => ?_)
      ·skip
       refine RW.k XK 55 4 rfl ?_
       (conv=>whnf);refine ⟨rfl,?_⟩
       refine RW.nil ?_
       exact ⟨_, by first | rfl | (simp_all; done) | (simp_all; omega) | grind, rfl, Le.of rfl⟩
      ·skip
       refine RW.k XK 55 4 rfl ?_
       (conv=>whnf);refine ⟨rfl,?_⟩
       refine RW.nil ?_
       exact ⟨_, by first | rfl | (simp_all; done) | (simp_all; omega) | grind, rfl, Le.of rfl⟩
     ·skip
      refine RW.k XK 55 10 rfl ?_
      (conv=>whnf);refine ⟨rfl,?_⟩
      refine RW.nil ?_
      exact ⟨_, by first | rfl | (simp_all; done) | (simp_all; omega) | grind, rfl, Le.of rfl⟩
    ·skip
     refine RW.k XK 55 13 rfl ?_
     (conv=>whnf);refine ⟨rfl,?_⟩
     refine RW.nil ?_
     exact ⟨_, by first | rfl | (simp_all; done) | (simp_all; omega) | grind, rfl, Le.of rfl⟩
   ·intro v11 hv15
    refine CW.cond rfl (fun h16 => ?_) (fun h16 => ?_)
    ·skip
     have hvv := hv15.symm.trans h16
     refine CW.region ?_
     refine RW.k XK 55 2 rfl ?_
     (conv=>whnf);refine ⟨rfl,?_⟩
     refine RW.keep 55 [2,4,8,16,17,18] rfl ?_;(conv=>whnf);refine ⟨?_⟩
     refine RW.pullO (k := 4) (l := 8) (j := 2) 4 8 2 rfl rfl rfl (by decide) rfl rfl rfl rfl ?_
     refine RW.keep 55 [2,4,16,17,18] rfl ?_;(conv=>whnf);refine ⟨?_⟩
     refine RW.nil ?_
     refine CW.keep 55 [2,4,16,17,18] rfl ?_;(conv=>whnf);refine ⟨?_⟩
     refine CW.region ?_
     refine RW.v rfl (V.inc rfl rfl rfl hii hl1) ?_
     refine RW.k XK 55 1 rfl ?_
     (conv=>whnf);refine ⟨rfl,?_⟩
     refine RW.nil ?_
     exact ⟨(i + 1, ((rdSnap ei.text).1), _), by simp only []; omega, (by first | exact hP.y hei hdk hvv | exact hP.n hei hdk hvv), rfl, Le.c rfl <| Le.c rfl <| Le.c rfl <| Le.c rfl <| Le.c rfl <| Le.e⟩
    ·skip
     have hvv := hv15.symm.trans h16
     refine CW.skip ?_
     refine CW.keep 55 [2,4,16,17,18] rfl ?_;(conv=>whnf);refine ⟨?_⟩
     refine CW.region ?_
     refine RW.v rfl (V.inc rfl rfl rfl hii hl1) ?_
     refine RW.k XK 55 1 rfl ?_
     (conv=>whnf);refine ⟨rfl,?_⟩
     refine RW.nil ?_
     exact ⟨(i + 1, b, _), by simp only []; omega, (by first | exact hP.y hei hdk hvv | exact hP.n hei hdk hvv), rfl, Le.c rfl <| Le.c rfl <| Le.c rfl <| Le.c rfl <| Le.c rfl <| Le.e⟩
  ·skip
   have hx9 : (decide ((i : Int) < (d.files.length : Int)) && diskOk d) = false := by rw [h6]; rfl
   have hii : d.files.length ≤ i := by have := h6; simp at this; first | exact this | omega | (simp; done) | (simp; omega)
   have hdi : d.files.drop i = [] := List.drop_eq_nil_of_le hii
   refine CW.exit ?_
   refine CW.keep 55 [2,4] rfl ?_;(conv=>whnf);refine ⟨?_⟩
   refine CW.seq ?_
   refine CW.k XK 55 1 [2,4,52] rfl ?_
   (conv=>whnf);refine ⟨rfl,?_⟩
   refine CW.cond rfl (fun h17 => ?_) (fun h17 => ?_)
   ·skip
    have hng := h17
    refine CW.k XK 55 1 [2,3] rfl ?_
    (conv=>whnf);refine ⟨rfl,?_⟩
    refine CW.ret ?_
    exact Post.tup (by decide) (RVs.c (RV.c (f := fun e => (Snap.c e).map .w) (e' := (⟨0, 0, [], ⟨#[]⟩⟩ : Snap)) rfl rfl rfl rfl (DT.v (DT.v (DT.n (DT.v DT.e)))) (by rw [hP.no hx9 hng]; rfl)) (RVs.c (RV.b rfl (by rw [hP.no hx9 hng])) RVs.e)) (AOs.a rfl AOs.e)
   ·skip
    have hng := h17
    refine CW.skip ?_
    refine CW.keep 55 [2,4] rfl ?_;(conv=>whnf);refine ⟨?_⟩
    refine CW.seq ?_
    refine CW.region ?_
    refine RW.k XK 55 2 rfl ?_
    (conv=>whnf);refine ⟨rfl,?_⟩
    refine RW.keep 55 [2,4] rfl ?_;(conv=>whnf);refine ⟨?_⟩
    refine RW.pullO (k := 2) (l := 4) (j := 2) 2 4 2 rfl rfl rfl (by decide) rfl rfl rfl rfl ?_
    refine RW.keep 55 [2] rfl ?_;(conv=>whnf);refine ⟨?_⟩
    refine RW.k XK 55 1 rfl ?_
    (conv=>whnf);refine ⟨rfl,?_⟩
    refine RW.nil ?_
    refine CW.keep 55 [2,3] rfl ?_;(conv=>whnf);refine ⟨?_⟩
    refine CW.ret ?_
    exact Post.tup (by decide) (RVs.c (RV.c (f := fun e => (Snap.c e).map .w) (e' := b) rfl rfl rfl rfl (DT.v (DT.v (DT.w (DT.v DT.e)))) (by rw [hP.yes hx9 hng])) (RVs.c (RV.b rfl (by rw [hP.yes hx9 hng])) RVs.e)) (AOs.a rfl AOs.e)
set_option maxHeartbeats 4000000 in
theorem spec_NewestSnap_fn (d : Disk) (hok : okToDisk d) : Eng.Fn E.P 26 [.agg ((Disk.c d).map .r)] (.tup [.agg ((Snap.c ((newest d).1)).map .w), .one (.w (.v (.bool ((newest d).2))))]) [.agg ((Disk.c d).map .r)] := by
 refine Eng.Fn.intro (E := E) (rvs := [.cell 2 42, .tmp 3]) Tryz.func26 rfl rfl rfl (by simp [outSlots, moved, rvSlot, sl]) ?_
 intro B g bo
 refine CW.keep 61 [0] rfl ?_;(conv=>whnf);refine ⟨?_⟩
 have hl1 : d.files.length ≤ maxLen := by have := hok.1; simp only [maxLen]; omega
 refine CW.seq ?_
 refine CW.region ?_
 refine RW.k XK 61 1 rfl ?_
 (conv=>whnf);intro b1;(conv=>whnf);refine ⟨rfl,?_⟩
 refine RW.freezeB (ts := (Disk.c d)) 1 rfl (DRd.r DRd.e) ?_
 refine RW.k XK 61 2 rfl ?_
 (conv=>whnf);intro b2;(conv=>whnf);refine ⟨rfl,?_⟩
 refine RW.nil ?_
 refine CW.keep 61 [1,2] rfl ?_;(conv=>whnf);refine ⟨?_⟩
 refine CW.k XK 61 1 [1,2,4] rfl ?_
 (conv=>whnf);intro b3;(conv=>whnf);refine ⟨rfl,?_⟩
 refine CW.seq ?_
 refine CW.k XK 61 1 [1,2,4,5] rfl ?_
 (conv=>whnf);refine ⟨rfl,?_⟩
 refine CW.block ?_
 refine CW.nilCell 4 2 1 cI rfl rfl ?_
 refine CW.loopI 61 (fun (zz : Nat × Snap × Value) => match zz with | (i, b, X) => [(1, .rp (Disk.c d)), (2, .obj b2 [I 0, I 0, .r (.v (.slice none 0 0)), S (⟨#[]⟩)]), (4, .obj b3 [I b.index, I b.term_, .w (sl 1 cI b.conf) X, S b.body]), (5, I (i : Int))]) (fun (zz : Nat × Snap × Value) => match zz with | (i, b, X) => BsP d i b) (fun (zz : Nat × Snap × Value) => match zz with | (i, b, X) => d.files.length - i) (0, bst0, _) rfl (Le.c rfl <| Le.c rfl <| Le.c rfl <| Le.c rfl <| Le.e) (BsP.init d) ?_
 rintro ⟨i, b, X⟩ hP
 refine CW.seq ?_
 refine CW.seqJ 61 (fun (v4 : Bool) => [(1, .rp (Disk.c d)), (2, .obj b2 [I 0, I 0, .r (.v (.slice none 0 0)), S (⟨#[]⟩)]), (4, .obj b3 [I b.index, I b.term_, .w (sl 1 cI b.conf) X, S b.body]), (5, I (i : Int)), (18, Bo v4)]) (fun v4 => v4 = (decide ((i : Int) < (d.files.length : Int)) && (diskOk d))) ?_ ?_
 ·refine CW.region ?_
  refine RW.k XK 61 6 rfl ?_
  (conv=>whnf);refine ⟨rfl,?_⟩
  refine RW.gv rfl rfl rfl rfl (fun h5 => V.loadAggR rfl rfl rfl rfl (Nat.le_of_ble_eq_true rfl)) (fun h5 => ?_) (fun h5 => ?_)
  ·skip
   refine RW.gcall rfl rfl rfl rfl (spec_DiskOk_fn d hok) rfl (.cons (.agg (.cons (.r .r) (.nil))) (.nil)) fun g6 => ?_
   refine RW.k XK 61 1 rfl ?_
   (conv=>whnf);refine ⟨rfl,?_⟩
   refine RW.nil ?_
   exact ⟨_, by first | rfl | (simp_all; done) | (simp_all; omega) | grind, rfl, Le.of rfl⟩
  ·skip
   refine RW.k XK 61 2 rfl ?_
   (conv=>whnf);refine ⟨rfl,?_⟩
   refine RW.nil ?_
   exact ⟨_, by first | rfl | (simp_all; done) | (simp_all; omega) | grind, rfl, Le.of rfl⟩
 ·intro v4 hv7
  refine CW.cond rfl (fun h8 => ?_) (fun h8 => ?_)
  ·skip
   have hv0 := hv7.symm.trans h8
   have hdk : diskOk d = true := (Bool.and_eq_true_iff.1 hv0).2
   have hii : i < d.files.length := by have h9 := of_decide_eq_true (Bool.and_eq_true_iff.1 hv0).1; omega
   obtain ⟨ei, hei⟩ : ∃ e, d.files[i]? = some e := ⟨_, List.getElem?_eq_getElem hii⟩
   refine CW.skip ?_
   refine CW.keep 61 [1,2,4,5] rfl ?_;(conv=>whnf);refine ⟨?_⟩
   refine CW.seq ?_
   refine CW.block ?_
   refine CW.seq ?_
   refine CW.region ?_
   refine RW.k XK 61 3 rfl ?_
   (conv=>whnf);refine ⟨rfl,?_⟩
   refine RW.v rfl (V.indexS rfl rfl rfl rfl rfl rfl File.len hei) ?_
   refine RW.k XK 61 2 rfl ?_
   (conv=>whnf);refine ⟨rfl,?_⟩
   refine RW.call rfl (spec_l08Index_fn ei.name (hok.2 ei (List.mem_of_getElem? hei)).1) rfl (.cons (.one (.r .r)) (.nil)) fun g9 => ?_
   refine RW.k XK 61 1 rfl ?_
   (conv=>whnf);refine ⟨rfl,?_⟩
   refine RW.nil ?_
   refine CW.keep 61 [1,2,4,5,6] rfl ?_;(conv=>whnf);refine ⟨?_⟩
   refine CW.seq ?_
   refine CW.region ?_
   refine RW.k XK 61 3 rfl ?_
   (conv=>whnf);refine ⟨rfl,?_⟩
   refine RW.v rfl (V.indexS rfl rfl rfl rfl rfl rfl File.len hei) ?_
   refine RW.k XK 61 2 rfl ?_
   (conv=>whnf);refine ⟨rfl,?_⟩
   refine RW.call rfl (spec_ReadSnap_fn ei.text (hok.2 ei (List.mem_of_getElem? hei)).2) rfl (.cons (.one (.r .r)) (.nil)) fun g10 => ?_
   refine RW.k XK 61 5 rfl ?_
   (conv=>whnf);intro b11;(conv=>whnf);refine ⟨rfl,?_⟩
   refine RW.keep 61 [1,2,4,5,6,7,36,37] rfl ?_;(conv=>whnf);refine ⟨?_⟩
   refine RW.pullA (k := 7) (l := 36) (j := 2) 7 36 2 rfl rfl rfl (by decide) rfl rfl rfl rfl ?_
   refine RW.keep 61 [1,2,4,5,6,7,37] rfl ?_;(conv=>whnf);refine ⟨?_⟩
   refine RW.k XK 61 1 rfl ?_
   (conv=>whnf);refine ⟨rfl,?_⟩
   refine RW.nil ?_
   refine CW.keep 61 [1,2,4,5,6,7,8] rfl ?_;(conv=>whnf);refine ⟨?_⟩
   refine CW.seqJ 61 (fun (v12 : Bool) => [(1, .rp (Disk.c d)), (2, .obj b2 [I 0, I 0, .r (.v (.slice none 0 0)), S (⟨#[]⟩)]), (4, .obj b3 [I b.index, I b.term_, .w (sl 1 cI b.conf) X, S b.body]), (5, I (i : Int)), (7, .obj b11 [I (((rdSnap ei.text).1).index), I (((rdSnap ei.text).1).term_), .w (sl 1 cI (((rdSnap ei.text).1).conf)) (g10 0 2), S (((rdSnap ei.text).1).body)]), (54, Bo v12)]) (fun v12 => v12 = (((decide ((snIx ei.name) ≥ 0) && ((rdSnap ei.text).2)) && (((rdSnap ei.text).1).index == (snIx ei.name))) && decide ((snIx ei.name) > b.index))) ?_ ?_
   ·refine CW.region ?_
    refine RW.k XK 61 3 rfl ?_
    (conv=>whnf);refine ⟨rfl,?_⟩
    refine RW.gv rfl rfl rfl rfl (fun h13 => V.mv (d := Bo ((rdSnap ei.text).2)) rfl rfl) (fun h13 => ?_) (fun h13 => ?_)
    ·skip
     refine RW.k XK 61 2 rfl ?_
     (conv=>whnf);refine ⟨rfl,?_⟩
     refine RW.gv rfl rfl rfl rfl (fun h14 => V.field rfl rfl rfl rfl (by decide) rfl) (fun h14 => ?_) (fun h14 => ?_)
     ·skip
      refine RW.k XK 61 5 rfl ?_
      (conv=>whnf);refine ⟨rfl,?_⟩
      refine RW.gv rfl rfl rfl rfl (fun h15 => V.mv (d := I (snIx ei.name)) rfl rfl) (fun h15 => ?_) (fun h15 => ?_)
      ·skip
       refine RW.k XK 61 4 rfl ?_
       (conv=>whnf);refine ⟨rfl,?_⟩
       refine RW.nil ?_
       exact ⟨_, by first | rfl | (simp_all; done) | (simp_all; omega) | grind, rfl, Le.of rfl⟩
      ·skip
       refine RW.k XK 61 4 rfl ?_
       (conv=>whnf);refine ⟨rfl,?_⟩
       refine RW.nil ?_
       exact ⟨_, by first | rfl | (simp_all; done) | (simp_all; omega) | grind, rfl, Le.of rfl⟩
     ·skip
      refine RW.k XK 61 10 rfl ?_
      (conv=>whnf);refine ⟨rfl,?_⟩
      refine RW.nil ?_
      exact ⟨_, by first | rfl | (simp_all; done) | (simp_all; omega) | grind, rfl, Le.of rfl⟩
    ·skip
     refine RW.k XK 61 13 rfl ?_
     (conv=>whnf);refine ⟨rfl,?_⟩
     refine RW.nil ?_
     exact ⟨_, by first | rfl | (simp_all; done) | (simp_all; omega) | grind, rfl, Le.of rfl⟩
   ·intro v12 hv16
    refine CW.cond rfl (fun h17 => ?_) (fun h17 => ?_)
    ·skip
     have hvv := hv16.symm.trans h17
     refine CW.region ?_
     refine RW.k XK 61 2 rfl ?_
     (conv=>whnf);refine ⟨rfl,?_⟩
     refine RW.keep 61 [1,2,4,5,7] rfl ?_;(conv=>whnf);refine ⟨?_⟩
     refine RW.pullO (k := 4) (l := 7) (j := 2) 4 7 2 rfl rfl rfl (by decide) rfl rfl rfl rfl ?_
     refine RW.keep 61 [1,2,4,5] rfl ?_;(conv=>whnf);refine ⟨?_⟩
     refine RW.nil ?_
     refine CW.keep 61 [1,2,4,5] rfl ?_;(conv=>whnf);refine ⟨?_⟩
     refine CW.region ?_
     refine RW.k XK 61 1 rfl ?_
     (conv=>whnf);refine ⟨rfl,?_⟩
     refine RW.v rfl (V.inc rfl rfl rfl hii hl1) ?_
     refine RW.k XK 61 1 rfl ?_
     (conv=>whnf);refine ⟨rfl,?_⟩
     refine RW.nil ?_
     exact ⟨(i + 1, ((rdSnap ei.text).1), _), by simp only []; omega, (by first | exact hP.y hei hdk hvv | exact hP.n hei hdk hvv), rfl, Le.c rfl <| Le.c rfl <| Le.c rfl <| Le.c rfl <| Le.e⟩
    ·skip
     have hvv := hv16.symm.trans h17
     refine CW.skip ?_
     refine CW.keep 61 [1,2,4,5] rfl ?_;(conv=>whnf);refine ⟨?_⟩
     refine CW.region ?_
     refine RW.k XK 61 1 rfl ?_
     (conv=>whnf);refine ⟨rfl,?_⟩
     refine RW.v rfl (V.inc rfl rfl rfl hii hl1) ?_
     refine RW.k XK 61 1 rfl ?_
     (conv=>whnf);refine ⟨rfl,?_⟩
     refine RW.nil ?_
     exact ⟨(i + 1, b, _), by simp only []; omega, (by first | exact hP.y hei hdk hvv | exact hP.n hei hdk hvv), rfl, Le.c rfl <| Le.c rfl <| Le.c rfl <| Le.c rfl <| Le.e⟩
  ·skip
   have hx9 := hv7.symm.trans h8
   refine CW.exit ?_
   refine CW.keep 61 [2,4] rfl ?_;(conv=>whnf);refine ⟨?_⟩
   refine CW.seq ?_
   refine CW.k XK 61 1 [2,4,58] rfl ?_
   (conv=>whnf);refine ⟨rfl,?_⟩
   refine CW.cond rfl (fun h18 => ?_) (fun h18 => ?_)
   ·skip
    have hng := h18
    refine CW.k XK 61 1 [2,3] rfl ?_
    (conv=>whnf);refine ⟨rfl,?_⟩
    refine CW.ret ?_
    exact Post.tup (by decide) (RVs.c (RV.c (f := fun e => (Snap.c e).map .w) (e' := (⟨0, 0, [], ⟨#[]⟩⟩ : Snap)) rfl rfl rfl rfl (DT.v (DT.v (DT.n (DT.v DT.e)))) (by rw [hP.no hx9 hng]; rfl)) (RVs.c (RV.b rfl (by rw [hP.no hx9 hng])) RVs.e)) (AOs.a rfl AOs.e)
   ·skip
    have hng := h18
    refine CW.skip ?_
    refine CW.keep 61 [2,4] rfl ?_;(conv=>whnf);refine ⟨?_⟩
    refine CW.seq ?_
    refine CW.region ?_
    refine RW.k XK 61 2 rfl ?_
    (conv=>whnf);refine ⟨rfl,?_⟩
    refine RW.keep 61 [2,4] rfl ?_;(conv=>whnf);refine ⟨?_⟩
    refine RW.pullO (k := 2) (l := 4) (j := 2) 2 4 2 rfl rfl rfl (by decide) rfl rfl rfl rfl ?_
    refine RW.keep 61 [2] rfl ?_;(conv=>whnf);refine ⟨?_⟩
    refine RW.k XK 61 1 rfl ?_
    (conv=>whnf);refine ⟨rfl,?_⟩
    refine RW.nil ?_
    refine CW.keep 61 [2,3] rfl ?_;(conv=>whnf);refine ⟨?_⟩
    refine CW.ret ?_
    exact Post.tup (by decide) (RVs.c (RV.c (f := fun e => (Snap.c e).map .w) (e' := b) rfl rfl rfl rfl (DT.v (DT.v (DT.w (DT.v DT.e)))) (by rw [hP.yes hx9 hng])) (RVs.c (RV.b rfl (by rw [hP.yes hx9 hng])) RVs.e)) (AOs.a rfl AOs.e)
set_option maxHeartbeats 4000000 in
theorem impl_SnapOf_fn (s : Server) (hok : okToDisk s.disk) : Eng.Fn E.P 8 [.agg ((Server.c s).map .r)] (.tup [.agg ((Snap.c ((newest s.disk).1)).map .w), .one (.w (.v (.bool ((newest s.disk).2))))]) [.agg ((Server.c s).map .r)] := by
 refine Eng.Fn.intro (E := E) (rvs := [.cell 2 42, .tmp 3]) Tryz.func8 rfl rfl rfl (by simp [outSlots, moved, rvSlot, sl]) ?_
 intro B g bo
 refine CW.keep 9 [0] rfl ?_;(conv=>whnf);refine ⟨?_⟩
 refine CW.seq ?_
 refine CW.region ?_
 refine RW.k XK 9 1 rfl ?_
 (conv=>whnf);intro b1;(conv=>whnf);refine ⟨rfl,?_⟩
 refine RW.freezeB (ts := (Server.c s)) 1 rfl (DRd.r (DRd.r (DRd.r (DRd.r (DRd.r (DRd.r (DRd.r (DRd.r (DRd.r (DRd.r (DRd.r (DRd.r (DRd.r (DRd.r (DRd.r (DRd.r (DRd.r (DRd.r (DRd.r (DRd.r (DRd.r (DRd.r (DRd.r (DRd.r (DRd.r (DRd.r (DRd.r DRd.e))))))))))))))))))))))))))) ?_
 refine RW.k XK 9 2 rfl ?_
 (conv=>whnf);intro b2;(conv=>whnf);refine ⟨rfl,?_⟩
 refine RW.nil ?_
 refine CW.keep 9 [1,2] rfl ?_;(conv=>whnf);refine ⟨?_⟩
 refine CW.seq ?_
 refine CW.region ?_
 refine RW.k XK 9 2 rfl ?_
 (conv=>whnf);refine ⟨rfl,?_⟩
 refine RW.call rfl (impl_NewestSnap_fn s.disk hok) rfl (.cons (.agg (.cons (.r .r) (.nil))) (.nil)) fun g3 => ?_
 refine RW.k XK 9 3 rfl ?_
 (conv=>whnf);refine ⟨rfl,?_⟩
 refine RW.keep 9 [2,7,8] rfl ?_;(conv=>whnf);refine ⟨?_⟩
 refine RW.pullA (k := 2) (l := 7) (j := 2) 2 7 2 rfl rfl rfl (by decide) rfl rfl rfl rfl ?_
 refine RW.keep 9 [2,8] rfl ?_;(conv=>whnf);refine ⟨?_⟩
 refine RW.k XK 9 1 rfl ?_
 (conv=>whnf);refine ⟨rfl,?_⟩
 refine RW.nil ?_
 refine CW.keep 9 [2,3] rfl ?_;(conv=>whnf);refine ⟨?_⟩
 refine CW.ret ?_
 exact Post.tup (by decide) (RVs.c (RV.c (f := fun e => (Snap.c e).map .w) (e' := ((newest s.disk).1)) rfl rfl rfl rfl (DT.v (DT.v (DT.w (DT.v DT.e)))) (by rfl)) (RVs.c (RV.b rfl (by rfl)) RVs.e)) (AOs.a rfl AOs.e)
set_option maxHeartbeats 4000000 in
theorem spec_SnapOf_fn (s : Server) (hok : okToDisk s.disk) : Eng.Fn E.P 6 [.agg ((Server.c s).map .r)] (.tup [.agg ((Snap.c ((newest s.disk).1)).map .w), .one (.w (.v (.bool ((newest s.disk).2))))]) [.agg ((Server.c s).map .r)] := by
 refine Eng.Fn.intro (E := E) (rvs := [.cell 2 42, .tmp 3]) Tryz.func6 rfl rfl rfl (by simp [outSlots, moved, rvSlot, sl]) ?_
 intro B g bo
 refine CW.keep 9 [0] rfl ?_;(conv=>whnf);refine ⟨?_⟩
 refine CW.seq ?_
 refine CW.region ?_
 refine RW.k XK 9 1 rfl ?_
 (conv=>whnf);intro b1;(conv=>whnf);refine ⟨rfl,?_⟩
 refine RW.freezeB (ts := (Server.c s)) 1 rfl (DRd.r (DRd.r (DRd.r (DRd.r (DRd.r (DRd.r (DRd.r (DRd.r (DRd.r (DRd.r (DRd.r (DRd.r (DRd.r (DRd.r (DRd.r (DRd.r (DRd.r (DRd.r (DRd.r (DRd.r (DRd.r (DRd.r (DRd.r (DRd.r (DRd.r (DRd.r (DRd.r DRd.e))))))))))))))))))))))))))) ?_
 refine RW.k XK 9 2 rfl ?_
 (conv=>whnf);intro b2;(conv=>whnf);refine ⟨rfl,?_⟩
 refine RW.nil ?_
 refine CW.keep 9 [1,2] rfl ?_;(conv=>whnf);refine ⟨?_⟩
 refine CW.seq ?_
 refine CW.region ?_
 refine RW.k XK 9 2 rfl ?_
 (conv=>whnf);refine ⟨rfl,?_⟩
 refine RW.call rfl (spec_NewestSnap_fn s.disk hok) rfl (.cons (.agg (.cons (.r .r) (.nil))) (.nil)) fun g3 => ?_
 refine RW.k XK 9 3 rfl ?_
 (conv=>whnf);refine ⟨rfl,?_⟩
 refine RW.keep 9 [2,7,8] rfl ?_;(conv=>whnf);refine ⟨?_⟩
 refine RW.pullA (k := 2) (l := 7) (j := 2) 2 7 2 rfl rfl rfl (by decide) rfl rfl rfl rfl ?_
 refine RW.keep 9 [2,8] rfl ?_;(conv=>whnf);refine ⟨?_⟩
 refine RW.k XK 9 1 rfl ?_
 (conv=>whnf);refine ⟨rfl,?_⟩
 refine RW.nil ?_
 refine CW.keep 9 [2,3] rfl ?_;(conv=>whnf);refine ⟨?_⟩
 refine CW.ret ?_
 exact Post.tup (by decide) (RVs.c (RV.c (f := fun e => (Snap.c e).map .w) (e' := ((newest s.disk).1)) rfl rfl rfl rfl (DT.v (DT.v (DT.w (DT.v DT.e)))) (by rfl)) (RVs.c (RV.b rfl (by rfl)) RVs.e)) (AOs.a rfl AOs.e)
set_option maxHeartbeats 4000000 in
theorem laws_szIntS_fn (a : List Int) (left : Int) : Eng.Fn E.P 72 [.one (.r (sl 1 cI a)), .one (.r (.v (.int .i64 left)))] (.one (.one (.w (.v (.int .i64 (szI a left)))))) [.one (.r (sl 1 cI a)), .one (.r (.v (.int .i64 left)))] := by
 refine Eng.Fn.intro (E := E) (rvs := [.tmp 4]) Tryz.func72 rfl rfl rfl (by simp [outSlots, moved, rvSlot, sl]) ?_
 intro B g bo
 refine CW.bound (x := .tmp 0) (n := a.length) (AsT.r) (fun hl0 => ?_)
 refine CW.keep 12 [0,1] rfl ?_;(conv=>whnf);refine ⟨?_⟩
 refine CW.k XK 12 2 [1] rfl ?_
 (conv=>whnf);refine ⟨rfl,?_⟩
 refine CW.seq ?_
 refine CW.k XK 12 1 [1,10] rfl ?_
 (conv=>whnf);refine ⟨rfl,?_⟩
 refine CW.cond rfl (fun h1 => ?_) (fun h1 => ?_)
 ·skip
  refine CW.k XK 12 1 [4] rfl ?_
  (conv=>whnf);refine ⟨rfl,?_⟩
  refine CW.ret ?_
  exact Post.one (RV.i rfl (by first | (simp_all [szI]; done) | (simp_all [szI]; omega))) (AOs.r (AOs.r AOs.e))
 ·skip
  refine CW.skip ?_
  refine CW.keep 12 [1] rfl ?_;(conv=>whnf);refine ⟨?_⟩
  refine CW.k XK 12 1 [4] rfl ?_
  (conv=>whnf);refine ⟨rfl,?_⟩
  refine CW.ret ?_
  exact Post.one (RV.i rfl (by first | (simp_all [szI]; done) | (simp_all [szI]; omega))) (AOs.r (AOs.r AOs.e))
set_option maxHeartbeats 4000000 in
theorem laws_szEntry_fn (a : Entry) (left : Int) : Eng.Fn E.P 196 [.agg ((Entry.c a).map .r), .one (.r (.v (.int .i64 left)))] (.one (.one (.w (.v (.int .i64 (szEntry a left)))))) [.agg ((Entry.c a).map .r), .one (.r (.v (.int .i64 left)))] := by
 refine Eng.Fn.intro (E := E) (rvs := [.tmp 4]) Tryz.func196 rfl rfl rfl (by simp [outSlots, moved, rvSlot, sl]) ?_
 intro B g bo
 refine CW.keep 13 [0,1] rfl ?_;(conv=>whnf);refine ⟨?_⟩
 refine CW.seq ?_
 refine CW.region ?_
 refine RW.k XK 13 1 rfl ?_
 (conv=>whnf);intro b1;(conv=>whnf);refine ⟨rfl,?_⟩
 refine RW.freezeB (ts := (Entry.c a)) 2 rfl (DRd.r (DRd.r (DRd.r DRd.e))) ?_
 refine RW.k XK 13 1 rfl ?_
 (conv=>whnf);refine ⟨rfl,?_⟩
 refine RW.nil ?_
 refine CW.keep 13 [1,2] rfl ?_;(conv=>whnf);refine ⟨?_⟩
 refine CW.k XK 13 1 [1] rfl ?_
 (conv=>whnf);refine ⟨rfl,?_⟩
 refine CW.seq ?_
 refine CW.k XK 13 1 [1,11] rfl ?_
 (conv=>whnf);refine ⟨rfl,?_⟩
 refine CW.cond rfl (fun h2 => ?_) (fun h2 => ?_)
 ·skip
  refine CW.k XK 13 1 [4] rfl ?_
  (conv=>whnf);refine ⟨rfl,?_⟩
  refine CW.ret ?_
  exact Post.one (RV.i rfl (by first | (simp_all [szEntry]; done) | (simp_all [szEntry]; omega) | grind [szEntry])) (AOs.a rfl (AOs.r AOs.e))
 ·skip
  refine CW.skip ?_
  refine CW.keep 13 [1] rfl ?_;(conv=>whnf);refine ⟨?_⟩
  refine CW.k XK 13 1 [4] rfl ?_
  (conv=>whnf);refine ⟨rfl,?_⟩
  refine CW.ret ?_
  exact Post.one (RV.i rfl (by first | (simp_all [szEntry]; done) | (simp_all [szEntry]; omega) | grind [szEntry])) (AOs.a rfl (AOs.r AOs.e))
set_option maxHeartbeats 4000000 in
theorem laws_szEntryS_fn (a : List Entry) (left : Int) : Eng.Fn E.P 140 [.one (.r (sl 3 Entry.c a)), .one (.r (.v (.int .i64 left)))] (.one (.one (.w (.v (.int .i64 (szS szEntry a left)))))) [.one (.r (sl 3 Entry.c a)), .one (.r (.v (.int .i64 left)))] := by
 refine Eng.Fn.intro (E := E) (rvs := [.tmp 4]) Tryz.func140 rfl rfl rfl (by simp [outSlots, moved, rvSlot, sl]) ?_
 intro B g bo
 refine CW.bound (x := .tmp 0) (n := a.length) (AsT.r) (fun hl0 => ?_)
 refine CW.keep 27 [0,1] rfl ?_;(conv=>whnf);refine ⟨?_⟩
 refine CW.k XK 27 2 [0,1] rfl ?_
 (conv=>whnf);refine ⟨rfl,?_⟩
 refine CW.seq ?_
 refine CW.k XK 27 1 [0,1,11] rfl ?_
 (conv=>whnf);refine ⟨rfl,?_⟩
 refine CW.cond rfl (fun h1 => ?_) (fun h1 => ?_)
 ·skip
  refine CW.k XK 27 1 [4] rfl ?_
  (conv=>whnf);refine ⟨rfl,?_⟩
  refine CW.ret ?_
  exact Post.one (RV.i rfl (by first | (simp_all [szS, szL, szStr, szI]; done) | grind [szS, szL, szStr, szI])) (AOs.r (AOs.r AOs.e))
 ·skip
  refine CW.skip ?_
  refine CW.keep 27 [0,1] rfl ?_;(conv=>whnf);refine ⟨?_⟩
  refine CW.seq ?_
  refine CW.k XK 27 1 [0,1,5] rfl ?_
  (conv=>whnf);refine ⟨rfl,?_⟩
  refine CW.block ?_
  refine CW.loopI 27 (fun (zz : Nat × Int) => match zz with | (i, l) => [(0, .r (sl 3 Entry.c a)), (1, I l), (5, I (i : Int))]) (fun (zz : Nat × Int) => match zz with | (i, l) => i ≤ a.length ∧ szL szEntry (a.drop i) l = szS szEntry a left) (fun (zz : Nat × Int) => match zz with | (i, l) => a.length - i) (0, _) rfl (Le.c rfl <| Le.c rfl <| Le.c rfl <| Le.e) ⟨by omega, by first | (simp_all [szS]; done) | grind [szS]⟩ ?_
  rintro ⟨i, l⟩ ⟨hb, hr⟩
  refine CW.seq ?_
  refine CW.k XK 27 1 [0,1,5,15] rfl ?_
  (conv=>whnf);refine ⟨rfl,?_⟩
  refine CW.cond rfl (fun h2 => ?_) (fun h2 => ?_)
  ·skip
   have hii : i < a.length := by have := h2; simp at this; first | exact this | omega | (simp; done) | (simp; omega)
   obtain ⟨ei, hei⟩ : ∃ e, a[i]? = some e := ⟨_, List.getElem?_eq_getElem hii⟩
   have hdi := drop_get hei
   refine CW.skip ?_
   refine CW.keep 27 [0,1,5] rfl ?_;(conv=>whnf);refine ⟨?_⟩
   refine CW.seq ?_
   refine CW.block ?_
   refine CW.seq ?_
   refine CW.region ?_
   refine RW.k XK 27 2 rfl ?_
   (conv=>whnf);refine ⟨rfl,?_⟩
   refine RW.v rfl (V.indexS rfl rfl rfl rfl rfl rfl Entry.len hei) ?_
   refine RW.k XK 27 2 rfl ?_
   (conv=>whnf);refine ⟨rfl,?_⟩
   refine RW.call rfl (laws_szEntry_fn ei l) rfl (.cons (.agg (.cons (.r .r) (.cons (.r .r) (.cons (.r .r) (.nil))))) (.cons (.one (.r .r)) (.nil))) fun g3 => ?_
   refine RW.k XK 27 1 rfl ?_
   (conv=>whnf);refine ⟨rfl,?_⟩
   refine RW.nil ?_
   refine CW.keep 27 [0,1,5] rfl ?_;(conv=>whnf);refine ⟨?_⟩
   refine CW.k XK 27 1 [0,1,5,25] rfl ?_
   (conv=>whnf);refine ⟨rfl,?_⟩
   refine CW.cond rfl (fun h4 => ?_) (fun h4 => ?_)
   ·skip
    refine CW.k XK 27 1 [4] rfl ?_
    (conv=>whnf);refine ⟨rfl,?_⟩
    refine CW.ret ?_
    exact Post.one (RV.i rfl (by first | (simp_all [szS, szL, szStr, szI]; done) | grind [szS, szL, szStr, szI])) (AOs.r (AOs.r AOs.e))
   ·skip
    refine CW.skip ?_
    refine CW.keep 27 [0,1,5] rfl ?_;(conv=>whnf);refine ⟨?_⟩
    refine CW.region ?_
    refine RW.k XK 27 1 rfl ?_
    (conv=>whnf);refine ⟨rfl,?_⟩
    refine RW.v rfl (V.inc rfl rfl rfl hii hl0) ?_
    refine RW.k XK 27 1 rfl ?_
    (conv=>whnf);refine ⟨rfl,?_⟩
    refine RW.nil ?_
    exact ⟨(i + 1, _), by simp only []; omega, ⟨by omega, by first | (simp_all [szL, szStr, szI]; done) | grind [szL, szStr, szI]⟩, rfl, Le.c rfl <| Le.c rfl <| Le.c rfl <| Le.e⟩
  ·skip
   have hii : a.length ≤ i := by have := h2; simp at this; first | exact this | omega | (simp; done) | (simp; omega)
   have hdi : a.drop i = [] := List.drop_eq_nil_of_le hii
   refine CW.exit ?_
   refine CW.keep 27 [1] rfl ?_;(conv=>whnf);refine ⟨?_⟩
   refine CW.k XK 27 1 [4] rfl ?_
   (conv=>whnf);refine ⟨rfl,?_⟩
   refine CW.ret ?_
   exact Post.one (RV.i rfl (by first | (simp_all [szS, szL, szStr, szI]; done) | grind [szS, szL, szStr, szI])) (AOs.r (AOs.r AOs.e))
set_option maxHeartbeats 4000000 in
theorem laws_szLog_fn (a : Log) (left : Int) : Eng.Fn E.P 73 [.agg ((Log.c a).map .r), .one (.r (.v (.int .i64 left)))] (.one (.one (.w (.v (.int .i64 (szLog a left)))))) [.agg ((Log.c a).map .r), .one (.r (.v (.int .i64 left)))] := by
 refine Eng.Fn.intro (E := E) (rvs := [.tmp 4]) Tryz.func73 rfl rfl rfl (by simp [outSlots, moved, rvSlot, sl]) ?_
 intro B g bo
 refine CW.keep 12 [0,1] rfl ?_;(conv=>whnf);refine ⟨?_⟩
 refine CW.seq ?_
 refine CW.region ?_
 refine RW.k XK 12 1 rfl ?_
 (conv=>whnf);intro b1;(conv=>whnf);refine ⟨rfl,?_⟩
 refine RW.freezeB (ts := (Log.c a)) 2 rfl (DRd.r (DRd.r (DRd.r DRd.e))) ?_
 refine RW.k XK 12 1 rfl ?_
 (conv=>whnf);refine ⟨rfl,?_⟩
 refine RW.nil ?_
 refine CW.keep 12 [1,2] rfl ?_;(conv=>whnf);refine ⟨?_⟩
 refine CW.seq ?_
 refine CW.region ?_
 refine RW.k XK 12 3 rfl ?_
 (conv=>whnf);refine ⟨rfl,?_⟩
 refine RW.call rfl (laws_szEntryS_fn a.entries left) rfl (.cons (.one (.r .r)) (.cons (.one (.r .r)) (.nil))) fun g2 => ?_
 refine RW.k XK 12 1 rfl ?_
 (conv=>whnf);refine ⟨rfl,?_⟩
 refine RW.nil ?_
 refine CW.keep 12 [1] rfl ?_;(conv=>whnf);refine ⟨?_⟩
 refine CW.seq ?_
 refine CW.k XK 12 1 [1,10] rfl ?_
 (conv=>whnf);refine ⟨rfl,?_⟩
 refine CW.cond rfl (fun h3 => ?_) (fun h3 => ?_)
 ·skip
  refine CW.k XK 12 1 [4] rfl ?_
  (conv=>whnf);refine ⟨rfl,?_⟩
  refine CW.ret ?_
  exact Post.one (RV.i rfl (by first | (simp_all [szLog]; done) | (simp_all [szLog]; omega) | grind [szLog])) (AOs.a rfl (AOs.r AOs.e))
 ·skip
  refine CW.skip ?_
  refine CW.keep 12 [1] rfl ?_;(conv=>whnf);refine ⟨?_⟩
  refine CW.k XK 12 1 [4] rfl ?_
  (conv=>whnf);refine ⟨rfl,?_⟩
  refine CW.ret ?_
  exact Post.one (RV.i rfl (by first | (simp_all [szLog]; done) | (simp_all [szLog]; omega) | grind [szLog])) (AOs.a rfl (AOs.r AOs.e))
set_option maxHeartbeats 4000000 in
theorem laws_szPeerS_fn (a : List Peer) (left : Int) : Eng.Fn E.P 74 [.one (.r (sl 4 Peer.c a)), .one (.r (.v (.int .i64 left)))] (.one (.one (.w (.v (.int .i64 (szI a left)))))) [.one (.r (sl 4 Peer.c a)), .one (.r (.v (.int .i64 left)))] := by
 refine Eng.Fn.intro (E := E) (rvs := [.tmp 4]) Tryz.func74 rfl rfl rfl (by simp [outSlots, moved, rvSlot, sl]) ?_
 intro B g bo
 refine CW.bound (x := .tmp 0) (n := a.length) (AsT.r) (fun hl0 => ?_)
 refine CW.keep 12 [0,1] rfl ?_;(conv=>whnf);refine ⟨?_⟩
 refine CW.k XK 12 2 [1] rfl ?_
 (conv=>whnf);refine ⟨rfl,?_⟩
 refine CW.seq ?_
 refine CW.k XK 12 1 [1,10] rfl ?_
 (conv=>whnf);refine ⟨rfl,?_⟩
 refine CW.cond rfl (fun h1 => ?_) (fun h1 => ?_)
 ·skip
  refine CW.k XK 12 1 [4] rfl ?_
  (conv=>whnf);refine ⟨rfl,?_⟩
  refine CW.ret ?_
  exact Post.one (RV.i rfl (by first | (simp_all [szI]; done) | (simp_all [szI]; omega))) (AOs.r (AOs.r AOs.e))
 ·skip
  refine CW.skip ?_
  refine CW.keep 12 [1] rfl ?_;(conv=>whnf);refine ⟨?_⟩
  refine CW.k XK 12 1 [4] rfl ?_
  (conv=>whnf);refine ⟨rfl,?_⟩
  refine CW.ret ?_
  exact Post.one (RV.i rfl (by first | (simp_all [szI]; done) | (simp_all [szI]; omega))) (AOs.r (AOs.r AOs.e))
set_option maxHeartbeats 4000000 in
theorem laws_szNode_fn (a : Node) (left : Int) : Eng.Fn E.P 22 [.agg ((Node.c a).map .r), .one (.r (.v (.int .i64 left)))] (.one (.one (.w (.v (.int .i64 (szNode a left)))))) [.agg ((Node.c a).map .r), .one (.r (.v (.int .i64 left)))] := by
 refine Eng.Fn.intro (E := E) (rvs := [.tmp 4]) Tryz.func22 rfl rfl rfl (by simp [outSlots, moved, rvSlot, sl]) ?_
 intro B g bo
 refine CW.keep 30 [0,1] rfl ?_;(conv=>whnf);refine ⟨?_⟩
 refine CW.seq ?_
 refine CW.region ?_
 refine RW.k XK 30 1 rfl ?_
 (conv=>whnf);intro b1;(conv=>whnf);refine ⟨rfl,?_⟩
 refine RW.freezeB (ts := (Node.c a)) 2 rfl (DRd.r (DRd.r (DRd.r (DRd.r (DRd.r (DRd.r (DRd.r (DRd.r (DRd.r (DRd.r (DRd.r (DRd.r (DRd.r (DRd.r DRd.e)))))))))))))) ?_
 refine RW.k XK 30 1 rfl ?_
 (conv=>whnf);refine ⟨rfl,?_⟩
 refine RW.nil ?_
 refine CW.keep 30 [1,2] rfl ?_;(conv=>whnf);refine ⟨?_⟩
 refine CW.seq ?_
 refine CW.region ?_
 refine RW.k XK 30 3 rfl ?_
 (conv=>whnf);refine ⟨rfl,?_⟩
 refine RW.call rfl (laws_szIntS_fn a.conf left) rfl (.cons (.one (.r .r)) (.cons (.one (.r .r)) (.nil))) fun g2 => ?_
 refine RW.k XK 30 1 rfl ?_
 (conv=>whnf);refine ⟨rfl,?_⟩
 refine RW.nil ?_
 refine CW.keep 30 [1,2] rfl ?_;(conv=>whnf);refine ⟨?_⟩
 refine CW.seq ?_
 refine CW.k XK 30 1 [1,2,10] rfl ?_
 (conv=>whnf);refine ⟨rfl,?_⟩
 refine CW.cond rfl (fun h3 => ?_) (fun h3 => ?_)
 ·skip
  refine CW.k XK 30 1 [4] rfl ?_
  (conv=>whnf);refine ⟨rfl,?_⟩
  refine CW.ret ?_
  exact Post.one (RV.i rfl (by first | (simp_all [szNode]; done) | (simp_all [szNode]; omega) | grind [szNode])) (AOs.a rfl (AOs.r AOs.e))
 ·skip
  refine CW.skip ?_
  refine CW.keep 30 [1,2] rfl ?_;(conv=>whnf);refine ⟨?_⟩
  refine CW.seq ?_
  refine CW.region ?_
  refine RW.k XK 30 3 rfl ?_
  (conv=>whnf);refine ⟨rfl,?_⟩
  refine RW.call rfl (laws_szLog_fn a.log (szI a.conf left)) rfl (.cons (.agg (.cons (.r .r) (.cons (.r .r) (.cons (.r .r) (.nil))))) (.cons (.one (.r .r)) (.nil))) fun g4 => ?_
  refine RW.k XK 30 1 rfl ?_
  (conv=>whnf);refine ⟨rfl,?_⟩
  refine RW.nil ?_
  refine CW.keep 30 [1,2] rfl ?_;(conv=>whnf);refine ⟨?_⟩
  refine CW.seq ?_
  refine CW.k XK 30 1 [1,2,16] rfl ?_
  (conv=>whnf);refine ⟨rfl,?_⟩
  refine CW.cond rfl (fun h5 => ?_) (fun h5 => ?_)
  ·skip
   refine CW.k XK 30 1 [4] rfl ?_
   (conv=>whnf);refine ⟨rfl,?_⟩
   refine CW.ret ?_
   exact Post.one (RV.i rfl (by first | (simp_all [szNode]; done) | (simp_all [szNode]; omega) | grind [szNode])) (AOs.a rfl (AOs.r AOs.e))
  ·skip
   refine CW.skip ?_
   refine CW.keep 30 [1,2] rfl ?_;(conv=>whnf);refine ⟨?_⟩
   refine CW.seq ?_
   refine CW.region ?_
   refine RW.k XK 30 3 rfl ?_
   (conv=>whnf);refine ⟨rfl,?_⟩
   refine RW.call rfl (laws_szIntS_fn a.votes (szLog a.log (szI a.conf left))) rfl (.cons (.one (.r .r)) (.cons (.one (.r .r)) (.nil))) fun g6 => ?_
   refine RW.k XK 30 1 rfl ?_
   (conv=>whnf);refine ⟨rfl,?_⟩
   refine RW.nil ?_
   refine CW.keep 30 [1,2] rfl ?_;(conv=>whnf);refine ⟨?_⟩
   refine CW.seq ?_
   refine CW.k XK 30 1 [1,2,22] rfl ?_
   (conv=>whnf);refine ⟨rfl,?_⟩
   refine CW.cond rfl (fun h7 => ?_) (fun h7 => ?_)
   ·skip
    refine CW.k XK 30 1 [4] rfl ?_
    (conv=>whnf);refine ⟨rfl,?_⟩
    refine CW.ret ?_
    exact Post.one (RV.i rfl (by first | (simp_all [szNode]; done) | (simp_all [szNode]; omega) | grind [szNode])) (AOs.a rfl (AOs.r AOs.e))
   ·skip
    refine CW.skip ?_
    refine CW.keep 30 [1,2] rfl ?_;(conv=>whnf);refine ⟨?_⟩
    refine CW.seq ?_
    refine CW.region ?_
    refine RW.k XK 30 3 rfl ?_
    (conv=>whnf);refine ⟨rfl,?_⟩
    refine RW.call rfl (laws_szPeerS_fn a.peers (szI a.votes (szLog a.log (szI a.conf left)))) rfl (.cons (.one (.r .r)) (.cons (.one (.r .r)) (.nil))) fun g8 => ?_
    refine RW.k XK 30 1 rfl ?_
    (conv=>whnf);refine ⟨rfl,?_⟩
    refine RW.nil ?_
    refine CW.keep 30 [1] rfl ?_;(conv=>whnf);refine ⟨?_⟩
    refine CW.seq ?_
    refine CW.k XK 30 1 [1,28] rfl ?_
    (conv=>whnf);refine ⟨rfl,?_⟩
    refine CW.cond rfl (fun h9 => ?_) (fun h9 => ?_)
    ·skip
     refine CW.k XK 30 1 [4] rfl ?_
     (conv=>whnf);refine ⟨rfl,?_⟩
     refine CW.ret ?_
     exact Post.one (RV.i rfl (by first | (simp_all [szNode]; done) | (simp_all [szNode]; omega) | grind [szNode])) (AOs.a rfl (AOs.r AOs.e))
    ·skip
     refine CW.skip ?_
     refine CW.keep 30 [1] rfl ?_;(conv=>whnf);refine ⟨?_⟩
     refine CW.k XK 30 1 [4] rfl ?_
     (conv=>whnf);refine ⟨rfl,?_⟩
     refine CW.ret ?_
     exact Post.one (RV.i rfl (by first | (simp_all [szNode]; done) | (simp_all [szNode]; omega) | grind [szNode])) (AOs.a rfl (AOs.r AOs.e))
set_option maxHeartbeats 4000000 in
theorem laws_szFile_fn (a : File) (left : Int) : Eng.Fn E.P 141 [.agg ((File.c a).map .r), .one (.r (.v (.int .i64 left)))] (.one (.one (.w (.v (.int .i64 (szFile a left)))))) [.agg ((File.c a).map .r), .one (.r (.v (.int .i64 left)))] := by
 refine Eng.Fn.intro (E := E) (rvs := [.tmp 4]) Tryz.func141 rfl rfl rfl (by simp [outSlots, moved, rvSlot, sl]) ?_
 intro B g bo
 refine CW.keep 20 [0,1] rfl ?_;(conv=>whnf);refine ⟨?_⟩
 refine CW.seq ?_
 refine CW.region ?_
 refine RW.k XK 20 1 rfl ?_
 (conv=>whnf);intro b1;(conv=>whnf);refine ⟨rfl,?_⟩
 refine RW.freezeB (ts := (File.c a)) 2 rfl (DRd.r (DRd.r (DRd.r DRd.e))) ?_
 refine RW.k XK 20 1 rfl ?_
 (conv=>whnf);refine ⟨rfl,?_⟩
 refine RW.nil ?_
 refine CW.keep 20 [1,2] rfl ?_;(conv=>whnf);refine ⟨?_⟩
 refine CW.k XK 20 1 [1,2] rfl ?_
 (conv=>whnf);refine ⟨rfl,?_⟩
 refine CW.seq ?_
 refine CW.k XK 20 1 [1,2,11] rfl ?_
 (conv=>whnf);refine ⟨rfl,?_⟩
 refine CW.cond rfl (fun h2 => ?_) (fun h2 => ?_)
 ·skip
  refine CW.k XK 20 1 [4] rfl ?_
  (conv=>whnf);refine ⟨rfl,?_⟩
  refine CW.ret ?_
  exact Post.one (RV.i rfl (by first | (simp_all [szFile]; done) | (simp_all [szFile]; omega) | grind [szFile])) (AOs.a rfl (AOs.r AOs.e))
 ·skip
  refine CW.skip ?_
  refine CW.keep 20 [1,2] rfl ?_;(conv=>whnf);refine ⟨?_⟩
  refine CW.k XK 20 1 [1] rfl ?_
  (conv=>whnf);refine ⟨rfl,?_⟩
  refine CW.seq ?_
  refine CW.k XK 20 1 [1,18] rfl ?_
  (conv=>whnf);refine ⟨rfl,?_⟩
  refine CW.cond rfl (fun h3 => ?_) (fun h3 => ?_)
  ·skip
   refine CW.k XK 20 1 [4] rfl ?_
   (conv=>whnf);refine ⟨rfl,?_⟩
   refine CW.ret ?_
   exact Post.one (RV.i rfl (by first | (simp_all [szFile]; done) | (simp_all [szFile]; omega) | grind [szFile])) (AOs.a rfl (AOs.r AOs.e))
  ·skip
   refine CW.skip ?_
   refine CW.keep 20 [1] rfl ?_;(conv=>whnf);refine ⟨?_⟩
   refine CW.k XK 20 1 [4] rfl ?_
   (conv=>whnf);refine ⟨rfl,?_⟩
   refine CW.ret ?_
   exact Post.one (RV.i rfl (by first | (simp_all [szFile]; done) | (simp_all [szFile]; omega) | grind [szFile])) (AOs.a rfl (AOs.r AOs.e))
set_option maxHeartbeats 4000000 in
theorem laws_szFileS_fn (a : List File) (left : Int) : Eng.Fn E.P 75 [.one (.r (sl 3 File.c a)), .one (.r (.v (.int .i64 left)))] (.one (.one (.w (.v (.int .i64 (szS szFile a left)))))) [.one (.r (sl 3 File.c a)), .one (.r (.v (.int .i64 left)))] := by
 refine Eng.Fn.intro (E := E) (rvs := [.tmp 4]) Tryz.func75 rfl rfl rfl (by simp [outSlots, moved, rvSlot, sl]) ?_
 intro B g bo
 refine CW.bound (x := .tmp 0) (n := a.length) (AsT.r) (fun hl0 => ?_)
 refine CW.keep 27 [0,1] rfl ?_;(conv=>whnf);refine ⟨?_⟩
 refine CW.k XK 27 2 [0,1] rfl ?_
 (conv=>whnf);refine ⟨rfl,?_⟩
 refine CW.seq ?_
 refine CW.k XK 27 1 [0,1,11] rfl ?_
 (conv=>whnf);refine ⟨rfl,?_⟩
 refine CW.cond rfl (fun h1 => ?_) (fun h1 => ?_)
 ·skip
  refine CW.k XK 27 1 [4] rfl ?_
  (conv=>whnf);refine ⟨rfl,?_⟩
  refine CW.ret ?_
  exact Post.one (RV.i rfl (by first | (simp_all [szS, szL, szStr, szI]; done) | grind [szS, szL, szStr, szI])) (AOs.r (AOs.r AOs.e))
 ·skip
  refine CW.skip ?_
  refine CW.keep 27 [0,1] rfl ?_;(conv=>whnf);refine ⟨?_⟩
  refine CW.seq ?_
  refine CW.k XK 27 1 [0,1,5] rfl ?_
  (conv=>whnf);refine ⟨rfl,?_⟩
  refine CW.block ?_
  refine CW.loopI 27 (fun (zz : Nat × Int) => match zz with | (i, l) => [(0, .r (sl 3 File.c a)), (1, I l), (5, I (i : Int))]) (fun (zz : Nat × Int) => match zz with | (i, l) => i ≤ a.length ∧ szL szFile (a.drop i) l = szS szFile a left) (fun (zz : Nat × Int) => match zz with | (i, l) => a.length - i) (0, _) rfl (Le.c rfl <| Le.c rfl <| Le.c rfl <| Le.e) ⟨by omega, by first | (simp_all [szS]; done) | grind [szS]⟩ ?_
  rintro ⟨i, l⟩ ⟨hb, hr⟩
  refine CW.seq ?_
  refine CW.k XK 27 1 [0,1,5,15] rfl ?_
  (conv=>whnf);refine ⟨rfl,?_⟩
  refine CW.cond rfl (fun h2 => ?_) (fun h2 => ?_)
  ·skip
   have hii : i < a.length := by have := h2; simp at this; first | exact this | omega | (simp; done) | (simp; omega)
   obtain ⟨ei, hei⟩ : ∃ e, a[i]? = some e := ⟨_, List.getElem?_eq_getElem hii⟩
   have hdi := drop_get hei
   refine CW.skip ?_
   refine CW.keep 27 [0,1,5] rfl ?_;(conv=>whnf);refine ⟨?_⟩
   refine CW.seq ?_
   refine CW.block ?_
   refine CW.seq ?_
   refine CW.region ?_
   refine RW.k XK 27 2 rfl ?_
   (conv=>whnf);refine ⟨rfl,?_⟩
   refine RW.v rfl (V.indexS rfl rfl rfl rfl rfl rfl File.len hei) ?_
   refine RW.k XK 27 2 rfl ?_
   (conv=>whnf);refine ⟨rfl,?_⟩
   refine RW.call rfl (laws_szFile_fn ei l) rfl (.cons (.agg (.cons (.r .r) (.cons (.r .r) (.cons (.r .r) (.nil))))) (.cons (.one (.r .r)) (.nil))) fun g3 => ?_
   refine RW.k XK 27 1 rfl ?_
   (conv=>whnf);refine ⟨rfl,?_⟩
   refine RW.nil ?_
   refine CW.keep 27 [0,1,5] rfl ?_;(conv=>whnf);refine ⟨?_⟩
   refine CW.k XK 27 1 [0,1,5,25] rfl ?_
   (conv=>whnf);refine ⟨rfl,?_⟩
   refine CW.cond rfl (fun h4 => ?_) (fun h4 => ?_)
   ·skip
    refine CW.k XK 27 1 [4] rfl ?_
    (conv=>whnf);refine ⟨rfl,?_⟩
    refine CW.ret ?_
    exact Post.one (RV.i rfl (by first | (simp_all [szS, szL, szStr, szI]; done) | grind [szS, szL, szStr, szI])) (AOs.r (AOs.r AOs.e))
   ·skip
    refine CW.skip ?_
    refine CW.keep 27 [0,1,5] rfl ?_;(conv=>whnf);refine ⟨?_⟩
    refine CW.region ?_
    refine RW.k XK 27 1 rfl ?_
    (conv=>whnf);refine ⟨rfl,?_⟩
    refine RW.v rfl (V.inc rfl rfl rfl hii hl0) ?_
    refine RW.k XK 27 1 rfl ?_
    (conv=>whnf);refine ⟨rfl,?_⟩
    refine RW.nil ?_
    exact ⟨(i + 1, _), by simp only []; omega, ⟨by omega, by first | (simp_all [szL, szStr, szI]; done) | grind [szL, szStr, szI]⟩, rfl, Le.c rfl <| Le.c rfl <| Le.c rfl <| Le.e⟩
  ·skip
   have hii : a.length ≤ i := by have := h2; simp at this; first | exact this | omega | (simp; done) | (simp; omega)
   have hdi : a.drop i = [] := List.drop_eq_nil_of_le hii
   refine CW.exit ?_
   refine CW.keep 27 [1] rfl ?_;(conv=>whnf);refine ⟨?_⟩
   refine CW.k XK 27 1 [4] rfl ?_
   (conv=>whnf);refine ⟨rfl,?_⟩
   refine CW.ret ?_
   exact Post.one (RV.i rfl (by first | (simp_all [szS, szL, szStr, szI]; done) | grind [szS, szL, szStr, szI])) (AOs.r (AOs.r AOs.e))
set_option maxHeartbeats 4000000 in
theorem laws_szDisk_fn (a : Disk) (left : Int) : Eng.Fn E.P 23 [.agg ((Disk.c a).map .r), .one (.r (.v (.int .i64 left)))] (.one (.one (.w (.v (.int .i64 (szDisk a left)))))) [.agg ((Disk.c a).map .r), .one (.r (.v (.int .i64 left)))] := by
 refine Eng.Fn.intro (E := E) (rvs := [.tmp 4]) Tryz.func23 rfl rfl rfl (by simp [outSlots, moved, rvSlot, sl]) ?_
 intro B g bo
 refine CW.keep 12 [0,1] rfl ?_;(conv=>whnf);refine ⟨?_⟩
 refine CW.seq ?_
 refine CW.region ?_
 refine RW.k XK 12 1 rfl ?_
 (conv=>whnf);intro b1;(conv=>whnf);refine ⟨rfl,?_⟩
 refine RW.freezeB (ts := (Disk.c a)) 2 rfl (DRd.r DRd.e) ?_
 refine RW.k XK 12 1 rfl ?_
 (conv=>whnf);refine ⟨rfl,?_⟩
 refine RW.nil ?_
 refine CW.keep 12 [1,2] rfl ?_;(conv=>whnf);refine ⟨?_⟩
 refine CW.seq ?_
 refine CW.region ?_
 refine RW.k XK 12 3 rfl ?_
 (conv=>whnf);refine ⟨rfl,?_⟩
 refine RW.call rfl (laws_szFileS_fn a.files left) rfl (.cons (.one (.r .r)) (.cons (.one (.r .r)) (.nil))) fun g2 => ?_
 refine RW.k XK 12 1 rfl ?_
 (conv=>whnf);refine ⟨rfl,?_⟩
 refine RW.nil ?_
 refine CW.keep 12 [1] rfl ?_;(conv=>whnf);refine ⟨?_⟩
 refine CW.seq ?_
 refine CW.k XK 12 1 [1,10] rfl ?_
 (conv=>whnf);refine ⟨rfl,?_⟩
 refine CW.cond rfl (fun h3 => ?_) (fun h3 => ?_)
 ·skip
  refine CW.k XK 12 1 [4] rfl ?_
  (conv=>whnf);refine ⟨rfl,?_⟩
  refine CW.ret ?_
  exact Post.one (RV.i rfl (by first | (simp_all [szDisk]; done) | (simp_all [szDisk]; omega) | grind [szDisk])) (AOs.a rfl (AOs.r AOs.e))
 ·skip
  refine CW.skip ?_
  refine CW.keep 12 [1] rfl ?_;(conv=>whnf);refine ⟨?_⟩
  refine CW.k XK 12 1 [4] rfl ?_
  (conv=>whnf);refine ⟨rfl,?_⟩
  refine CW.ret ?_
  exact Post.one (RV.i rfl (by first | (simp_all [szDisk]; done) | (simp_all [szDisk]; omega) | grind [szDisk])) (AOs.a rfl (AOs.r AOs.e))
set_option maxHeartbeats 4000000 in
theorem laws_szJournal_fn (a : Journal) (left : Int) : Eng.Fn E.P 24 [.agg ((Journal.c a).map .r), .one (.r (.v (.int .i64 left)))] (.one (.one (.w (.v (.int .i64 (szJournal a left)))))) [.agg ((Journal.c a).map .r), .one (.r (.v (.int .i64 left)))] := by
 refine Eng.Fn.intro (E := E) (rvs := [.tmp 4]) Tryz.func24 rfl rfl rfl (by simp [outSlots, moved, rvSlot, sl]) ?_
 intro B g bo
 refine CW.keep 12 [0,1] rfl ?_;(conv=>whnf);refine ⟨?_⟩
 refine CW.seq ?_
 refine CW.region ?_
 refine RW.k XK 12 1 rfl ?_
 (conv=>whnf);intro b1;(conv=>whnf);refine ⟨rfl,?_⟩
 refine RW.freezeB (ts := (Journal.c a)) 2 rfl (DRd.r (DRd.r (DRd.r (DRd.r (DRd.r (DRd.r DRd.e)))))) ?_
 refine RW.k XK 12 1 rfl ?_
 (conv=>whnf);refine ⟨rfl,?_⟩
 refine RW.nil ?_
 refine CW.keep 12 [1,2] rfl ?_;(conv=>whnf);refine ⟨?_⟩
 refine CW.seq ?_
 refine CW.region ?_
 refine RW.k XK 12 3 rfl ?_
 (conv=>whnf);refine ⟨rfl,?_⟩
 refine RW.call rfl (laws_szLog_fn a.log left) rfl (.cons (.agg (.cons (.r .r) (.cons (.r .r) (.cons (.r .r) (.nil))))) (.cons (.one (.r .r)) (.nil))) fun g2 => ?_
 refine RW.k XK 12 1 rfl ?_
 (conv=>whnf);refine ⟨rfl,?_⟩
 refine RW.nil ?_
 refine CW.keep 12 [1] rfl ?_;(conv=>whnf);refine ⟨?_⟩
 refine CW.seq ?_
 refine CW.k XK 12 1 [1,10] rfl ?_
 (conv=>whnf);refine ⟨rfl,?_⟩
 refine CW.cond rfl (fun h3 => ?_) (fun h3 => ?_)
 ·skip
  refine CW.k XK 12 1 [4] rfl ?_
  (conv=>whnf);refine ⟨rfl,?_⟩
  refine CW.ret ?_
  exact Post.one (RV.i rfl (by first | (simp_all [szJournal]; done) | (simp_all [szJournal]; omega) | grind [szJournal])) (AOs.a rfl (AOs.r AOs.e))
 ·skip
  refine CW.skip ?_
  refine CW.keep 12 [1] rfl ?_;(conv=>whnf);refine ⟨?_⟩
  refine CW.k XK 12 1 [4] rfl ?_
  (conv=>whnf);refine ⟨rfl,?_⟩
  refine CW.ret ?_
  exact Post.one (RV.i rfl (by first | (simp_all [szJournal]; done) | (simp_all [szJournal]; omega) | grind [szJournal])) (AOs.a rfl (AOs.r AOs.e))
set_option maxHeartbeats 4000000 in
theorem laws_szSession_fn (a : Session) (left : Int) : Eng.Fn E.P 142 [.agg ((Session.c a).map .r), .one (.r (.v (.int .i64 left)))] (.one (.one (.w (.v (.int .i64 (szSession a left)))))) [.agg ((Session.c a).map .r), .one (.r (.v (.int .i64 left)))] := by
 refine Eng.Fn.intro (E := E) (rvs := [.tmp 4]) Tryz.func142 rfl rfl rfl (by simp [outSlots, moved, rvSlot, sl]) ?_
 intro B g bo
 refine CW.keep 13 [0,1] rfl ?_;(conv=>whnf);refine ⟨?_⟩
 refine CW.seq ?_
 refine CW.region ?_
 refine RW.k XK 13 1 rfl ?_
 (conv=>whnf);intro b1;(conv=>whnf);refine ⟨rfl,?_⟩
 refine RW.freezeB (ts := (Session.c a)) 2 rfl (DRd.r (DRd.r (DRd.r DRd.e))) ?_
 refine RW.k XK 13 1 rfl ?_
 (conv=>whnf);refine ⟨rfl,?_⟩
 refine RW.nil ?_
 refine CW.keep 13 [1,2] rfl ?_;(conv=>whnf);refine ⟨?_⟩
 refine CW.k XK 13 1 [1] rfl ?_
 (conv=>whnf);refine ⟨rfl,?_⟩
 refine CW.seq ?_
 refine CW.k XK 13 1 [1,11] rfl ?_
 (conv=>whnf);refine ⟨rfl,?_⟩
 refine CW.cond rfl (fun h2 => ?_) (fun h2 => ?_)
 ·skip
  refine CW.k XK 13 1 [4] rfl ?_
  (conv=>whnf);refine ⟨rfl,?_⟩
  refine CW.ret ?_
  exact Post.one (RV.i rfl (by first | (simp_all [szSession]; done) | (simp_all [szSession]; omega) | grind [szSession])) (AOs.a rfl (AOs.r AOs.e))
 ·skip
  refine CW.skip ?_
  refine CW.keep 13 [1] rfl ?_;(conv=>whnf);refine ⟨?_⟩
  refine CW.k XK 13 1 [4] rfl ?_
  (conv=>whnf);refine ⟨rfl,?_⟩
  refine CW.ret ?_
  exact Post.one (RV.i rfl (by first | (simp_all [szSession]; done) | (simp_all [szSession]; omega) | grind [szSession])) (AOs.a rfl (AOs.r AOs.e))
set_option maxHeartbeats 4000000 in
theorem laws_szSessionS_fn (a : List Session) (left : Int) : Eng.Fn E.P 76 [.one (.r (sl 3 Session.c a)), .one (.r (.v (.int .i64 left)))] (.one (.one (.w (.v (.int .i64 (szS szSession a left)))))) [.one (.r (sl 3 Session.c a)), .one (.r (.v (.int .i64 left)))] := by
 refine Eng.Fn.intro (E := E) (rvs := [.tmp 4]) Tryz.func76 rfl rfl rfl (by simp [outSlots, moved, rvSlot, sl]) ?_
 intro B g bo
 refine CW.bound (x := .tmp 0) (n := a.length) (AsT.r) (fun hl0 => ?_)
 refine CW.keep 27 [0,1] rfl ?_;(conv=>whnf);refine ⟨?_⟩
 refine CW.k XK 27 2 [0,1] rfl ?_
 (conv=>whnf);refine ⟨rfl,?_⟩
 refine CW.seq ?_
 refine CW.k XK 27 1 [0,1,11] rfl ?_
 (conv=>whnf);refine ⟨rfl,?_⟩
 refine CW.cond rfl (fun h1 => ?_) (fun h1 => ?_)
 ·skip
  refine CW.k XK 27 1 [4] rfl ?_
  (conv=>whnf);refine ⟨rfl,?_⟩
  refine CW.ret ?_
  exact Post.one (RV.i rfl (by first | (simp_all [szS, szL, szStr, szI]; done) | grind [szS, szL, szStr, szI])) (AOs.r (AOs.r AOs.e))
 ·skip
  refine CW.skip ?_
  refine CW.keep 27 [0,1] rfl ?_;(conv=>whnf);refine ⟨?_⟩
  refine CW.seq ?_
  refine CW.k XK 27 1 [0,1,5] rfl ?_
  (conv=>whnf);refine ⟨rfl,?_⟩
  refine CW.block ?_
  refine CW.loopI 27 (fun (zz : Nat × Int) => match zz with | (i, l) => [(0, .r (sl 3 Session.c a)), (1, I l), (5, I (i : Int))]) (fun (zz : Nat × Int) => match zz with | (i, l) => i ≤ a.length ∧ szL szSession (a.drop i) l = szS szSession a left) (fun (zz : Nat × Int) => match zz with | (i, l) => a.length - i) (0, _) rfl (Le.c rfl <| Le.c rfl <| Le.c rfl <| Le.e) ⟨by omega, by first | (simp_all [szS]; done) | grind [szS]⟩ ?_
  rintro ⟨i, l⟩ ⟨hb, hr⟩
  refine CW.seq ?_
  refine CW.k XK 27 1 [0,1,5,15] rfl ?_
  (conv=>whnf);refine ⟨rfl,?_⟩
  refine CW.cond rfl (fun h2 => ?_) (fun h2 => ?_)
  ·skip
   have hii : i < a.length := by have := h2; simp at this; first | exact this | omega | (simp; done) | (simp; omega)
   obtain ⟨ei, hei⟩ : ∃ e, a[i]? = some e := ⟨_, List.getElem?_eq_getElem hii⟩
   have hdi := drop_get hei
   refine CW.skip ?_
   refine CW.keep 27 [0,1,5] rfl ?_;(conv=>whnf);refine ⟨?_⟩
   refine CW.seq ?_
   refine CW.block ?_
   refine CW.seq ?_
   refine CW.region ?_
   refine RW.k XK 27 2 rfl ?_
   (conv=>whnf);refine ⟨rfl,?_⟩
   refine RW.v rfl (V.indexS rfl rfl rfl rfl rfl rfl Session.len hei) ?_
   refine RW.k XK 27 2 rfl ?_
   (conv=>whnf);refine ⟨rfl,?_⟩
   refine RW.call rfl (laws_szSession_fn ei l) rfl (.cons (.agg (.cons (.r .r) (.cons (.r .r) (.cons (.r .r) (.nil))))) (.cons (.one (.r .r)) (.nil))) fun g3 => ?_
   refine RW.k XK 27 1 rfl ?_
   (conv=>whnf);refine ⟨rfl,?_⟩
   refine RW.nil ?_
   refine CW.keep 27 [0,1,5] rfl ?_;(conv=>whnf);refine ⟨?_⟩
   refine CW.k XK 27 1 [0,1,5,25] rfl ?_
   (conv=>whnf);refine ⟨rfl,?_⟩
   refine CW.cond rfl (fun h4 => ?_) (fun h4 => ?_)
   ·skip
    refine CW.k XK 27 1 [4] rfl ?_
    (conv=>whnf);refine ⟨rfl,?_⟩
    refine CW.ret ?_
    exact Post.one (RV.i rfl (by first | (simp_all [szS, szL, szStr, szI]; done) | grind [szS, szL, szStr, szI])) (AOs.r (AOs.r AOs.e))
   ·skip
    refine CW.skip ?_
    refine CW.keep 27 [0,1,5] rfl ?_;(conv=>whnf);refine ⟨?_⟩
    refine CW.region ?_
    refine RW.k XK 27 1 rfl ?_
    (conv=>whnf);refine ⟨rfl,?_⟩
    refine RW.v rfl (V.inc rfl rfl rfl hii hl0) ?_
    refine RW.k XK 27 1 rfl ?_
    (conv=>whnf);refine ⟨rfl,?_⟩
    refine RW.nil ?_
    exact ⟨(i + 1, _), by simp only []; omega, ⟨by omega, by first | (simp_all [szL, szStr, szI]; done) | grind [szL, szStr, szI]⟩, rfl, Le.c rfl <| Le.c rfl <| Le.c rfl <| Le.e⟩
  ·skip
   have hii : a.length ≤ i := by have := h2; simp at this; first | exact this | omega | (simp; done) | (simp; omega)
   have hdi : a.drop i = [] := List.drop_eq_nil_of_le hii
   refine CW.exit ?_
   refine CW.keep 27 [1] rfl ?_;(conv=>whnf);refine ⟨?_⟩
   refine CW.k XK 27 1 [4] rfl ?_
   (conv=>whnf);refine ⟨rfl,?_⟩
   refine CW.ret ?_
   exact Post.one (RV.i rfl (by first | (simp_all [szS, szL, szStr, szI]; done) | grind [szS, szL, szStr, szI])) (AOs.r (AOs.r AOs.e))
set_option maxHeartbeats 4000000 in
theorem laws_szItem_fn (a : Item) (left : Int) : Eng.Fn E.P 143 [.agg ((Item.c a).map .r), .one (.r (.v (.int .i64 left)))] (.one (.one (.w (.v (.int .i64 (szItem a left)))))) [.agg ((Item.c a).map .r), .one (.r (.v (.int .i64 left)))] := by
 refine Eng.Fn.intro (E := E) (rvs := [.tmp 4]) Tryz.func143 rfl rfl rfl (by simp [outSlots, moved, rvSlot, sl]) ?_
 intro B g bo
 refine CW.keep 20 [0,1] rfl ?_;(conv=>whnf);refine ⟨?_⟩
 refine CW.seq ?_
 refine CW.region ?_
 refine RW.k XK 20 1 rfl ?_
 (conv=>whnf);intro b1;(conv=>whnf);refine ⟨rfl,?_⟩
 refine RW.freezeB (ts := (Item.c a)) 2 rfl (DRd.r (DRd.r (DRd.r DRd.e))) ?_
 refine RW.k XK 20 1 rfl ?_
 (conv=>whnf);refine ⟨rfl,?_⟩
 refine RW.nil ?_
 refine CW.keep 20 [1,2] rfl ?_;(conv=>whnf);refine ⟨?_⟩
 refine CW.k XK 20 1 [1,2] rfl ?_
 (conv=>whnf);refine ⟨rfl,?_⟩
 refine CW.seq ?_
 refine CW.k XK 20 1 [1,2,11] rfl ?_
 (conv=>whnf);refine ⟨rfl,?_⟩
 refine CW.cond rfl (fun h2 => ?_) (fun h2 => ?_)
 ·skip
  refine CW.k XK 20 1 [4] rfl ?_
  (conv=>whnf);refine ⟨rfl,?_⟩
  refine CW.ret ?_
  exact Post.one (RV.i rfl (by first | (simp_all [szItem]; done) | (simp_all [szItem]; omega) | grind [szItem])) (AOs.a rfl (AOs.r AOs.e))
 ·skip
  refine CW.skip ?_
  refine CW.keep 20 [1,2] rfl ?_;(conv=>whnf);refine ⟨?_⟩
  refine CW.k XK 20 1 [1] rfl ?_
  (conv=>whnf);refine ⟨rfl,?_⟩
  refine CW.seq ?_
  refine CW.k XK 20 1 [1,18] rfl ?_
  (conv=>whnf);refine ⟨rfl,?_⟩
  refine CW.cond rfl (fun h3 => ?_) (fun h3 => ?_)
  ·skip
   refine CW.k XK 20 1 [4] rfl ?_
   (conv=>whnf);refine ⟨rfl,?_⟩
   refine CW.ret ?_
   exact Post.one (RV.i rfl (by first | (simp_all [szItem]; done) | (simp_all [szItem]; omega) | grind [szItem])) (AOs.a rfl (AOs.r AOs.e))
  ·skip
   refine CW.skip ?_
   refine CW.keep 20 [1] rfl ?_;(conv=>whnf);refine ⟨?_⟩
   refine CW.k XK 20 1 [4] rfl ?_
   (conv=>whnf);refine ⟨rfl,?_⟩
   refine CW.ret ?_
   exact Post.one (RV.i rfl (by first | (simp_all [szItem]; done) | (simp_all [szItem]; omega) | grind [szItem])) (AOs.a rfl (AOs.r AOs.e))
set_option maxHeartbeats 4000000 in
theorem laws_szItemS_fn (a : List Item) (left : Int) : Eng.Fn E.P 77 [.one (.r (sl 3 Item.c a)), .one (.r (.v (.int .i64 left)))] (.one (.one (.w (.v (.int .i64 (szS szItem a left)))))) [.one (.r (sl 3 Item.c a)), .one (.r (.v (.int .i64 left)))] := by
 refine Eng.Fn.intro (E := E) (rvs := [.tmp 4]) Tryz.func77 rfl rfl rfl (by simp [outSlots, moved, rvSlot, sl]) ?_
 intro B g bo
 refine CW.bound (x := .tmp 0) (n := a.length) (AsT.r) (fun hl0 => ?_)
 refine CW.keep 27 [0,1] rfl ?_;(conv=>whnf);refine ⟨?_⟩
 refine CW.k XK 27 2 [0,1] rfl ?_
 (conv=>whnf);refine ⟨rfl,?_⟩
 refine CW.seq ?_
 refine CW.k XK 27 1 [0,1,11] rfl ?_
 (conv=>whnf);refine ⟨rfl,?_⟩
 refine CW.cond rfl (fun h1 => ?_) (fun h1 => ?_)
 ·skip
  refine CW.k XK 27 1 [4] rfl ?_
  (conv=>whnf);refine ⟨rfl,?_⟩
  refine CW.ret ?_
  exact Post.one (RV.i rfl (by first | (simp_all [szS, szL, szStr, szI]; done) | grind [szS, szL, szStr, szI])) (AOs.r (AOs.r AOs.e))
 ·skip
  refine CW.skip ?_
  refine CW.keep 27 [0,1] rfl ?_;(conv=>whnf);refine ⟨?_⟩
  refine CW.seq ?_
  refine CW.k XK 27 1 [0,1,5] rfl ?_
  (conv=>whnf);refine ⟨rfl,?_⟩
  refine CW.block ?_
  refine CW.loopI 27 (fun (zz : Nat × Int) => match zz with | (i, l) => [(0, .r (sl 3 Item.c a)), (1, I l), (5, I (i : Int))]) (fun (zz : Nat × Int) => match zz with | (i, l) => i ≤ a.length ∧ szL szItem (a.drop i) l = szS szItem a left) (fun (zz : Nat × Int) => match zz with | (i, l) => a.length - i) (0, _) rfl (Le.c rfl <| Le.c rfl <| Le.c rfl <| Le.e) ⟨by omega, by first | (simp_all [szS]; done) | grind [szS]⟩ ?_
  rintro ⟨i, l⟩ ⟨hb, hr⟩
  refine CW.seq ?_
  refine CW.k XK 27 1 [0,1,5,15] rfl ?_
  (conv=>whnf);refine ⟨rfl,?_⟩
  refine CW.cond rfl (fun h2 => ?_) (fun h2 => ?_)
  ·skip
   have hii : i < a.length := by have := h2; simp at this; first | exact this | omega | (simp; done) | (simp; omega)
   obtain ⟨ei, hei⟩ : ∃ e, a[i]? = some e := ⟨_, List.getElem?_eq_getElem hii⟩
   have hdi := drop_get hei
   refine CW.skip ?_
   refine CW.keep 27 [0,1,5] rfl ?_;(conv=>whnf);refine ⟨?_⟩
   refine CW.seq ?_
   refine CW.block ?_
   refine CW.seq ?_
   refine CW.region ?_
   refine RW.k XK 27 2 rfl ?_
   (conv=>whnf);refine ⟨rfl,?_⟩
   refine RW.v rfl (V.indexS rfl rfl rfl rfl rfl rfl Item.len hei) ?_
   refine RW.k XK 27 2 rfl ?_
   (conv=>whnf);refine ⟨rfl,?_⟩
   refine RW.call rfl (laws_szItem_fn ei l) rfl (.cons (.agg (.cons (.r .r) (.cons (.r .r) (.cons (.r .r) (.nil))))) (.cons (.one (.r .r)) (.nil))) fun g3 => ?_
   refine RW.k XK 27 1 rfl ?_
   (conv=>whnf);refine ⟨rfl,?_⟩
   refine RW.nil ?_
   refine CW.keep 27 [0,1,5] rfl ?_;(conv=>whnf);refine ⟨?_⟩
   refine CW.k XK 27 1 [0,1,5,25] rfl ?_
   (conv=>whnf);refine ⟨rfl,?_⟩
   refine CW.cond rfl (fun h4 => ?_) (fun h4 => ?_)
   ·skip
    refine CW.k XK 27 1 [4] rfl ?_
    (conv=>whnf);refine ⟨rfl,?_⟩
    refine CW.ret ?_
    exact Post.one (RV.i rfl (by first | (simp_all [szS, szL, szStr, szI]; done) | grind [szS, szL, szStr, szI])) (AOs.r (AOs.r AOs.e))
   ·skip
    refine CW.skip ?_
    refine CW.keep 27 [0,1,5] rfl ?_;(conv=>whnf);refine ⟨?_⟩
    refine CW.region ?_
    refine RW.k XK 27 1 rfl ?_
    (conv=>whnf);refine ⟨rfl,?_⟩
    refine RW.v rfl (V.inc rfl rfl rfl hii hl0) ?_
    refine RW.k XK 27 1 rfl ?_
    (conv=>whnf);refine ⟨rfl,?_⟩
    refine RW.nil ?_
    exact ⟨(i + 1, _), by simp only []; omega, ⟨by omega, by first | (simp_all [szL, szStr, szI]; done) | grind [szL, szStr, szI]⟩, rfl, Le.c rfl <| Le.c rfl <| Le.c rfl <| Le.e⟩
  ·skip
   have hii : a.length ≤ i := by have := h2; simp at this; first | exact this | omega | (simp; done) | (simp; omega)
   have hdi : a.drop i = [] := List.drop_eq_nil_of_le hii
   refine CW.exit ?_
   refine CW.keep 27 [1] rfl ?_;(conv=>whnf);refine ⟨?_⟩
   refine CW.k XK 27 1 [4] rfl ?_
   (conv=>whnf);refine ⟨rfl,?_⟩
   refine CW.ret ?_
   exact Post.one (RV.i rfl (by first | (simp_all [szS, szL, szStr, szI]; done) | grind [szS, szL, szStr, szI])) (AOs.r (AOs.r AOs.e))
set_option maxHeartbeats 4000000 in
theorem laws_szKeep_fn (a : Keep) (left : Int) : Eng.Fn E.P 25 [.agg ((Keep.c a).map .r), .one (.r (.v (.int .i64 left)))] (.one (.one (.w (.v (.int .i64 (szKeep a left)))))) [.agg ((Keep.c a).map .r), .one (.r (.v (.int .i64 left)))] := by
 refine Eng.Fn.intro (E := E) (rvs := [.tmp 4]) Tryz.func25 rfl rfl rfl (by simp [outSlots, moved, rvSlot, sl]) ?_
 intro B g bo
 refine CW.keep 18 [0,1] rfl ?_;(conv=>whnf);refine ⟨?_⟩
 refine CW.seq ?_
 refine CW.region ?_
 refine RW.k XK 18 1 rfl ?_
 (conv=>whnf);intro b1;(conv=>whnf);refine ⟨rfl,?_⟩
 refine RW.freezeB (ts := (Keep.c a)) 2 rfl (DRd.r (DRd.r DRd.e)) ?_
 refine RW.k XK 18 1 rfl ?_
 (conv=>whnf);refine ⟨rfl,?_⟩
 refine RW.nil ?_
 refine CW.keep 18 [1,2] rfl ?_;(conv=>whnf);refine ⟨?_⟩
 refine CW.seq ?_
 refine CW.region ?_
 refine RW.k XK 18 3 rfl ?_
 (conv=>whnf);refine ⟨rfl,?_⟩
 refine RW.call rfl (laws_szSessionS_fn a.sessions left) rfl (.cons (.one (.r .r)) (.cons (.one (.r .r)) (.nil))) fun g2 => ?_
 refine RW.k XK 18 1 rfl ?_
 (conv=>whnf);refine ⟨rfl,?_⟩
 refine RW.nil ?_
 refine CW.keep 18 [1,2] rfl ?_;(conv=>whnf);refine ⟨?_⟩
 refine CW.seq ?_
 refine CW.k XK 18 1 [1,2,10] rfl ?_
 (conv=>whnf);refine ⟨rfl,?_⟩
 refine CW.cond rfl (fun h3 => ?_) (fun h3 => ?_)
 ·skip
  refine CW.k XK 18 1 [4] rfl ?_
  (conv=>whnf);refine ⟨rfl,?_⟩
  refine CW.ret ?_
  exact Post.one (RV.i rfl (by first | (simp_all [szKeep]; done) | (simp_all [szKeep]; omega) | grind [szKeep])) (AOs.a rfl (AOs.r AOs.e))
 ·skip
  refine CW.skip ?_
  refine CW.keep 18 [1,2] rfl ?_;(conv=>whnf);refine ⟨?_⟩
  refine CW.seq ?_
  refine CW.region ?_
  refine RW.k XK 18 3 rfl ?_
  (conv=>whnf);refine ⟨rfl,?_⟩
  refine RW.call rfl (laws_szItemS_fn a.items (szS szSession a.sessions left)) rfl (.cons (.one (.r .r)) (.cons (.one (.r .r)) (.nil))) fun g4 => ?_
  refine RW.k XK 18 1 rfl ?_
  (conv=>whnf);refine ⟨rfl,?_⟩
  refine RW.nil ?_
  refine CW.keep 18 [1] rfl ?_;(conv=>whnf);refine ⟨?_⟩
  refine CW.seq ?_
  refine CW.k XK 18 1 [1,16] rfl ?_
  (conv=>whnf);refine ⟨rfl,?_⟩
  refine CW.cond rfl (fun h5 => ?_) (fun h5 => ?_)
  ·skip
   refine CW.k XK 18 1 [4] rfl ?_
   (conv=>whnf);refine ⟨rfl,?_⟩
   refine CW.ret ?_
   exact Post.one (RV.i rfl (by first | (simp_all [szKeep]; done) | (simp_all [szKeep]; omega) | grind [szKeep])) (AOs.a rfl (AOs.r AOs.e))
  ·skip
   refine CW.skip ?_
   refine CW.keep 18 [1] rfl ?_;(conv=>whnf);refine ⟨?_⟩
   refine CW.k XK 18 1 [4] rfl ?_
   (conv=>whnf);refine ⟨rfl,?_⟩
   refine CW.ret ?_
   exact Post.one (RV.i rfl (by first | (simp_all [szKeep]; done) | (simp_all [szKeep]; omega) | grind [szKeep])) (AOs.a rfl (AOs.r AOs.e))
set_option maxHeartbeats 4000000 in
theorem laws_szServer_fn (a : Server) (left : Int) : Eng.Fn E.P 5 [.agg ((Server.c a).map .r), .one (.r (.v (.int .i64 left)))] (.one (.one (.w (.v (.int .i64 (szServer a left)))))) [.agg ((Server.c a).map .r), .one (.r (.v (.int .i64 left)))] := by
 refine Eng.Fn.intro (E := E) (rvs := [.tmp 4]) Tryz.func5 rfl rfl rfl (by simp [outSlots, moved, rvSlot, sl]) ?_
 intro B g bo
 refine CW.keep 37 [0,1] rfl ?_;(conv=>whnf);refine ⟨?_⟩
 refine CW.seq ?_
 refine CW.region ?_
 refine RW.k XK 37 1 rfl ?_
 (conv=>whnf);intro b1;(conv=>whnf);refine ⟨rfl,?_⟩
 refine RW.freezeB (ts := (Server.c a)) 2 rfl (DRd.r (DRd.r (DRd.r (DRd.r (DRd.r (DRd.r (DRd.r (DRd.r (DRd.r (DRd.r (DRd.r (DRd.r (DRd.r (DRd.r (DRd.r (DRd.r (DRd.r (DRd.r (DRd.r (DRd.r (DRd.r (DRd.r (DRd.r (DRd.r (DRd.r (DRd.r (DRd.r DRd.e))))))))))))))))))))))))))) ?_
 refine RW.k XK 37 1 rfl ?_
 (conv=>whnf);refine ⟨rfl,?_⟩
 refine RW.nil ?_
 refine CW.keep 37 [1,2] rfl ?_;(conv=>whnf);refine ⟨?_⟩
 refine CW.seq ?_
 refine CW.region ?_
 refine RW.k XK 37 3 rfl ?_
 (conv=>whnf);refine ⟨rfl,?_⟩
 refine RW.call rfl (laws_szNode_fn a.node left) rfl (.cons (.agg (.cons (.r .r) (.cons (.r .r) (.cons (.r .r) (.cons (.r .r) (.cons (.r .r) (.cons (.r .r) (.cons (.r .r) (.cons (.r .r) (.cons (.r .r) (.cons (.r .r) (.cons (.r .r) (.cons (.r .r) (.cons (.r .r) (.cons (.r .r) (.nil)))))))))))))))) (.cons (.one (.r .r)) (.nil))) fun g2 => ?_
 refine RW.k XK 37 1 rfl ?_
 (conv=>whnf);refine ⟨rfl,?_⟩
 refine RW.nil ?_
 refine CW.keep 37 [1,2] rfl ?_;(conv=>whnf);refine ⟨?_⟩
 refine CW.seq ?_
 refine CW.k XK 37 1 [1,2,10] rfl ?_
 (conv=>whnf);refine ⟨rfl,?_⟩
 refine CW.cond rfl (fun h3 => ?_) (fun h3 => ?_)
 ·skip
  refine CW.k XK 37 1 [4] rfl ?_
  (conv=>whnf);refine ⟨rfl,?_⟩
  refine CW.ret ?_
  exact Post.one (RV.i rfl (by first | (simp_all [szServer]; done) | (simp_all [szServer]; omega) | grind [szServer])) (AOs.a rfl (AOs.r AOs.e))
 ·skip
  refine CW.skip ?_
  refine CW.keep 37 [1,2] rfl ?_;(conv=>whnf);refine ⟨?_⟩
  refine CW.seq ?_
  refine CW.region ?_
  refine RW.k XK 37 3 rfl ?_
  (conv=>whnf);refine ⟨rfl,?_⟩
  refine RW.call rfl (laws_szDisk_fn a.disk (szNode a.node left)) rfl (.cons (.agg (.cons (.r .r) (.nil))) (.cons (.one (.r .r)) (.nil))) fun g4 => ?_
  refine RW.k XK 37 1 rfl ?_
  (conv=>whnf);refine ⟨rfl,?_⟩
  refine RW.nil ?_
  refine CW.keep 37 [1,2] rfl ?_;(conv=>whnf);refine ⟨?_⟩
  refine CW.seq ?_
  refine CW.k XK 37 1 [1,2,16] rfl ?_
  (conv=>whnf);refine ⟨rfl,?_⟩
  refine CW.cond rfl (fun h5 => ?_) (fun h5 => ?_)
  ·skip
   refine CW.k XK 37 1 [4] rfl ?_
   (conv=>whnf);refine ⟨rfl,?_⟩
   refine CW.ret ?_
   exact Post.one (RV.i rfl (by first | (simp_all [szServer]; done) | (simp_all [szServer]; omega) | grind [szServer])) (AOs.a rfl (AOs.r AOs.e))
  ·skip
   refine CW.skip ?_
   refine CW.keep 37 [1,2] rfl ?_;(conv=>whnf);refine ⟨?_⟩
   refine CW.seq ?_
   refine CW.region ?_
   refine RW.k XK 37 3 rfl ?_
   (conv=>whnf);refine ⟨rfl,?_⟩
   refine RW.call rfl (laws_szJournal_fn a.journal (szDisk a.disk (szNode a.node left))) rfl (.cons (.agg (.cons (.r .r) (.cons (.r .r) (.cons (.r .r) (.cons (.r .r) (.cons (.r .r) (.cons (.r .r) (.nil)))))))) (.cons (.one (.r .r)) (.nil))) fun g6 => ?_
   refine RW.k XK 37 1 rfl ?_
   (conv=>whnf);refine ⟨rfl,?_⟩
   refine RW.nil ?_
   refine CW.keep 37 [1,2] rfl ?_;(conv=>whnf);refine ⟨?_⟩
   refine CW.seq ?_
   refine CW.k XK 37 1 [1,2,22] rfl ?_
   (conv=>whnf);refine ⟨rfl,?_⟩
   refine CW.cond rfl (fun h7 => ?_) (fun h7 => ?_)
   ·skip
    refine CW.k XK 37 1 [4] rfl ?_
    (conv=>whnf);refine ⟨rfl,?_⟩
    refine CW.ret ?_
    exact Post.one (RV.i rfl (by first | (simp_all [szServer]; done) | (simp_all [szServer]; omega) | grind [szServer])) (AOs.a rfl (AOs.r AOs.e))
   ·skip
    refine CW.skip ?_
    refine CW.keep 37 [1,2] rfl ?_;(conv=>whnf);refine ⟨?_⟩
    refine CW.seq ?_
    refine CW.region ?_
    refine RW.k XK 37 3 rfl ?_
    (conv=>whnf);refine ⟨rfl,?_⟩
    refine RW.call rfl (laws_szKeep_fn a.keep (szJournal a.journal (szDisk a.disk (szNode a.node left)))) rfl (.cons (.agg (.cons (.r .r) (.cons (.r .r) (.nil)))) (.cons (.one (.r .r)) (.nil))) fun g8 => ?_
    refine RW.k XK 37 1 rfl ?_
    (conv=>whnf);refine ⟨rfl,?_⟩
    refine RW.nil ?_
    refine CW.keep 37 [1,2] rfl ?_;(conv=>whnf);refine ⟨?_⟩
    refine CW.seq ?_
    refine CW.k XK 37 1 [1,2,28] rfl ?_
    (conv=>whnf);refine ⟨rfl,?_⟩
    refine CW.cond rfl (fun h9 => ?_) (fun h9 => ?_)
    ·skip
     refine CW.k XK 37 1 [4] rfl ?_
     (conv=>whnf);refine ⟨rfl,?_⟩
     refine CW.ret ?_
     exact Post.one (RV.i rfl (by first | (simp_all [szServer]; done) | (simp_all [szServer]; omega) | grind [szServer])) (AOs.a rfl (AOs.r AOs.e))
    ·skip
     refine CW.skip ?_
     refine CW.keep 37 [1,2] rfl ?_;(conv=>whnf);refine ⟨?_⟩
     refine CW.k XK 37 1 [1] rfl ?_
     (conv=>whnf);refine ⟨rfl,?_⟩
     refine CW.seq ?_
     refine CW.k XK 37 1 [1,35] rfl ?_
     (conv=>whnf);refine ⟨rfl,?_⟩
     refine CW.cond rfl (fun h10 => ?_) (fun h10 => ?_)
     ·skip
      refine CW.k XK 37 1 [4] rfl ?_
      (conv=>whnf);refine ⟨rfl,?_⟩
      refine CW.ret ?_
      exact Post.one (RV.i rfl (by first | (simp_all [szServer]; done) | (simp_all [szServer]; omega) | grind [szServer])) (AOs.a rfl (AOs.r AOs.e))
     ·skip
      refine CW.skip ?_
      refine CW.keep 37 [1] rfl ?_;(conv=>whnf);refine ⟨?_⟩
      refine CW.k XK 37 1 [4] rfl ?_
      (conv=>whnf);refine ⟨rfl,?_⟩
      refine CW.ret ?_
      exact Post.one (RV.i rfl (by first | (simp_all [szServer]; done) | (simp_all [szServer]; omega) | grind [szServer])) (AOs.a rfl (AOs.r AOs.e))
set_option maxHeartbeats 4000000 in
theorem laws_toIntS_fn (a : List Int) (hm : a.length ≤ 1048576) : Eng.Fn E.P 81 [.one (.r (sl 1 cI a))] (.one (.one (.w (sl 1 cI a)))) [.one (.r (sl 1 cI a))] := by
 refine Eng.Fn.intro (E := E) (rvs := [.tmp 2]) Tryz.func81 rfl rfl rfl (by simp [outSlots, moved, rvSlot, sl]) ?_
 intro B g bo
 refine CW.bound (x := .tmp 0) (n := a.length) (AsT.r) (fun hl0 => ?_)
 refine CW.keep 22 [0] rfl ?_;(conv=>whnf);refine ⟨?_⟩
 refine CW.k XK 22 1 [0] rfl ?_
 (conv=>whnf);refine ⟨rfl,?_⟩
 refine CW.seq ?_
 refine CW.region ?_
 refine RW.k XK 22 2 rfl ?_
 (conv=>whnf);refine ⟨rfl,?_⟩
 refine RW.makeS (n := a.length) (c := cI) 0 rfl rfl rfl rfl rfl rfl rfl rfl (ZT.v ZT.e) (by show 8 * a.length ≤ 281474976710656; omega) (by simp only [maxLen]; omega) fun X1 => ?_
 refine RW.assignMove rfl rfl rfl (by decide) (Nat.le_of_ble_eq_true rfl) (Nat.le_of_ble_eq_true rfl) ?_
 refine RW.nil ?_
 refine CW.keep 22 [0,3] rfl ?_;(conv=>whnf);refine ⟨?_⟩
 refine CW.seq ?_
 refine CW.k XK 22 1 [0,3,4] rfl ?_
 (conv=>whnf);refine ⟨rfl,?_⟩
 refine CW.block ?_
 refine CW.loopI 22 (fun (i : Nat) => [(0, .r (sl 1 cI a)), (3, .w (sl 1 cI (a.take i ++ List.replicate (a.length - i) 0)) X1), (4, I (i : Int))]) (fun (i : Nat) => i ≤ a.length) (fun (i : Nat) => a.length - i) 0 rfl (Le.c rfl <| Le.c rfl <| Le.c rfl <| Le.e) (by omega) ?_
 rintro i hb
 refine CW.seq ?_
 refine CW.k XK 22 1 [0,3,4,11] rfl ?_
 (conv=>whnf);refine ⟨rfl,?_⟩
 refine CW.cond rfl (fun h2 => ?_) (fun h2 => ?_)
 ·skip
  have hii : i < a.length := by have := h2; simp at this; first | exact this | omega | (simp; done) | (simp; omega)
  obtain ⟨ei, hei⟩ : ∃ e, a[i]? = some e := ⟨_, List.getElem?_eq_getElem hii⟩
  have hdi := drop_get hei
  refine CW.skip ?_
  refine CW.keep 22 [0,3,4] rfl ?_;(conv=>whnf);refine ⟨?_⟩
  refine CW.seq ?_
  refine CW.block ?_
  refine CW.region ?_
  refine RW.k XK 22 4 rfl ?_
  (conv=>whnf);refine ⟨rfl,?_⟩
  refine RW.v rfl (V.indexS rfl rfl rfl rfl rfl rfl cI.len hei) ?_
  refine RW.k XK 22 1 rfl ?_
  (conv=>whnf);refine ⟨rfl,?_⟩
  refine RW.v rfl (V.indexW rfl rfl rfl rfl rfl rfl rfl (by simp; omega)) ?_
  refine RW.storeS1 (v := ei) (c := cI) (u := .v (.int .i64 ei)) rfl rfl rfl rfl rfl rfl rfl (.inl rfl) rfl cI.len (by simp; omega) rfl ?_
  refine RW.nil ?_
  refine CW.keep 22 [0,3,4] rfl ?_;(conv=>whnf);refine ⟨?_⟩
  refine CW.region ?_
  refine RW.k XK 22 1 rfl ?_
  (conv=>whnf);refine ⟨rfl,?_⟩
  refine RW.v rfl (V.inc rfl rfl rfl hii hl0) ?_
  refine RW.k XK 22 1 rfl ?_
  (conv=>whnf);refine ⟨rfl,?_⟩
  refine RW.nil ?_
  exact ⟨i + 1, by omega, by omega, rfl, Le.c rfl <| Le.c (congrArg (fun l => D.w (sl _ cI l) X1) (take_set hei)) <| Le.c rfl <| Le.e⟩
 ·skip
  have hii : a.length ≤ i := by have := h2; simp at this; first | exact this | omega | (simp; done) | (simp; omega)
  have hdi : a.drop i = [] := List.drop_eq_nil_of_le hii
  refine CW.exit ?_
  refine CW.keep 22 [3] rfl ?_;(conv=>whnf);refine ⟨?_⟩
  refine CW.seq ?_
  refine CW.region ?_
  refine RW.k XK 22 2 rfl ?_
  (conv=>whnf);refine ⟨rfl,?_⟩
  refine RW.pullS 2 3 (by decide) rfl rfl ?_
  refine RW.nil ?_
  refine CW.keep 22 [2] rfl ?_;(conv=>whnf);refine ⟨?_⟩
  refine CW.ret ?_
  exact Post.one (RV.w rfl (by rw [List.take_of_length_le hii, show a.length - i = 0 from by omega]; simp)) (AOs.r AOs.e)
set_option maxHeartbeats 4000000 in
theorem laws_toEntry_fn (a : Entry) (hs : okToEntry a) : Eng.Fn E.P 206 [.agg ((Entry.c a).map .r)] (.one (.agg ((Entry.c a).map .w))) [.agg ((Entry.c a).map .r)] := by
 refine Eng.Fn.intro (E := E) (rvs := [.cell 2 196]) Tryz.func206 rfl rfl rfl (by simp [outSlots, moved, rvSlot, sl]) ?_
 intro B g bo
 refine CW.keep 14 [0] rfl ?_;(conv=>whnf);refine ⟨?_⟩
 refine CW.seq ?_
 refine CW.region ?_
 refine RW.k XK 14 1 rfl ?_
 (conv=>whnf);intro b1;(conv=>whnf);refine ⟨rfl,?_⟩
 refine RW.freezeB (ts := (Entry.c a)) 1 rfl (DRd.r (DRd.r (DRd.r DRd.e))) ?_
 refine RW.k XK 14 1 rfl ?_
 (conv=>whnf);intro b2;(conv=>whnf);refine ⟨rfl,?_⟩
 refine RW.nil ?_
 refine CW.keep 14 [1,2] rfl ?_;(conv=>whnf);refine ⟨?_⟩
 refine CW.k XK 14 5 [2] rfl ?_
 (conv=>whnf);intro b3;(conv=>whnf);refine ⟨rfl,?_⟩
 refine CW.ret ?_
 exact Post.one (RV.c (f := fun e => (Entry.c e).map .w) (e' := a) rfl rfl rfl rfl (DT.v (DT.v (DT.v DT.e))) (by simp_all)) (AOs.a rfl AOs.e)
set_option maxHeartbeats 4000000 in
theorem laws_toEntryS_fn (a : List Entry) (hm : a.length ≤ 1048576) (hs : ∀ x ∈ a, okToEntry x) : Eng.Fn E.P 152 [.one (.r (sl 3 Entry.c a))] (.one (.one (.w (sl 3 Entry.c a)))) [.one (.r (sl 3 Entry.c a))] := by
 refine Eng.Fn.intro (E := E) (rvs := [.tmp 2]) Tryz.func152 rfl rfl rfl (by simp [outSlots, moved, rvSlot, sl]) ?_
 intro B g bo
 refine CW.bound (x := .tmp 0) (n := a.length) (AsT.r) (fun hl0 => ?_)
 refine CW.keep 23 [0] rfl ?_;(conv=>whnf);refine ⟨?_⟩
 refine CW.k XK 23 1 [0] rfl ?_
 (conv=>whnf);refine ⟨rfl,?_⟩
 refine CW.seq ?_
 refine CW.region ?_
 refine RW.k XK 23 2 rfl ?_
 (conv=>whnf);refine ⟨rfl,?_⟩
 refine RW.makeS (n := a.length) (c := Entry.c) Entry.z rfl rfl rfl rfl rfl rfl rfl rfl (ZT.v (ZT.v (ZT.v ZT.e))) (by show 32 * a.length ≤ 281474976710656; omega) (by simp only [maxLen]; omega) fun X1 => ?_
 refine RW.assignMove rfl rfl rfl (by decide) (Nat.le_of_ble_eq_true rfl) (Nat.le_of_ble_eq_true rfl) ?_
 refine RW.nil ?_
 refine CW.keep 23 [0,3] rfl ?_;(conv=>whnf);refine ⟨?_⟩
 refine CW.seq ?_
 refine CW.k XK 23 1 [0,3,4] rfl ?_
 (conv=>whnf);refine ⟨rfl,?_⟩
 refine CW.block ?_
 refine CW.loopI 23 (fun (i : Nat) => [(0, .r (sl 3 Entry.c a)), (3, .w (sl 3 Entry.c (a.take i ++ List.replicate (a.length - i) Entry.z)) X1), (4, I (i : Int))]) (fun (i : Nat) => i ≤ a.length) (fun (i : Nat) => a.length - i) 0 rfl (Le.c rfl <| Le.c rfl <| Le.c rfl <| Le.e) (by omega) ?_
 rintro i hb
 refine CW.seq ?_
 refine CW.k XK 23 1 [0,3,4,11] rfl ?_
 (conv=>whnf);refine ⟨rfl,?_⟩
 refine CW.cond rfl (fun h2 => ?_) (fun h2 => ?_)
 ·skip
  have hii : i < a.length := by have := h2; simp at this; first | exact this | omega | (simp; done) | (simp; omega)
  obtain ⟨ei, hei⟩ : ∃ e, a[i]? = some e := ⟨_, List.getElem?_eq_getElem hii⟩
  have hdi := drop_get hei
  refine CW.skip ?_
  refine CW.keep 23 [0,3,4] rfl ?_;(conv=>whnf);refine ⟨?_⟩
  refine CW.seq ?_
  refine CW.block ?_
  refine CW.region ?_
  refine RW.k XK 23 4 rfl ?_
  (conv=>whnf);refine ⟨rfl,?_⟩
  refine RW.v rfl (V.indexS rfl rfl rfl rfl rfl rfl Entry.len hei) ?_
  refine RW.k XK 23 1 rfl ?_
  (conv=>whnf);refine ⟨rfl,?_⟩
  refine RW.call rfl (laws_toEntry_fn ei (hs ei (List.mem_of_getElem? hei))) rfl (.cons (.agg (.cons (.r .r) (.cons (.r .r) (.cons (.r .r) (.nil))))) (.nil)) fun g3 => ?_
  refine RW.v rfl (V.indexW rfl rfl rfl rfl rfl rfl rfl (by simp; omega)) ?_
  refine RW.storeS (v := ei) rfl rfl rfl rfl rfl rfl rfl (DW.v (DW.v (DW.v DW.e))) Entry.len (by decide) (by simp; omega) rfl ?_
  refine RW.nil ?_
  refine CW.keep 23 [0,3,4] rfl ?_;(conv=>whnf);refine ⟨?_⟩
  refine CW.region ?_
  refine RW.k XK 23 1 rfl ?_
  (conv=>whnf);refine ⟨rfl,?_⟩
  refine RW.v rfl (V.inc rfl rfl rfl hii hl0) ?_
  refine RW.k XK 23 1 rfl ?_
  (conv=>whnf);refine ⟨rfl,?_⟩
  refine RW.nil ?_
  exact ⟨i + 1, by omega, by omega, rfl, Le.c rfl <| Le.c (congrArg (fun l => D.w (sl _ Entry.c l) X1) (take_set hei)) <| Le.c rfl <| Le.e⟩
 ·skip
  have hii : a.length ≤ i := by have := h2; simp at this; first | exact this | omega | (simp; done) | (simp; omega)
  have hdi : a.drop i = [] := List.drop_eq_nil_of_le hii
  refine CW.exit ?_
  refine CW.keep 23 [3] rfl ?_;(conv=>whnf);refine ⟨?_⟩
  refine CW.seq ?_
  refine CW.region ?_
  refine RW.k XK 23 2 rfl ?_
  (conv=>whnf);refine ⟨rfl,?_⟩
  refine RW.pullS 2 3 (by decide) rfl rfl ?_
  refine RW.nil ?_
  refine CW.keep 23 [2] rfl ?_;(conv=>whnf);refine ⟨?_⟩
  refine CW.ret ?_
  exact Post.one (RV.w rfl (by rw [List.take_of_length_le hii, show a.length - i = 0 from by omega]; simp)) (AOs.r AOs.e)
set_option maxHeartbeats 4000000 in
theorem laws_toLog_fn (a : Log) (hs : okToLog a) : Eng.Fn E.P 82 [.agg ((Log.c a).map .r)] (.one (.agg ((Log.c a).map .w))) [.agg ((Log.c a).map .r)] := by
 refine Eng.Fn.intro (E := E) (rvs := [.cell 2 47]) Tryz.func82 rfl rfl rfl (by simp [outSlots, moved, rvSlot, sl]) ?_
 intro B g bo
 refine CW.keep 15 [0] rfl ?_;(conv=>whnf);refine ⟨?_⟩
 refine CW.seq ?_
 refine CW.region ?_
 refine RW.k XK 15 1 rfl ?_
 (conv=>whnf);intro b1;(conv=>whnf);refine ⟨rfl,?_⟩
 refine RW.freezeB (ts := (Log.c a)) 1 rfl (DRd.r (DRd.r (DRd.r DRd.e))) ?_
 refine RW.k XK 15 1 rfl ?_
 (conv=>whnf);intro b2;(conv=>whnf);refine ⟨rfl,?_⟩
 refine RW.nil ?_
 refine CW.keep 15 [1,2] rfl ?_;(conv=>whnf);refine ⟨?_⟩
 refine CW.k XK 15 3 [1,2,3] rfl ?_
 (conv=>whnf);intro b3;(conv=>whnf);refine ⟨rfl,?_⟩
 refine CW.seq ?_
 refine CW.region ?_
 refine RW.k XK 15 2 rfl ?_
 (conv=>whnf);refine ⟨rfl,?_⟩
 refine RW.call rfl (laws_toEntryS_fn a.entries hs.1 hs.2) rfl (.cons (.one (.r .r)) (.nil)) fun g4 => ?_
 refine RW.k XK 15 2 rfl ?_
 (conv=>whnf);refine ⟨rfl,?_⟩
 refine RW.keep 15 [2,3,12] rfl ?_;(conv=>whnf);refine ⟨?_⟩
 refine RW.pullT (k := 3) (l := 12) (j := 2) 3 12 2 rfl rfl rfl (by decide) rfl rfl rfl ?_
 refine RW.keep 15 [2,3] rfl ?_;(conv=>whnf);refine ⟨?_⟩
 refine RW.nil ?_
 refine CW.keep 15 [2,3] rfl ?_;(conv=>whnf);refine ⟨?_⟩
 refine CW.seq ?_
 refine CW.region ?_
 refine RW.k XK 15 2 rfl ?_
 (conv=>whnf);refine ⟨rfl,?_⟩
 refine RW.keep 15 [2,3] rfl ?_;(conv=>whnf);refine ⟨?_⟩
 refine RW.pullO (k := 2) (l := 3) (j := 2) 2 3 2 rfl rfl rfl (by decide) rfl rfl rfl rfl ?_
 refine RW.keep 15 [2] rfl ?_;(conv=>whnf);refine ⟨?_⟩
 refine RW.nil ?_
 refine CW.keep 15 [2] rfl ?_;(conv=>whnf);refine ⟨?_⟩
 refine CW.ret ?_
 exact Post.one (RV.c (f := fun e => (Log.c e).map .w) (e' := a) rfl rfl rfl rfl (DT.v (DT.v (DT.w DT.e))) (by simp_all)) (AOs.a rfl AOs.e)
set_option maxHeartbeats 4000000 in
theorem laws_toPeer_fn (a : Peer) : Eng.Fn E.P 153 [.agg ((Peer.c a).map .r)] (.one (.agg ((Peer.c a).map .w))) [.agg ((Peer.c a).map .r)] := by
 refine Eng.Fn.intro (E := E) (rvs := [.cell 2 225]) Tryz.func153 rfl rfl rfl (by simp [outSlots, moved, rvSlot, sl]) ?_
 intro B g bo
 refine CW.keep 17 [0] rfl ?_;(conv=>whnf);refine ⟨?_⟩
 refine CW.seq ?_
 refine CW.region ?_
 refine RW.k XK 17 1 rfl ?_
 (conv=>whnf);intro b1;(conv=>whnf);refine ⟨rfl,?_⟩
 refine RW.freezeB (ts := (Peer.c a)) 1 rfl (DRd.r (DRd.r (DRd.r (DRd.r DRd.e)))) ?_
 refine RW.k XK 17 1 rfl ?_
 (conv=>whnf);intro b2;(conv=>whnf);refine ⟨rfl,?_⟩
 refine RW.nil ?_
 refine CW.keep 17 [1,2] rfl ?_;(conv=>whnf);refine ⟨?_⟩
 refine CW.k XK 17 6 [2] rfl ?_
 (conv=>whnf);intro b3;(conv=>whnf);refine ⟨rfl,?_⟩
 refine CW.ret ?_
 exact Post.one (RV.c (f := fun e => (Peer.c e).map .w) (e' := a) rfl rfl rfl rfl (DT.v (DT.v (DT.v (DT.v DT.e)))) (by simp_all)) (AOs.a rfl AOs.e)
set_option maxHeartbeats 4000000 in
theorem laws_toPeerS_fn (a : List Peer) (hm : a.length ≤ 1048576) : Eng.Fn E.P 83 [.one (.r (sl 4 Peer.c a))] (.one (.one (.w (sl 4 Peer.c a)))) [.one (.r (sl 4 Peer.c a))] := by
 refine Eng.Fn.intro (E := E) (rvs := [.tmp 2]) Tryz.func83 rfl rfl rfl (by simp [outSlots, moved, rvSlot, sl]) ?_
 intro B g bo
 refine CW.bound (x := .tmp 0) (n := a.length) (AsT.r) (fun hl0 => ?_)
 refine CW.keep 23 [0] rfl ?_;(conv=>whnf);refine ⟨?_⟩
 refine CW.k XK 23 1 [0] rfl ?_
 (conv=>whnf);refine ⟨rfl,?_⟩
 refine CW.seq ?_
 refine CW.region ?_
 refine RW.k XK 23 2 rfl ?_
 (conv=>whnf);refine ⟨rfl,?_⟩
 refine RW.makeS (n := a.length) (c := Peer.c) Peer.z rfl rfl rfl rfl rfl rfl rfl rfl (ZT.v (ZT.v (ZT.v (ZT.v ZT.e)))) (by show 32 * a.length ≤ 281474976710656; omega) (by simp only [maxLen]; omega) fun X1 => ?_
 refine RW.assignMove rfl rfl rfl (by decide) (Nat.le_of_ble_eq_true rfl) (Nat.le_of_ble_eq_true rfl) ?_
 refine RW.nil ?_
 refine CW.keep 23 [0,3] rfl ?_;(conv=>whnf);refine ⟨?_⟩
 refine CW.seq ?_
 refine CW.k XK 23 1 [0,3,4] rfl ?_
 (conv=>whnf);refine ⟨rfl,?_⟩
 refine CW.block ?_
 refine CW.loopI 23 (fun (i : Nat) => [(0, .r (sl 4 Peer.c a)), (3, .w (sl 4 Peer.c (a.take i ++ List.replicate (a.length - i) Peer.z)) X1), (4, I (i : Int))]) (fun (i : Nat) => i ≤ a.length) (fun (i : Nat) => a.length - i) 0 rfl (Le.c rfl <| Le.c rfl <| Le.c rfl <| Le.e) (by omega) ?_
 rintro i hb
 refine CW.seq ?_
 refine CW.k XK 23 1 [0,3,4,11] rfl ?_
 (conv=>whnf);refine ⟨rfl,?_⟩
 refine CW.cond rfl (fun h2 => ?_) (fun h2 => ?_)
 ·skip
  have hii : i < a.length := by have := h2; simp at this; first | exact this | omega | (simp; done) | (simp; omega)
  obtain ⟨ei, hei⟩ : ∃ e, a[i]? = some e := ⟨_, List.getElem?_eq_getElem hii⟩
  have hdi := drop_get hei
  refine CW.skip ?_
  refine CW.keep 23 [0,3,4] rfl ?_;(conv=>whnf);refine ⟨?_⟩
  refine CW.seq ?_
  refine CW.block ?_
  refine CW.region ?_
  refine RW.k XK 23 4 rfl ?_
  (conv=>whnf);refine ⟨rfl,?_⟩
  refine RW.v rfl (V.indexS rfl rfl rfl rfl rfl rfl Peer.len hei) ?_
  refine RW.k XK 23 1 rfl ?_
  (conv=>whnf);refine ⟨rfl,?_⟩
  refine RW.call rfl (laws_toPeer_fn ei) rfl (.cons (.agg (.cons (.r .r) (.cons (.r .r) (.cons (.r .r) (.cons (.r .r) (.nil)))))) (.nil)) fun g3 => ?_
  refine RW.v rfl (V.indexW rfl rfl rfl rfl rfl rfl rfl (by simp; omega)) ?_
  refine RW.storeS (v := ei) rfl rfl rfl rfl rfl rfl rfl (DW.v (DW.v (DW.v (DW.v DW.e)))) Peer.len (by decide) (by simp; omega) rfl ?_
  refine RW.nil ?_
  refine CW.keep 23 [0,3,4] rfl ?_;(conv=>whnf);refine ⟨?_⟩
  refine CW.region ?_
  refine RW.k XK 23 1 rfl ?_
  (conv=>whnf);refine ⟨rfl,?_⟩
  refine RW.v rfl (V.inc rfl rfl rfl hii hl0) ?_
  refine RW.k XK 23 1 rfl ?_
  (conv=>whnf);refine ⟨rfl,?_⟩
  refine RW.nil ?_
  exact ⟨i + 1, by omega, by omega, rfl, Le.c rfl <| Le.c (congrArg (fun l => D.w (sl _ Peer.c l) X1) (take_set hei)) <| Le.c rfl <| Le.e⟩
 ·skip
  have hii : a.length ≤ i := by have := h2; simp at this; first | exact this | omega | (simp; done) | (simp; omega)
  have hdi : a.drop i = [] := List.drop_eq_nil_of_le hii
  refine CW.exit ?_
  refine CW.keep 23 [3] rfl ?_;(conv=>whnf);refine ⟨?_⟩
  refine CW.seq ?_
  refine CW.region ?_
  refine RW.k XK 23 2 rfl ?_
  (conv=>whnf);refine ⟨rfl,?_⟩
  refine RW.pullS 2 3 (by decide) rfl rfl ?_
  refine RW.nil ?_
  refine CW.keep 23 [2] rfl ?_;(conv=>whnf);refine ⟨?_⟩
  refine CW.ret ?_
  exact Post.one (RV.w rfl (by rw [List.take_of_length_le hii, show a.length - i = 0 from by omega]; simp)) (AOs.r AOs.e)
set_option maxHeartbeats 4000000 in
theorem laws_toNode_fn (a : Node) (hs : okToNode a) : Eng.Fn E.P 27 [.agg ((Node.c a).map .r)] (.one (.agg ((Node.c a).map .w))) [.agg ((Node.c a).map .r)] := by
 refine Eng.Fn.intro (E := E) (rvs := [.cell 2 50]) Tryz.func27 rfl rfl rfl (by simp [outSlots, moved, rvSlot, sl]) ?_
 intro B g bo
 refine CW.keep 45 [0] rfl ?_;(conv=>whnf);refine ⟨?_⟩
 refine CW.seq ?_
 refine CW.region ?_
 refine RW.k XK 45 1 rfl ?_
 (conv=>whnf);intro b1;(conv=>whnf);refine ⟨rfl,?_⟩
 refine RW.freezeB (ts := (Node.c a)) 1 rfl (DRd.r (DRd.r (DRd.r (DRd.r (DRd.r (DRd.r (DRd.r (DRd.r (DRd.r (DRd.r (DRd.r (DRd.r (DRd.r (DRd.r DRd.e)))))))))))))) ?_
 refine RW.k XK 45 1 rfl ?_
 (conv=>whnf);intro b2;(conv=>whnf);refine ⟨rfl,?_⟩
 refine RW.nil ?_
 refine CW.keep 45 [1,2] rfl ?_;(conv=>whnf);refine ⟨?_⟩
 refine CW.k XK 45 6 [1,2,3] rfl ?_
 (conv=>whnf);intro b3;(conv=>whnf);refine ⟨rfl,?_⟩
 refine CW.seq ?_
 refine CW.region ?_
 refine RW.k XK 45 2 rfl ?_
 (conv=>whnf);refine ⟨rfl,?_⟩
 refine RW.call rfl (laws_toIntS_fn a.conf hs.1.1) rfl (.cons (.one (.r .r)) (.nil)) fun g4 => ?_
 refine RW.k XK 45 2 rfl ?_
 (conv=>whnf);refine ⟨rfl,?_⟩
 refine RW.keep 45 [1,2,3,21] rfl ?_;(conv=>whnf);refine ⟨?_⟩
 refine RW.pullT (k := 3) (l := 21) (j := 5) 3 21 5 rfl rfl rfl (by decide) rfl rfl rfl ?_
 refine RW.keep 45 [1,2,3] rfl ?_;(conv=>whnf);refine ⟨?_⟩
 refine RW.nil ?_
 refine CW.keep 45 [1,2,3] rfl ?_;(conv=>whnf);refine ⟨?_⟩
 refine CW.seq ?_
 refine CW.region ?_
 refine RW.k XK 45 2 rfl ?_
 (conv=>whnf);refine ⟨rfl,?_⟩
 refine RW.call rfl (laws_toLog_fn a.log hs.2.1) rfl (.cons (.agg (.cons (.r .r) (.cons (.r .r) (.cons (.r .r) (.nil))))) (.nil)) fun g5 => ?_
 refine RW.k XK 45 2 rfl ?_
 (conv=>whnf);refine ⟨rfl,?_⟩
 refine RW.keep 45 [1,2,3,25] rfl ?_;(conv=>whnf);refine ⟨?_⟩
 refine RW.pullA (k := 3) (l := 25) (j := 8) 3 25 8 rfl rfl rfl (by decide) rfl rfl rfl rfl ?_
 refine RW.keep 45 [1,2,3] rfl ?_;(conv=>whnf);refine ⟨?_⟩
 refine RW.nil ?_
 refine CW.keep 45 [1,2,3] rfl ?_;(conv=>whnf);refine ⟨?_⟩
 refine CW.k XK 45 3 [1,2,3] rfl ?_
 (conv=>whnf);refine ⟨rfl,?_⟩
 refine CW.seq ?_
 refine CW.region ?_
 refine RW.k XK 45 2 rfl ?_
 (conv=>whnf);refine ⟨rfl,?_⟩
 refine RW.call rfl (laws_toIntS_fn a.votes hs.2.2.1.1) rfl (.cons (.one (.r .r)) (.nil)) fun g6 => ?_
 refine RW.k XK 45 2 rfl ?_
 (conv=>whnf);refine ⟨rfl,?_⟩
 refine RW.keep 45 [1,2,3,38] rfl ?_;(conv=>whnf);refine ⟨?_⟩
 refine RW.pullT (k := 3) (l := 38) (j := 12) 3 38 12 rfl rfl rfl (by decide) rfl rfl rfl ?_
 refine RW.keep 45 [1,2,3] rfl ?_;(conv=>whnf);refine ⟨?_⟩
 refine RW.nil ?_
 refine CW.keep 45 [1,2,3] rfl ?_;(conv=>whnf);refine ⟨?_⟩
 refine CW.seq ?_
 refine CW.region ?_
 refine RW.k XK 45 2 rfl ?_
 (conv=>whnf);refine ⟨rfl,?_⟩
 refine RW.call rfl (laws_toPeerS_fn a.peers hs.2.2.2.1) rfl (.cons (.one (.r .r)) (.nil)) fun g7 => ?_
 refine RW.k XK 45 2 rfl ?_
 (conv=>whnf);refine ⟨rfl,?_⟩
 refine RW.keep 45 [2,3,42] rfl ?_;(conv=>whnf);refine ⟨?_⟩
 refine RW.pullT (k := 3) (l := 42) (j := 13) 3 42 13 rfl rfl rfl (by decide) rfl rfl rfl ?_
 refine RW.keep 45 [2,3] rfl ?_;(conv=>whnf);refine ⟨?_⟩
 refine RW.nil ?_
 refine CW.keep 45 [2,3] rfl ?_;(conv=>whnf);refine ⟨?_⟩
 refine CW.seq ?_
 refine CW.region ?_
 refine RW.k XK 45 2 rfl ?_
 (conv=>whnf);refine ⟨rfl,?_⟩
 refine RW.keep 45 [2,3] rfl ?_;(conv=>whnf);refine ⟨?_⟩
 refine RW.pullO (k := 2) (l := 3) (j := 5) 2 3 5 rfl rfl rfl (by decide) rfl rfl rfl rfl ?_
 refine RW.keep 45 [2,3] rfl ?_;(conv=>whnf);refine ⟨?_⟩
 refine RW.pullO (k := 2) (l := 3) (j := 8) 2 3 8 rfl rfl rfl (by decide) rfl rfl rfl rfl ?_
 refine RW.keep 45 [2,3] rfl ?_;(conv=>whnf);refine ⟨?_⟩
 refine RW.pullO (k := 2) (l := 3) (j := 12) 2 3 12 rfl rfl rfl (by decide) rfl rfl rfl rfl ?_
 refine RW.keep 45 [2,3] rfl ?_;(conv=>whnf);refine ⟨?_⟩
 refine RW.pullO (k := 2) (l := 3) (j := 13) 2 3 13 rfl rfl rfl (by decide) rfl rfl rfl rfl ?_
 refine RW.keep 45 [2] rfl ?_;(conv=>whnf);refine ⟨?_⟩
 refine RW.nil ?_
 refine CW.keep 45 [2] rfl ?_;(conv=>whnf);refine ⟨?_⟩
 refine CW.ret ?_
 exact Post.one (RV.c (f := fun e => (Node.c e).map .w) (e' := a) rfl rfl rfl rfl (DT.v (DT.v (DT.v (DT.v (DT.v (DT.w (DT.v (DT.v (DT.w (DT.v (DT.v (DT.v (DT.w (DT.w DT.e)))))))))))))) (by simp_all)) (AOs.a rfl AOs.e)
set_option maxHeartbeats 4000000 in
theorem laws_toFile_fn (a : File) (hs : okToFile a) : Eng.Fn E.P 154 [.agg ((File.c a).map .r)] (.one (.agg ((File.c a).map .w))) [.agg ((File.c a).map .r)] := by
 refine Eng.Fn.intro (E := E) (rvs := [.cell 2 108]) Tryz.func154 rfl rfl rfl (by simp [outSlots, moved, rvSlot, sl]) ?_
 intro B g bo
 refine CW.keep 14 [0] rfl ?_;(conv=>whnf);refine ⟨?_⟩
 refine CW.seq ?_
 refine CW.region ?_
 refine RW.k XK 14 1 rfl ?_
 (conv=>whnf);intro b1;(conv=>whnf);refine ⟨rfl,?_⟩
 refine RW.freezeB (ts := (File.c a)) 1 rfl (DRd.r (DRd.r (DRd.r DRd.e))) ?_
 refine RW.k XK 14 1 rfl ?_
 (conv=>whnf);intro b2;(conv=>whnf);refine ⟨rfl,?_⟩
 refine RW.nil ?_
 refine CW.keep 14 [1,2] rfl ?_;(conv=>whnf);refine ⟨?_⟩
 refine CW.k XK 14 5 [2] rfl ?_
 (conv=>whnf);intro b3;(conv=>whnf);refine ⟨rfl,?_⟩
 refine CW.ret ?_
 exact Post.one (RV.c (f := fun e => (File.c e).map .w) (e' := a) rfl rfl rfl rfl (DT.v (DT.v (DT.v DT.e))) (by simp_all)) (AOs.a rfl AOs.e)
set_option maxHeartbeats 4000000 in
theorem laws_toFileS_fn (a : List File) (hm : a.length ≤ 1048576) (hs : ∀ x ∈ a, okToFile x) : Eng.Fn E.P 84 [.one (.r (sl 3 File.c a))] (.one (.one (.w (sl 3 File.c a)))) [.one (.r (sl 3 File.c a))] := by
 refine Eng.Fn.intro (E := E) (rvs := [.tmp 2]) Tryz.func84 rfl rfl rfl (by simp [outSlots, moved, rvSlot, sl]) ?_
 intro B g bo
 refine CW.bound (x := .tmp 0) (n := a.length) (AsT.r) (fun hl0 => ?_)
 refine CW.keep 23 [0] rfl ?_;(conv=>whnf);refine ⟨?_⟩
 refine CW.k XK 23 1 [0] rfl ?_
 (conv=>whnf);refine ⟨rfl,?_⟩
 refine CW.seq ?_
 refine CW.region ?_
 refine RW.k XK 23 2 rfl ?_
 (conv=>whnf);refine ⟨rfl,?_⟩
 refine RW.makeS (n := a.length) (c := File.c) File.z rfl rfl rfl rfl rfl rfl rfl rfl (ZT.v (ZT.v (ZT.v ZT.e))) (by show 40 * a.length ≤ 281474976710656; omega) (by simp only [maxLen]; omega) fun X1 => ?_
 refine RW.assignMove rfl rfl rfl (by decide) (Nat.le_of_ble_eq_true rfl) (Nat.le_of_ble_eq_true rfl) ?_
 refine RW.nil ?_
 refine CW.keep 23 [0,3] rfl ?_;(conv=>whnf);refine ⟨?_⟩
 refine CW.seq ?_
 refine CW.k XK 23 1 [0,3,4] rfl ?_
 (conv=>whnf);refine ⟨rfl,?_⟩
 refine CW.block ?_
 refine CW.loopI 23 (fun (i : Nat) => [(0, .r (sl 3 File.c a)), (3, .w (sl 3 File.c (a.take i ++ List.replicate (a.length - i) File.z)) X1), (4, I (i : Int))]) (fun (i : Nat) => i ≤ a.length) (fun (i : Nat) => a.length - i) 0 rfl (Le.c rfl <| Le.c rfl <| Le.c rfl <| Le.e) (by omega) ?_
 rintro i hb
 refine CW.seq ?_
 refine CW.k XK 23 1 [0,3,4,11] rfl ?_
 (conv=>whnf);refine ⟨rfl,?_⟩
 refine CW.cond rfl (fun h2 => ?_) (fun h2 => ?_)
 ·skip
  have hii : i < a.length := by have := h2; simp at this; first | exact this | omega | (simp; done) | (simp; omega)
  obtain ⟨ei, hei⟩ : ∃ e, a[i]? = some e := ⟨_, List.getElem?_eq_getElem hii⟩
  have hdi := drop_get hei
  refine CW.skip ?_
  refine CW.keep 23 [0,3,4] rfl ?_;(conv=>whnf);refine ⟨?_⟩
  refine CW.seq ?_
  refine CW.block ?_
  refine CW.region ?_
  refine RW.k XK 23 4 rfl ?_
  (conv=>whnf);refine ⟨rfl,?_⟩
  refine RW.v rfl (V.indexS rfl rfl rfl rfl rfl rfl File.len hei) ?_
  refine RW.k XK 23 1 rfl ?_
  (conv=>whnf);refine ⟨rfl,?_⟩
  refine RW.call rfl (laws_toFile_fn ei (hs ei (List.mem_of_getElem? hei))) rfl (.cons (.agg (.cons (.r .r) (.cons (.r .r) (.cons (.r .r) (.nil))))) (.nil)) fun g3 => ?_
  refine RW.v rfl (V.indexW rfl rfl rfl rfl rfl rfl rfl (by simp; omega)) ?_
  refine RW.storeS (v := ei) rfl rfl rfl rfl rfl rfl rfl (DW.v (DW.v (DW.v DW.e))) File.len (by decide) (by simp; omega) rfl ?_
  refine RW.nil ?_
  refine CW.keep 23 [0,3,4] rfl ?_;(conv=>whnf);refine ⟨?_⟩
  refine CW.region ?_
  refine RW.k XK 23 1 rfl ?_
  (conv=>whnf);refine ⟨rfl,?_⟩
  refine RW.v rfl (V.inc rfl rfl rfl hii hl0) ?_
  refine RW.k XK 23 1 rfl ?_
  (conv=>whnf);refine ⟨rfl,?_⟩
  refine RW.nil ?_
  exact ⟨i + 1, by omega, by omega, rfl, Le.c rfl <| Le.c (congrArg (fun l => D.w (sl _ File.c l) X1) (take_set hei)) <| Le.c rfl <| Le.e⟩
 ·skip
  have hii : a.length ≤ i := by have := h2; simp at this; first | exact this | omega | (simp; done) | (simp; omega)
  have hdi : a.drop i = [] := List.drop_eq_nil_of_le hii
  refine CW.exit ?_
  refine CW.keep 23 [3] rfl ?_;(conv=>whnf);refine ⟨?_⟩
  refine CW.seq ?_
  refine CW.region ?_
  refine RW.k XK 23 2 rfl ?_
  (conv=>whnf);refine ⟨rfl,?_⟩
  refine RW.pullS 2 3 (by decide) rfl rfl ?_
  refine RW.nil ?_
  refine CW.keep 23 [2] rfl ?_;(conv=>whnf);refine ⟨?_⟩
  refine CW.ret ?_
  exact Post.one (RV.w rfl (by rw [List.take_of_length_le hii, show a.length - i = 0 from by omega]; simp)) (AOs.r AOs.e)
set_option maxHeartbeats 4000000 in
theorem laws_toDisk_fn (a : Disk) (hs : okToDisk a) : Eng.Fn E.P 28 [.agg ((Disk.c a).map .r)] (.one (.agg ((Disk.c a).map .w))) [.agg ((Disk.c a).map .r)] := by
 refine Eng.Fn.intro (E := E) (rvs := [.cell 2 53]) Tryz.func28 rfl rfl rfl (by simp [outSlots, moved, rvSlot, sl]) ?_
 intro B g bo
 refine CW.keep 9 [0] rfl ?_;(conv=>whnf);refine ⟨?_⟩
 refine CW.seq ?_
 refine CW.region ?_
 refine RW.k XK 9 1 rfl ?_
 (conv=>whnf);intro b1;(conv=>whnf);refine ⟨rfl,?_⟩
 refine RW.freezeB (ts := (Disk.c a)) 1 rfl (DRd.r DRd.e) ?_
 refine RW.k XK 9 1 rfl ?_
 (conv=>whnf);intro b2;(conv=>whnf);refine ⟨rfl,?_⟩
 refine RW.nil ?_
 refine CW.keep 9 [1,2] rfl ?_;(conv=>whnf);refine ⟨?_⟩
 refine CW.k XK 9 1 [1,2,3] rfl ?_
 (conv=>whnf);intro b3;(conv=>whnf);refine ⟨rfl,?_⟩
 refine CW.seq ?_
 refine CW.region ?_
 refine RW.k XK 9 2 rfl ?_
 (conv=>whnf);refine ⟨rfl,?_⟩
 refine RW.call rfl (laws_toFileS_fn a.files hs.1 hs.2) rfl (.cons (.one (.r .r)) (.nil)) fun g4 => ?_
 refine RW.k XK 9 2 rfl ?_
 (conv=>whnf);refine ⟨rfl,?_⟩
 refine RW.keep 9 [2,3,6] rfl ?_;(conv=>whnf);refine ⟨?_⟩
 refine RW.pullT (k := 3) (l := 6) (j := 0) 3 6 0 rfl rfl rfl (by decide) rfl rfl rfl ?_
 refine RW.keep 9 [2,3] rfl ?_;(conv=>whnf);refine ⟨?_⟩
 refine RW.nil ?_
 refine CW.keep 9 [2,3] rfl ?_;(conv=>whnf);refine ⟨?_⟩
 refine CW.seq ?_
 refine CW.region ?_
 refine RW.k XK 9 2 rfl ?_
 (conv=>whnf);refine ⟨rfl,?_⟩
 refine RW.keep 9 [2,3] rfl ?_;(conv=>whnf);refine ⟨?_⟩
 refine RW.pullO (k := 2) (l := 3) (j := 0) 2 3 0 rfl rfl rfl (by decide) rfl rfl rfl rfl ?_
 refine RW.keep 9 [2] rfl ?_;(conv=>whnf);refine ⟨?_⟩
 refine RW.nil ?_
 refine CW.keep 9 [2] rfl ?_;(conv=>whnf);refine ⟨?_⟩
 refine CW.ret ?_
 exact Post.one (RV.c (f := fun e => (Disk.c e).map .w) (e' := a) rfl rfl rfl rfl (DT.w DT.e) (by simp_all)) (AOs.a rfl AOs.e)
set_option maxHeartbeats 4000000 in
theorem laws_toJournal_fn (a : Journal) (hs : okToJournal a) : Eng.Fn E.P 29 [.agg ((Journal.c a).map .r)] (.one (.agg ((Journal.c a).map .w))) [.agg ((Journal.c a).map .r)] := by
 refine Eng.Fn.intro (E := E) (rvs := [.cell 2 55]) Tryz.func29 rfl rfl rfl (by simp [outSlots, moved, rvSlot, sl]) ?_
 intro B g bo
 refine CW.keep 18 [0] rfl ?_;(conv=>whnf);refine ⟨?_⟩
 refine CW.seq ?_
 refine CW.region ?_
 refine RW.k XK 18 1 rfl ?_
 (conv=>whnf);intro b1;(conv=>whnf);refine ⟨rfl,?_⟩
 refine RW.freezeB (ts := (Journal.c a)) 1 rfl (DRd.r (DRd.r (DRd.r (DRd.r (DRd.r (DRd.r DRd.e)))))) ?_
 refine RW.k XK 18 1 rfl ?_
 (conv=>whnf);intro b2;(conv=>whnf);refine ⟨rfl,?_⟩
 refine RW.nil ?_
 refine CW.keep 18 [1,2] rfl ?_;(conv=>whnf);refine ⟨?_⟩
 refine CW.k XK 18 4 [1,2,3] rfl ?_
 (conv=>whnf);intro b3;(conv=>whnf);refine ⟨rfl,?_⟩
 refine CW.seq ?_
 refine CW.region ?_
 refine RW.k XK 18 2 rfl ?_
 (conv=>whnf);refine ⟨rfl,?_⟩
 refine RW.call rfl (laws_toLog_fn a.log hs) rfl (.cons (.agg (.cons (.r .r) (.cons (.r .r) (.cons (.r .r) (.nil))))) (.nil)) fun g4 => ?_
 refine RW.k XK 18 2 rfl ?_
 (conv=>whnf);refine ⟨rfl,?_⟩
 refine RW.keep 18 [2,3,15] rfl ?_;(conv=>whnf);refine ⟨?_⟩
 refine RW.pullA (k := 3) (l := 15) (j := 5) 3 15 5 rfl rfl rfl (by decide) rfl rfl rfl rfl ?_
 refine RW.keep 18 [2,3] rfl ?_;(conv=>whnf);refine ⟨?_⟩
 refine RW.nil ?_
 refine CW.keep 18 [2,3] rfl ?_;(conv=>whnf);refine ⟨?_⟩
 refine CW.seq ?_
 refine CW.region ?_
 refine RW.k XK 18 2 rfl ?_
 (conv=>whnf);refine ⟨rfl,?_⟩
 refine RW.keep 18 [2,3] rfl ?_;(conv=>whnf);refine ⟨?_⟩
 refine RW.pullO (k := 2) (l := 3) (j := 5) 2 3 5 rfl rfl rfl (by decide) rfl rfl rfl rfl ?_
 refine RW.keep 18 [2] rfl ?_;(conv=>whnf);refine ⟨?_⟩
 refine RW.nil ?_
 refine CW.keep 18 [2] rfl ?_;(conv=>whnf);refine ⟨?_⟩
 refine CW.ret ?_
 exact Post.one (RV.c (f := fun e => (Journal.c e).map .w) (e' := a) rfl rfl rfl rfl (DT.v (DT.v (DT.v (DT.v (DT.v (DT.w DT.e)))))) (by simp_all)) (AOs.a rfl AOs.e)
set_option maxHeartbeats 4000000 in
theorem laws_toSession_fn (a : Session) (hs : okToSession a) : Eng.Fn E.P 155 [.agg ((Session.c a).map .r)] (.one (.agg ((Session.c a).map .w))) [.agg ((Session.c a).map .r)] := by
 refine Eng.Fn.intro (E := E) (rvs := [.cell 2 169]) Tryz.func155 rfl rfl rfl (by simp [outSlots, moved, rvSlot, sl]) ?_
 intro B g bo
 refine CW.keep 14 [0] rfl ?_;(conv=>whnf);refine ⟨?_⟩
 refine CW.seq ?_
 refine CW.region ?_
 refine RW.k XK 14 1 rfl ?_
 (conv=>whnf);intro b1;(conv=>whnf);refine ⟨rfl,?_⟩
 refine RW.freezeB (ts := (Session.c a)) 1 rfl (DRd.r (DRd.r (DRd.r DRd.e))) ?_
 refine RW.k XK 14 1 rfl ?_
 (conv=>whnf);intro b2;(conv=>whnf);refine ⟨rfl,?_⟩
 refine RW.nil ?_
 refine CW.keep 14 [1,2] rfl ?_;(conv=>whnf);refine ⟨?_⟩
 refine CW.k XK 14 5 [2] rfl ?_
 (conv=>whnf);intro b3;(conv=>whnf);refine ⟨rfl,?_⟩
 refine CW.ret ?_
 exact Post.one (RV.c (f := fun e => (Session.c e).map .w) (e' := a) rfl rfl rfl rfl (DT.v (DT.v (DT.v DT.e))) (by simp_all)) (AOs.a rfl AOs.e)
set_option maxHeartbeats 4000000 in
theorem laws_toSessionS_fn (a : List Session) (hm : a.length ≤ 1048576) (hs : ∀ x ∈ a, okToSession x) : Eng.Fn E.P 85 [.one (.r (sl 3 Session.c a))] (.one (.one (.w (sl 3 Session.c a)))) [.one (.r (sl 3 Session.c a))] := by
 refine Eng.Fn.intro (E := E) (rvs := [.tmp 2]) Tryz.func85 rfl rfl rfl (by simp [outSlots, moved, rvSlot, sl]) ?_
 intro B g bo
 refine CW.bound (x := .tmp 0) (n := a.length) (AsT.r) (fun hl0 => ?_)
 refine CW.keep 23 [0] rfl ?_;(conv=>whnf);refine ⟨?_⟩
 refine CW.k XK 23 1 [0] rfl ?_
 (conv=>whnf);refine ⟨rfl,?_⟩
 refine CW.seq ?_
 refine CW.region ?_
 refine RW.k XK 23 2 rfl ?_
 (conv=>whnf);refine ⟨rfl,?_⟩
 refine RW.makeS (n := a.length) (c := Session.c) Session.z rfl rfl rfl rfl rfl rfl rfl rfl (ZT.v (ZT.v (ZT.v ZT.e))) (by show 32 * a.length ≤ 281474976710656; omega) (by simp only [maxLen]; omega) fun X1 => ?_
 refine RW.assignMove rfl rfl rfl (by decide) (Nat.le_of_ble_eq_true rfl) (Nat.le_of_ble_eq_true rfl) ?_
 refine RW.nil ?_
 refine CW.keep 23 [0,3] rfl ?_;(conv=>whnf);refine ⟨?_⟩
 refine CW.seq ?_
 refine CW.k XK 23 1 [0,3,4] rfl ?_
 (conv=>whnf);refine ⟨rfl,?_⟩
 refine CW.block ?_
 refine CW.loopI 23 (fun (i : Nat) => [(0, .r (sl 3 Session.c a)), (3, .w (sl 3 Session.c (a.take i ++ List.replicate (a.length - i) Session.z)) X1), (4, I (i : Int))]) (fun (i : Nat) => i ≤ a.length) (fun (i : Nat) => a.length - i) 0 rfl (Le.c rfl <| Le.c rfl <| Le.c rfl <| Le.e) (by omega) ?_
 rintro i hb
 refine CW.seq ?_
 refine CW.k XK 23 1 [0,3,4,11] rfl ?_
 (conv=>whnf);refine ⟨rfl,?_⟩
 refine CW.cond rfl (fun h2 => ?_) (fun h2 => ?_)
 ·skip
  have hii : i < a.length := by have := h2; simp at this; first | exact this | omega | (simp; done) | (simp; omega)
  obtain ⟨ei, hei⟩ : ∃ e, a[i]? = some e := ⟨_, List.getElem?_eq_getElem hii⟩
  have hdi := drop_get hei
  refine CW.skip ?_
  refine CW.keep 23 [0,3,4] rfl ?_;(conv=>whnf);refine ⟨?_⟩
  refine CW.seq ?_
  refine CW.block ?_
  refine CW.region ?_
  refine RW.k XK 23 4 rfl ?_
  (conv=>whnf);refine ⟨rfl,?_⟩
  refine RW.v rfl (V.indexS rfl rfl rfl rfl rfl rfl Session.len hei) ?_
  refine RW.k XK 23 1 rfl ?_
  (conv=>whnf);refine ⟨rfl,?_⟩
  refine RW.call rfl (laws_toSession_fn ei (hs ei (List.mem_of_getElem? hei))) rfl (.cons (.agg (.cons (.r .r) (.cons (.r .r) (.cons (.r .r) (.nil))))) (.nil)) fun g3 => ?_
  refine RW.v rfl (V.indexW rfl rfl rfl rfl rfl rfl rfl (by simp; omega)) ?_
  refine RW.storeS (v := ei) rfl rfl rfl rfl rfl rfl rfl (DW.v (DW.v (DW.v DW.e))) Session.len (by decide) (by simp; omega) rfl ?_
  refine RW.nil ?_
  refine CW.keep 23 [0,3,4] rfl ?_;(conv=>whnf);refine ⟨?_⟩
  refine CW.region ?_
  refine RW.k XK 23 1 rfl ?_
  (conv=>whnf);refine ⟨rfl,?_⟩
  refine RW.v rfl (V.inc rfl rfl rfl hii hl0) ?_
  refine RW.k XK 23 1 rfl ?_
  (conv=>whnf);refine ⟨rfl,?_⟩
  refine RW.nil ?_
  exact ⟨i + 1, by omega, by omega, rfl, Le.c rfl <| Le.c (congrArg (fun l => D.w (sl _ Session.c l) X1) (take_set hei)) <| Le.c rfl <| Le.e⟩
 ·skip
  have hii : a.length ≤ i := by have := h2; simp at this; first | exact this | omega | (simp; done) | (simp; omega)
  have hdi : a.drop i = [] := List.drop_eq_nil_of_le hii
  refine CW.exit ?_
  refine CW.keep 23 [3] rfl ?_;(conv=>whnf);refine ⟨?_⟩
  refine CW.seq ?_
  refine CW.region ?_
  refine RW.k XK 23 2 rfl ?_
  (conv=>whnf);refine ⟨rfl,?_⟩
  refine RW.pullS 2 3 (by decide) rfl rfl ?_
  refine RW.nil ?_
  refine CW.keep 23 [2] rfl ?_;(conv=>whnf);refine ⟨?_⟩
  refine CW.ret ?_
  exact Post.one (RV.w rfl (by rw [List.take_of_length_le hii, show a.length - i = 0 from by omega]; simp)) (AOs.r AOs.e)
set_option maxHeartbeats 4000000 in
theorem laws_toItem_fn (a : Item) (hs : okToItem a) : Eng.Fn E.P 156 [.agg ((Item.c a).map .r)] (.one (.agg ((Item.c a).map .w))) [.agg ((Item.c a).map .r)] := by
 refine Eng.Fn.intro (E := E) (rvs := [.cell 2 172]) Tryz.func156 rfl rfl rfl (by simp [outSlots, moved, rvSlot, sl]) ?_
 intro B g bo
 refine CW.keep 14 [0] rfl ?_;(conv=>whnf);refine ⟨?_⟩
 refine CW.seq ?_
 refine CW.region ?_
 refine RW.k XK 14 1 rfl ?_
 (conv=>whnf);intro b1;(conv=>whnf);refine ⟨rfl,?_⟩
 refine RW.freezeB (ts := (Item.c a)) 1 rfl (DRd.r (DRd.r (DRd.r DRd.e))) ?_
 refine RW.k XK 14 1 rfl ?_
 (conv=>whnf);intro b2;(conv=>whnf);refine ⟨rfl,?_⟩
 refine RW.nil ?_
 refine CW.keep 14 [1,2] rfl ?_;(conv=>whnf);refine ⟨?_⟩
 refine CW.k XK 14 5 [2] rfl ?_
 (conv=>whnf);intro b3;(conv=>whnf);refine ⟨rfl,?_⟩
 refine CW.ret ?_
 exact Post.one (RV.c (f := fun e => (Item.c e).map .w) (e' := a) rfl rfl rfl rfl (DT.v (DT.v (DT.v DT.e))) (by simp_all)) (AOs.a rfl AOs.e)
set_option maxHeartbeats 4000000 in
theorem laws_toItemS_fn (a : List Item) (hm : a.length ≤ 1048576) (hs : ∀ x ∈ a, okToItem x) : Eng.Fn E.P 86 [.one (.r (sl 3 Item.c a))] (.one (.one (.w (sl 3 Item.c a)))) [.one (.r (sl 3 Item.c a))] := by
 refine Eng.Fn.intro (E := E) (rvs := [.tmp 2]) Tryz.func86 rfl rfl rfl (by simp [outSlots, moved, rvSlot, sl]) ?_
 intro B g bo
 refine CW.bound (x := .tmp 0) (n := a.length) (AsT.r) (fun hl0 => ?_)
 refine CW.keep 23 [0] rfl ?_;(conv=>whnf);refine ⟨?_⟩
 refine CW.k XK 23 1 [0] rfl ?_
 (conv=>whnf);refine ⟨rfl,?_⟩
 refine CW.seq ?_
 refine CW.region ?_
 refine RW.k XK 23 2 rfl ?_
 (conv=>whnf);refine ⟨rfl,?_⟩
 refine RW.makeS (n := a.length) (c := Item.c) Item.z rfl rfl rfl rfl rfl rfl rfl rfl (ZT.v (ZT.v (ZT.v ZT.e))) (by show 40 * a.length ≤ 281474976710656; omega) (by simp only [maxLen]; omega) fun X1 => ?_
 refine RW.assignMove rfl rfl rfl (by decide) (Nat.le_of_ble_eq_true rfl) (Nat.le_of_ble_eq_true rfl) ?_
 refine RW.nil ?_
 refine CW.keep 23 [0,3] rfl ?_;(conv=>whnf);refine ⟨?_⟩
 refine CW.seq ?_
 refine CW.k XK 23 1 [0,3,4] rfl ?_
 (conv=>whnf);refine ⟨rfl,?_⟩
 refine CW.block ?_
 refine CW.loopI 23 (fun (i : Nat) => [(0, .r (sl 3 Item.c a)), (3, .w (sl 3 Item.c (a.take i ++ List.replicate (a.length - i) Item.z)) X1), (4, I (i : Int))]) (fun (i : Nat) => i ≤ a.length) (fun (i : Nat) => a.length - i) 0 rfl (Le.c rfl <| Le.c rfl <| Le.c rfl <| Le.e) (by omega) ?_
 rintro i hb
 refine CW.seq ?_
 refine CW.k XK 23 1 [0,3,4,11] rfl ?_
 (conv=>whnf);refine ⟨rfl,?_⟩
 refine CW.cond rfl (fun h2 => ?_) (fun h2 => ?_)
 ·skip
  have hii : i < a.length := by have := h2; simp at this; first | exact this | omega | (simp; done) | (simp; omega)
  obtain ⟨ei, hei⟩ : ∃ e, a[i]? = some e := ⟨_, List.getElem?_eq_getElem hii⟩
  have hdi := drop_get hei
  refine CW.skip ?_
  refine CW.keep 23 [0,3,4] rfl ?_;(conv=>whnf);refine ⟨?_⟩
  refine CW.seq ?_
  refine CW.block ?_
  refine CW.region ?_
  refine RW.k XK 23 4 rfl ?_
  (conv=>whnf);refine ⟨rfl,?_⟩
  refine RW.v rfl (V.indexS rfl rfl rfl rfl rfl rfl Item.len hei) ?_
  refine RW.k XK 23 1 rfl ?_
  (conv=>whnf);refine ⟨rfl,?_⟩
  refine RW.call rfl (laws_toItem_fn ei (hs ei (List.mem_of_getElem? hei))) rfl (.cons (.agg (.cons (.r .r) (.cons (.r .r) (.cons (.r .r) (.nil))))) (.nil)) fun g3 => ?_
  refine RW.v rfl (V.indexW rfl rfl rfl rfl rfl rfl rfl (by simp; omega)) ?_
  refine RW.storeS (v := ei) rfl rfl rfl rfl rfl rfl rfl (DW.v (DW.v (DW.v DW.e))) Item.len (by decide) (by simp; omega) rfl ?_
  refine RW.nil ?_
  refine CW.keep 23 [0,3,4] rfl ?_;(conv=>whnf);refine ⟨?_⟩
  refine CW.region ?_
  refine RW.k XK 23 1 rfl ?_
  (conv=>whnf);refine ⟨rfl,?_⟩
  refine RW.v rfl (V.inc rfl rfl rfl hii hl0) ?_
  refine RW.k XK 23 1 rfl ?_
  (conv=>whnf);refine ⟨rfl,?_⟩
  refine RW.nil ?_
  exact ⟨i + 1, by omega, by omega, rfl, Le.c rfl <| Le.c (congrArg (fun l => D.w (sl _ Item.c l) X1) (take_set hei)) <| Le.c rfl <| Le.e⟩
 ·skip
  have hii : a.length ≤ i := by have := h2; simp at this; first | exact this | omega | (simp; done) | (simp; omega)
  have hdi : a.drop i = [] := List.drop_eq_nil_of_le hii
  refine CW.exit ?_
  refine CW.keep 23 [3] rfl ?_;(conv=>whnf);refine ⟨?_⟩
  refine CW.seq ?_
  refine CW.region ?_
  refine RW.k XK 23 2 rfl ?_
  (conv=>whnf);refine ⟨rfl,?_⟩
  refine RW.pullS 2 3 (by decide) rfl rfl ?_
  refine RW.nil ?_
  refine CW.keep 23 [2] rfl ?_;(conv=>whnf);refine ⟨?_⟩
  refine CW.ret ?_
  exact Post.one (RV.w rfl (by rw [List.take_of_length_le hii, show a.length - i = 0 from by omega]; simp)) (AOs.r AOs.e)
set_option maxHeartbeats 4000000 in
theorem laws_toKeep_fn (a : Keep) (hs : okToKeep a) : Eng.Fn E.P 30 [.agg ((Keep.c a).map .r)] (.one (.agg ((Keep.c a).map .w))) [.agg ((Keep.c a).map .r)] := by
 refine Eng.Fn.intro (E := E) (rvs := [.cell 2 59]) Tryz.func30 rfl rfl rfl (by simp [outSlots, moved, rvSlot, sl]) ?_
 intro B g bo
 refine CW.keep 13 [0] rfl ?_;(conv=>whnf);refine ⟨?_⟩
 refine CW.seq ?_
 refine CW.region ?_
 refine RW.k XK 13 1 rfl ?_
 (conv=>whnf);intro b1;(conv=>whnf);refine ⟨rfl,?_⟩
 refine RW.freezeB (ts := (Keep.c a)) 1 rfl (DRd.r (DRd.r DRd.e)) ?_
 refine RW.k XK 13 1 rfl ?_
 (conv=>whnf);intro b2;(conv=>whnf);refine ⟨rfl,?_⟩
 refine RW.nil ?_
 refine CW.keep 13 [1,2] rfl ?_;(conv=>whnf);refine ⟨?_⟩
 refine CW.k XK 13 1 [1,2,3] rfl ?_
 (conv=>whnf);intro b3;(conv=>whnf);refine ⟨rfl,?_⟩
 refine CW.seq ?_
 refine CW.region ?_
 refine RW.k XK 13 2 rfl ?_
 (conv=>whnf);refine ⟨rfl,?_⟩
 refine RW.call rfl (laws_toSessionS_fn a.sessions hs.1.1 hs.1.2) rfl (.cons (.one (.r .r)) (.nil)) fun g4 => ?_
 refine RW.k XK 13 2 rfl ?_
 (conv=>whnf);refine ⟨rfl,?_⟩
 refine RW.keep 13 [1,2,3,6] rfl ?_;(conv=>whnf);refine ⟨?_⟩
 refine RW.pullT (k := 3) (l := 6) (j := 0) 3 6 0 rfl rfl rfl (by decide) rfl rfl rfl ?_
 refine RW.keep 13 [1,2,3] rfl ?_;(conv=>whnf);refine ⟨?_⟩
 refine RW.nil ?_
 refine CW.keep 13 [1,2,3] rfl ?_;(conv=>whnf);refine ⟨?_⟩
 refine CW.seq ?_
 refine CW.region ?_
 refine RW.k XK 13 2 rfl ?_
 (conv=>whnf);refine ⟨rfl,?_⟩
 refine RW.call rfl (laws_toItemS_fn a.items hs.2.1 hs.2.2) rfl (.cons (.one (.r .r)) (.nil)) fun g5 => ?_
 refine RW.k XK 13 2 rfl ?_
 (conv=>whnf);refine ⟨rfl,?_⟩
 refine RW.keep 13 [2,3,10] rfl ?_;(conv=>whnf);refine ⟨?_⟩
 refine RW.pullT (k := 3) (l := 10) (j := 1) 3 10 1 rfl rfl rfl (by decide) rfl rfl rfl ?_
 refine RW.keep 13 [2,3] rfl ?_;(conv=>whnf);refine ⟨?_⟩
 refine RW.nil ?_
 refine CW.keep 13 [2,3] rfl ?_;(conv=>whnf);refine ⟨?_⟩
 refine CW.seq ?_
 refine CW.region ?_
 refine RW.k XK 13 2 rfl ?_
 (conv=>whnf);refine ⟨rfl,?_⟩
 refine RW.keep 13 [2,3] rfl ?_;(conv=>whnf);refine ⟨?_⟩
 refine RW.pullO (k := 2) (l := 3) (j := 0) 2 3 0 rfl rfl rfl (by decide) rfl rfl rfl rfl ?_
 refine RW.keep 13 [2,3] rfl ?_;(conv=>whnf);refine ⟨?_⟩
 refine RW.pullO (k := 2) (l := 3) (j := 1) 2 3 1 rfl rfl rfl (by decide) rfl rfl rfl rfl ?_
 refine RW.keep 13 [2] rfl ?_;(conv=>whnf);refine ⟨?_⟩
 refine RW.nil ?_
 refine CW.keep 13 [2] rfl ?_;(conv=>whnf);refine ⟨?_⟩
 refine CW.ret ?_
 exact Post.one (RV.c (f := fun e => (Keep.c e).map .w) (e' := a) rfl rfl rfl rfl (DT.w (DT.w DT.e)) (by simp_all)) (AOs.a rfl AOs.e)
end Go.Proofs.YtmhnehgpmndiiaaGreatDoor.Y
