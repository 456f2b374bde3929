import Derived.Test.YtmhnehgpmndiiaaDoorWFormatDiskB
namespace Go.Proofs.YtmhnehgpmndiiaaDoor.Y
open Go Go.RowKit Go.Eng Go.Proofs
set_option maxRecDepth 10000
set_option maxHeartbeats 4000000 in
theorem impl_JournalName_fn (n : Int) (hn : n = 0) : Eng.Fn E.P 21 [.one (.r (.v (.int .i64 n)))] (.one (.one (.w (.v (.string jN))))) [.one (.r (.v (.int .i64 n)))] := by
 refine Eng.Fn.intro (E := E) (rvs := [.tmp 2]) Tryd.func21 rfl rfl rfl (by simp [outSlots, moved, rvSlot, sl]) ?_
 intro B g bo
 refine CW.keep 9 [0] rfl ?_;(conv=>whnf);refine ⟨?_⟩
 refine CW.k XK 9 1 [0] rfl ?_
 (conv=>whnf);refine ⟨rfl,?_⟩
 refine CW.seq ?_
 refine CW.seq ?_
 refine CW.region ?_
 refine RW.k XK 9 1 rfl ?_
 (conv=>whnf);refine ⟨rfl,?_⟩
 refine RW.call rfl (impl_within_fn n 0 999) rfl (.cons (.one (.r .r)) (.cons (.one (.r .r)) (.cons (.one (.r .r)) (.nil)))) fun g1 => ?_
 refine RW.k XK 9 1 rfl ?_
 (conv=>whnf);refine ⟨rfl,?_⟩
 refine RW.nil ?_
 refine CW.keep 9 [0,5] rfl ?_;(conv=>whnf);refine ⟨?_⟩
 refine CW.cond rfl (fun h2 => ?_) (fun h2 => ?_)
 ·skip
  exact absurd h2 (by rw [hn]; decide)
 ·skip
  refine CW.skip ?_
  refine CW.keep 9 [0] rfl ?_;(conv=>whnf);refine ⟨?_⟩
  refine CW.seq ?_
  refine CW.region ?_
  refine RW.k XK 9 1 rfl ?_
  (conv=>whnf);refine ⟨rfl,?_⟩
  refine RW.call rfl (impl_Decimal_fn n (by rw [hn]; exact (rfl : (Lit.int .i64 0).wf = true))) rfl (.cons (.one (.r .r)) (.nil)) fun g3 => ?_
  refine RW.v rfl (V.cat rfl rfl rfl (by rw [hn]; have h9 : (itoaB 0).size = 1 := itoa0_size; simp only [maxLen, h9]; decide)) ?_
  refine RW.k XK 9 1 rfl ?_
  (conv=>whnf);refine ⟨rfl,?_⟩
  refine RW.nil ?_
  refine CW.keep 9 [2] rfl ?_;(conv=>whnf);refine ⟨?_⟩
  refine CW.ret ?_
  exact Post.one (RV.s rfl (by rw [hn]; rfl)) (AOs.r AOs.e)
set_option maxHeartbeats 4000000 in
theorem spec_SnapName_fn (n : Int) (hn : n = 0) : Eng.Fn E.P 16 [.one (.r (.v (.int .i64 n)))] (.one (.one (.w (.v (.string sN))))) [.one (.r (.v (.int .i64 n)))] := by
 refine Eng.Fn.intro (E := E) (rvs := [.tmp 2]) Tryd.func16 rfl rfl rfl (by simp [outSlots, moved, rvSlot, sl]) ?_
 intro B g bo
 refine CW.keep 9 [0] rfl ?_;(conv=>whnf);refine ⟨?_⟩
 refine CW.k XK 9 1 [0] rfl ?_
 (conv=>whnf);refine ⟨rfl,?_⟩
 refine CW.seq ?_
 refine CW.seq ?_
 refine CW.region ?_
 refine RW.k XK 9 1 rfl ?_
 (conv=>whnf);refine ⟨rfl,?_⟩
 refine RW.call rfl (spec_l01In_fn n 0 1000000) rfl (.cons (.one (.r .r)) (.cons (.one (.r .r)) (.cons (.one (.r .r)) (.nil)))) fun g1 => ?_
 refine RW.k XK 9 1 rfl ?_
 (conv=>whnf);refine ⟨rfl,?_⟩
 refine RW.nil ?_
 refine CW.keep 9 [0,5] rfl ?_;(conv=>whnf);refine ⟨?_⟩
 refine CW.cond rfl (fun h2 => ?_) (fun h2 => ?_)
 ·skip
  exact absurd h2 (by rw [hn]; decide)
 ·skip
  refine CW.skip ?_
  refine CW.keep 9 [0] rfl ?_;(conv=>whnf);refine ⟨?_⟩
  refine CW.seq ?_
  refine CW.region ?_
  refine RW.k XK 9 1 rfl ?_
  (conv=>whnf);refine ⟨rfl,?_⟩
  refine RW.call rfl (spec_Decimal_fn n (by rw [hn]; decide)) rfl (.cons (.one (.r .r)) (.nil)) fun g3 => ?_
  refine RW.v rfl (V.cat rfl rfl rfl (by rw [hn]; have h9 : (itoaB 0).size = 1 := itoa0_size; simp only [maxLen, h9]; decide)) ?_
  refine RW.k XK 9 1 rfl ?_
  (conv=>whnf);refine ⟨rfl,?_⟩
  refine RW.nil ?_
  refine CW.keep 9 [2] rfl ?_;(conv=>whnf);refine ⟨?_⟩
  refine CW.ret ?_
  exact Post.one (RV.s rfl (by rw [hn]; rfl)) (AOs.r AOs.e)
set_option maxHeartbeats 4000000 in
theorem impl_SnapName_fn (n : Int) (hn : n = 0) : Eng.Fn E.P 22 [.one (.r (.v (.int .i64 n)))] (.one (.one (.w (.v (.string sN))))) [.one (.r (.v (.int .i64 n)))] := by
 refine Eng.Fn.intro (E := E) (rvs := [.tmp 2]) Tryd.func22 rfl rfl rfl (by simp [outSlots, moved, rvSlot, sl]) ?_
 intro B g bo
 refine CW.keep 9 [0] rfl ?_;(conv=>whnf);refine ⟨?_⟩
 refine CW.k XK 9 1 [0] rfl ?_
 (conv=>whnf);refine ⟨rfl,?_⟩
 refine CW.seq ?_
 refine CW.seq ?_
 refine CW.region ?_
 refine RW.k XK 9 1 rfl ?_
 (conv=>whnf);refine ⟨rfl,?_⟩
 refine RW.call rfl (impl_isIndex_fn n) rfl (.cons (.one (.r .r)) (.nil)) fun g1 => ?_
 refine RW.k XK 9 1 rfl ?_
 (conv=>whnf);refine ⟨rfl,?_⟩
 refine RW.nil ?_
 refine CW.keep 9 [0,5] rfl ?_;(conv=>whnf);refine ⟨?_⟩
 refine CW.cond rfl (fun h2 => ?_) (fun h2 => ?_)
 ·skip
  exact absurd h2 (by rw [hn]; decide)
 ·skip
  refine CW.skip ?_
  refine CW.keep 9 [0] rfl ?_;(conv=>whnf);refine ⟨?_⟩
  refine CW.seq ?_
  refine CW.region ?_
  refine RW.k XK 9 1 rfl ?_
  (conv=>whnf);refine ⟨rfl,?_⟩
  refine RW.call rfl (impl_Decimal_fn n (by rw [hn]; exact (rfl : (Lit.int .i64 0).wf = true))) rfl (.cons (.one (.r .r)) (.nil)) fun g3 => ?_
  refine RW.v rfl (V.cat rfl rfl rfl (by rw [hn]; have h9 : (itoaB 0).size = 1 := itoa0_size; simp only [maxLen, h9]; decide)) ?_
  refine RW.k XK 9 1 rfl ?_
  (conv=>whnf);refine ⟨rfl,?_⟩
  refine RW.nil ?_
  refine CW.keep 9 [2] rfl ?_;(conv=>whnf);refine ⟨?_⟩
  refine CW.ret ?_
  exact Post.one (RV.s rfl (by rw [hn]; rfl)) (AOs.r AOs.e)
set_option maxHeartbeats 4000000 in
theorem spec_FormatDisk_fn (a : List Int) (hm : a.length ≤ 1048576) : Eng.Fn E.P 4 [.one (.r (sl 1 cI a))] (.tup [.agg ((Disk.c (fdD a)).map .w), .one (.w (.v (.bool (confOk a))))]) [.one (.r (sl 1 cI a))] := by
 refine Eng.Fn.intro (E := E) (rvs := [.cell 2 25, .tmp 3]) Tryd.func4 rfl rfl rfl (by simp [outSlots, moved, rvSlot, sl]) ?_
 intro B g bo
 refine CW.bound (x := .tmp 0) (n := a.length) (AsT.r) (fun hl0 => ?_)
 refine CW.keep 35 [0] rfl ?_;(conv=>whnf);refine ⟨?_⟩
 refine CW.k XK 35 1 [0,2] rfl ?_
 (conv=>whnf);intro b1;(conv=>whnf);refine ⟨rfl,?_⟩
 refine CW.seq ?_
 refine CW.region ?_
 refine RW.k XK 35 1 rfl ?_
 (conv=>whnf);refine ⟨rfl,?_⟩
 refine RW.call rfl (spec_JournalText_fn (⟨0, 0, 0, (⟨0, 0, []⟩ : Log)⟩ : Journal) rfl) rfl (.cons (.agg (.cons (.r .r) (.cons (.r .r) (.cons (.r .r) (.cons (.r .r) (.cons (.r .r) (.cons (.r .nil) (.nil)))))))) (.nil)) fun g2 => ?_
 refine RW.k XK 35 5 rfl ?_
 (conv=>whnf);refine ⟨rfl,?_⟩
 refine RW.nil ?_
 refine CW.keep 35 [0,2,4] rfl ?_;(conv=>whnf);refine ⟨?_⟩
 refine CW.seq ?_
 refine CW.region ?_
 refine RW.k XK 35 1 rfl ?_
 (conv=>whnf);refine ⟨rfl,?_⟩
 refine RW.call rfl (spec_l19Empty_fn ) rfl (.nil) fun g3 => ?_
 refine RW.k XK 35 1 rfl ?_
 (conv=>whnf);refine ⟨rfl,?_⟩
 refine RW.call rfl (spec_SnapText_fn (⟨0, 0, a, kT⟩ : Snap) rfl rfl rfl hm) rfl (.cons (.agg (.cons (.r .r) (.cons (.r .r) (.cons (.r .r) (.cons (.r .r) (.nil)))))) (.nil)) fun g4 => ?_
 refine RW.k XK 35 5 rfl ?_
 (conv=>whnf);refine ⟨rfl,?_⟩
 refine RW.nil ?_
 refine CW.keep 35 [2,4,6,7] rfl ?_;(conv=>whnf);refine ⟨?_⟩
 refine CW.seq ?_
 refine CW.k XK 35 1 [2,4,6,21] rfl ?_
 (conv=>whnf);refine ⟨rfl,?_⟩
 refine CW.cond rfl (fun h5 => ?_) (fun h5 => ?_)
 ·skip
  have hno : confOk a = false := (snT_ok a).symm.trans (nT h5)
  refine CW.k XK 35 1 [2,3] rfl ?_
  (conv=>whnf);refine ⟨rfl,?_⟩
  refine CW.ret ?_
  exact Post.tup (by decide) (RVs.c (RV.c (f := fun e => (Disk.c e).map .w) (e' := (⟨[]⟩ : Disk)) rfl rfl rfl rfl (DT.n DT.e) (by rw [fd_no hno])) (RVs.c (RV.b rfl (by rw [hno])) RVs.e)) (AOs.r AOs.e)
 ·skip
  have hyes : confOk a = true := (snT_ok a).symm.trans (nF h5)
  refine CW.skip ?_
  refine CW.keep 35 [2,4,6] rfl ?_;(conv=>whnf);refine ⟨?_⟩
  refine CW.seq ?_
  refine CW.region ?_
  refine RW.call rfl (spec_JournalName_fn 0 rfl) rfl (.cons (.one (.r .r)) (.nil)) fun g6 => ?_
  refine RW.k XK 35 4 rfl ?_
  (conv=>whnf);refine ⟨rfl,?_⟩
  refine RW.call rfl (spec_SnapName_fn 0 rfl) rfl (.cons (.one (.r .r)) (.nil)) fun g7 => ?_
  refine RW.k XK 35 4 rfl ?_
  (conv=>whnf);refine ⟨rfl,?_⟩
  refine RW.buildG (c := File.c) (L := [(⟨jN, jT, (jT.size : Int)⟩ : File), (⟨sN, ((snT (⟨0, 0, a, kT⟩ : Snap).conf).1), (((snT (⟨0, 0, a, kT⟩ : Snap).conf).1).size : Int)⟩ : File)]) [.tmp 27, .tmp 32] [[S jN, S jT, I (jT.size : Int)], [S sN, S ((snT (⟨0, 0, a, kT⟩ : Snap).conf).1), I (((snT (⟨0, 0, a, kT⟩ : Snap).conf).1).size : Int)]] rfl rfl rfl rfl rfl rfl rfl ⟨(DW.v (DW.v (DW.v DW.e))), ⟨(DW.v (DW.v (DW.v DW.e))), trivial⟩⟩ rfl rfl File.len (by decide) (by decide) (by decide) fun X8 => ?_
  refine RW.k XK 35 2 rfl ?_
  (conv=>whnf);refine ⟨rfl,?_⟩
  refine RW.keep 35 [2,33] rfl ?_;(conv=>whnf);refine ⟨?_⟩
  refine RW.pullT (k := 2) (l := 33) (j := 0) 2 33 0 rfl rfl rfl (by decide) rfl rfl rfl ?_
  refine RW.keep 35 [2] rfl ?_;(conv=>whnf);refine ⟨?_⟩
  refine RW.k XK 35 1 rfl ?_
  (conv=>whnf);refine ⟨rfl,?_⟩
  refine RW.nil ?_
  refine CW.keep 35 [2,3] rfl ?_;(conv=>whnf);refine ⟨?_⟩
  refine CW.ret ?_
  exact Post.tup (by decide) (RVs.c (RV.c (f := fun e => (Disk.c e).map .w) (e' := (⟨([(⟨jN, jT, (jT.size : Int)⟩ : File), (⟨sN, ((snT (⟨0, 0, a, kT⟩ : Snap).conf).1), (((snT (⟨0, 0, a, kT⟩ : Snap).conf).1).size : Int)⟩ : File)] : List File)⟩ : Disk)) rfl rfl rfl rfl (DT.w DT.e) (by rw [fd_yes hyes])) (RVs.c (RV.b rfl (by rw [hyes])) RVs.e)) (AOs.r AOs.e)
set_option maxHeartbeats 4000000 in
theorem impl_FormatDisk_fn (a : List Int) (hm : a.length ≤ 1048576) : Eng.Fn E.P 6 [.one (.r (sl 1 cI a))] (.tup [.agg ((Disk.c (fdD a)).map .w), .one (.w (.v (.bool (confOk a))))]) [.one (.r (sl 1 cI a))] := by
 refine Eng.Fn.intro (E := E) (rvs := [.cell 2 25, .tmp 3]) Tryd.func6 rfl rfl rfl (by simp [outSlots, moved, rvSlot, sl]) ?_
 intro B g bo
 refine CW.bound (x := .tmp 0) (n := a.length) (AsT.r) (fun hl0 => ?_)
 refine CW.keep 44 [0] rfl ?_;(conv=>whnf);refine ⟨?_⟩
 refine CW.k XK 44 1 [0,2] rfl ?_
 (conv=>whnf);intro b1;(conv=>whnf);refine ⟨rfl,?_⟩
 refine CW.seq ?_
 refine CW.region ?_
 refine RW.k XK 44 1 rfl ?_
 (conv=>whnf);refine ⟨rfl,?_⟩
 refine RW.call rfl (impl_JournalText_fn (⟨0, 0, 0, (⟨0, 0, []⟩ : Log)⟩ : Journal) rfl) rfl (.cons (.agg (.cons (.r .r) (.cons (.r .r) (.cons (.r .r) (.cons (.r .r) (.cons (.r .r) (.cons (.r .nil) (.nil)))))))) (.nil)) fun g2 => ?_
 refine RW.k XK 44 5 rfl ?_
 (conv=>whnf);refine ⟨rfl,?_⟩
 refine RW.nil ?_
 refine CW.keep 44 [0,2,4] rfl ?_;(conv=>whnf);refine ⟨?_⟩
 refine CW.seq ?_
 refine CW.region ?_
 refine RW.call rfl (impl_KeepNew_fn ) rfl (.nil) fun g3 => ?_
 refine RW.callOwn rfl (impl_KeepText_fn keepNew rfl) rfl (.cons (.agg (.cons (.r (.ala (k := none) (i := 17) (j := 0) (sz := 3) (V := (g3 0 0)) rfl rfl rfl nofun)) (.cons (.r (.ala (k := none) (i := 17) (j := 1) (sz := 3) (V := (g3 0 1)) rfl rfl rfl nofun)) (.nil)))) (.nil)) rfl fun g4 => ?_
 refine RW.k XK 44 5 rfl ?_
 (conv=>whnf);refine ⟨rfl,?_⟩
 refine RW.nil ?_
 refine CW.keep 44 [0,2,4,6] rfl ?_;(conv=>whnf);refine ⟨?_⟩
 refine CW.seq ?_
 refine CW.region ?_
 refine RW.k XK 44 3 rfl ?_
 (conv=>whnf);refine ⟨rfl,?_⟩
 refine RW.call rfl (impl_SnapText_fn (⟨0, 0, a, kT⟩ : Snap) rfl rfl rfl hm) rfl (.cons (.agg (.cons (.r .r) (.cons (.r .r) (.cons (.r .r) (.cons (.r .r) (.nil)))))) (.nil)) fun g5 => ?_
 refine RW.k XK 44 5 rfl ?_
 (conv=>whnf);refine ⟨rfl,?_⟩
 refine RW.nil ?_
 refine CW.keep 44 [2,4,8,9] rfl ?_;(conv=>whnf);refine ⟨?_⟩
 refine CW.seq ?_
 refine CW.k XK 44 1 [2,4,8,29] rfl ?_
 (conv=>whnf);refine ⟨rfl,?_⟩
 refine CW.cond rfl (fun h6 => ?_) (fun h6 => ?_)
 ·skip
  have hno : confOk a = false := (snT_ok a).symm.trans (nT h6)
  refine CW.k XK 44 1 [2,3] rfl ?_
  (conv=>whnf);refine ⟨rfl,?_⟩
  refine CW.ret ?_
  exact Post.tup (by decide) (RVs.c (RV.c (f := fun e => (Disk.c e).map .w) (e' := (⟨[]⟩ : Disk)) rfl rfl rfl rfl (DT.n DT.e) (by rw [fd_no hno])) (RVs.c (RV.b rfl (by rw [hno])) RVs.e)) (AOs.r AOs.e)
 ·skip
  have hyes : confOk a = true := (snT_ok a).symm.trans (nF h6)
  refine CW.skip ?_
  refine CW.keep 44 [2,4,8] rfl ?_;(conv=>whnf);refine ⟨?_⟩
  refine CW.seq ?_
  refine CW.region ?_
  refine RW.call rfl (impl_JournalName_fn 0 rfl) rfl (.cons (.one (.r .r)) (.nil)) fun g7 => ?_
  refine RW.k XK 44 4 rfl ?_
  (conv=>whnf);refine ⟨rfl,?_⟩
  refine RW.call rfl (impl_SnapName_fn 0 rfl) rfl (.cons (.one (.r .r)) (.nil)) fun g8 => ?_
  refine RW.k XK 44 4 rfl ?_
  (conv=>whnf);refine ⟨rfl,?_⟩
  refine RW.buildG (c := File.c) (L := [(⟨jN, jT, (jT.size : Int)⟩ : File), (⟨sN, ((snT (⟨0, 0, a, kT⟩ : Snap).conf).1), (((snT (⟨0, 0, a, kT⟩ : Snap).conf).1).size : Int)⟩ : File)]) [.tmp 35, .tmp 40] [[S jN, S jT, I (jT.size : Int)], [S sN, S ((snT (⟨0, 0, a, kT⟩ : Snap).conf).1), I (((snT (⟨0, 0, a, kT⟩ : Snap).conf).1).size : Int)]] rfl rfl rfl rfl rfl rfl rfl ⟨(DW.v (DW.v (DW.v DW.e))), ⟨(DW.v (DW.v (DW.v DW.e))), trivial⟩⟩ rfl rfl File.len (by decide) (by decide) (by decide) fun X9 => ?_
  refine RW.assignMove rfl rfl rfl (by decide) (Nat.le_of_ble_eq_true rfl) (Nat.le_of_ble_eq_true rfl) ?_
  refine RW.nil ?_
  refine CW.keep 44 [2,10] rfl ?_;(conv=>whnf);refine ⟨?_⟩
  refine CW.seq ?_
  refine CW.region ?_
  refine RW.k XK 44 3 rfl ?_
  (conv=>whnf);refine ⟨rfl,?_⟩
  refine RW.keep 44 [2,10] rfl ?_;(conv=>whnf);refine ⟨?_⟩
  refine RW.pullT (k := 2) (l := 10) (j := 0) 2 10 0 rfl rfl rfl (by decide) rfl rfl rfl ?_
  refine RW.keep 44 [2] rfl ?_;(conv=>whnf);refine ⟨?_⟩
  refine RW.k XK 44 1 rfl ?_
  (conv=>whnf);refine ⟨rfl,?_⟩
  refine RW.nil ?_
  refine CW.keep 44 [2,3] rfl ?_;(conv=>whnf);refine ⟨?_⟩
  refine CW.ret ?_
  exact Post.tup (by decide) (RVs.c (RV.c (f := fun e => (Disk.c e).map .w) (e' := (⟨([(⟨jN, jT, (jT.size : Int)⟩ : File), (⟨sN, ((snT (⟨0, 0, a, kT⟩ : Snap).conf).1), (((snT (⟨0, 0, a, kT⟩ : Snap).conf).1).size : Int)⟩ : File)] : List File)⟩ : Disk)) rfl rfl rfl rfl (DT.w DT.e) (by rw [fd_yes hyes])) (RVs.c (RV.b rfl (by rw [hyes])) RVs.e)) (AOs.r AOs.e)
set_option maxHeartbeats 4000000 in
theorem laws_toIntS_fn (a : List Int) (hm : a.length ≤ 1048576) : Eng.Fn E.P 5 [.one (.r (sl 1 cI a))] (.one (.one (.w (sl 1 cI a)))) [.one (.r (sl 1 cI a))] := by
 refine Eng.Fn.intro (E := E) (rvs := [.tmp 2]) Tryd.func5 rfl rfl rfl (by simp [outSlots, moved, rvSlot, sl]) ?_
 intro B g bo
 refine CW.bound (x := .tmp 0) (n := a.length) (AsT.r) (fun hl0 => ?_)
 refine CW.keep 22 [0] rfl ?_;(conv=>whnf);refine ⟨?_⟩
 refine CW.k XK 22 1 [0] rfl ?_
 (conv=>whnf);refine ⟨rfl,?_⟩
 refine CW.seq ?_
 refine CW.region ?_
 refine RW.k XK 22 2 rfl ?_
 (conv=>whnf);refine ⟨rfl,?_⟩
 refine RW.makeS (n := a.length) (c := cI) 0 rfl rfl rfl rfl rfl rfl rfl rfl (ZT.v ZT.e) (by show 8 * a.length ≤ 281474976710656; omega) (by simp only [maxLen]; omega) fun X1 => ?_
 refine RW.assignMove rfl rfl rfl (by decide) (Nat.le_of_ble_eq_true rfl) (Nat.le_of_ble_eq_true rfl) ?_
 refine RW.nil ?_
 refine CW.keep 22 [0,3] rfl ?_;(conv=>whnf);refine ⟨?_⟩
 refine CW.seq ?_
 refine CW.k XK 22 1 [0,3,4] rfl ?_
 (conv=>whnf);refine ⟨rfl,?_⟩
 refine CW.block ?_
 refine CW.loopI 22 (fun (i : Nat) => [(0, .r (sl 1 cI a)), (3, .w (sl 1 cI (a.take i ++ List.replicate (a.length - i) 0)) X1), (4, I (i : Int))]) (fun (i : Nat) => i ≤ a.length) (fun (i : Nat) => a.length - i) 0 rfl (Le.c rfl <| Le.c rfl <| Le.c rfl <| Le.e) (by omega) ?_
 rintro i hb
 refine CW.seq ?_
 refine CW.k XK 22 1 [0,3,4,11] rfl ?_
 (conv=>whnf);refine ⟨rfl,?_⟩
 refine CW.cond rfl (fun h2 => ?_) (fun h2 => ?_)
 ·skip
  have hii : i < a.length := by have := h2; simp at this; first | exact this | omega | (simp; done) | (simp; omega)
  obtain ⟨ei, hei⟩ : ∃ e, a[i]? = some e := ⟨_, List.getElem?_eq_getElem hii⟩
  have hdi := drop_get hei
  refine CW.skip ?_
  refine CW.keep 22 [0,3,4] rfl ?_;(conv=>whnf);refine ⟨?_⟩
  refine CW.seq ?_
  refine CW.block ?_
  refine CW.region ?_
  refine RW.k XK 22 4 rfl ?_
  (conv=>whnf);refine ⟨rfl,?_⟩
  refine RW.v rfl (V.indexS rfl rfl rfl rfl rfl rfl cI.len hei) ?_
  refine RW.k XK 22 1 rfl ?_
  (conv=>whnf);refine ⟨rfl,?_⟩
  refine RW.v rfl (V.indexW rfl rfl rfl rfl rfl rfl rfl (by simp; omega)) ?_
  refine RW.storeS1 (v := ei) (c := cI) (u := .v (.int .i64 ei)) rfl rfl rfl rfl rfl rfl rfl (.inl rfl) rfl cI.len (by simp; omega) rfl ?_
  refine RW.nil ?_
  refine CW.keep 22 [0,3,4] rfl ?_;(conv=>whnf);refine ⟨?_⟩
  refine CW.region ?_
  refine RW.k XK 22 1 rfl ?_
  (conv=>whnf);refine ⟨rfl,?_⟩
  refine RW.v rfl (V.inc rfl rfl rfl hii hl0) ?_
  refine RW.k XK 22 1 rfl ?_
  (conv=>whnf);refine ⟨rfl,?_⟩
  refine RW.nil ?_
  exact ⟨i + 1, by omega, by omega, rfl, Le.c rfl <| Le.c (congrArg (fun l => D.w (sl _ cI l) X1) (take_set hei)) <| Le.c rfl <| Le.e⟩
 ·skip
  have hii : a.length ≤ i := by have := h2; simp at this; first | exact this | omega | (simp; done) | (simp; omega)
  have hdi : a.drop i = [] := List.drop_eq_nil_of_le hii
  refine CW.exit ?_
  refine CW.keep 22 [3] rfl ?_;(conv=>whnf);refine ⟨?_⟩
  refine CW.seq ?_
  refine CW.region ?_
  refine RW.k XK 22 2 rfl ?_
  (conv=>whnf);refine ⟨rfl,?_⟩
  refine RW.pullS 2 3 (by decide) rfl rfl ?_
  refine RW.nil ?_
  refine CW.keep 22 [2] rfl ?_;(conv=>whnf);refine ⟨?_⟩
  refine CW.ret ?_
  exact Post.one (RV.w rfl (by rw [List.take_of_length_le hii, show a.length - i = 0 from by omega]; simp)) (AOs.r AOs.e)
set_option maxHeartbeats 4000000 in
theorem laws_eqFile_fn (a : File) (b : File) : Eng.Fn E.P 52 [.agg ((File.c a).map .r), .agg ((File.c b).map .r)] (.one (.one (.w (.v (.bool (eqFile a b)))))) [.agg ((File.c a).map .r), .agg ((File.c b).map .r)] := by
 refine Eng.Fn.intro (E := E) (rvs := [.tmp 4]) Tryd.func52 rfl rfl rfl (by simp [outSlots, moved, rvSlot, sl]) ?_
 intro B g bo
 refine CW.keep 20 [0,1] rfl ?_;(conv=>whnf);refine ⟨?_⟩
 refine CW.seq ?_
 refine CW.region ?_
 refine RW.k XK 20 1 rfl ?_
 (conv=>whnf);intro b1;(conv=>whnf);refine ⟨rfl,?_⟩
 refine RW.freezeB (ts := (File.c a)) 2 rfl (DRd.r (DRd.r (DRd.r DRd.e))) ?_
 refine RW.k XK 20 1 rfl ?_
 (conv=>whnf);intro b2;(conv=>whnf);refine ⟨rfl,?_⟩
 refine RW.freezeB (ts := (File.c b)) 3 rfl (DRd.r (DRd.r (DRd.r DRd.e))) ?_
 refine RW.k XK 20 1 rfl ?_
 (conv=>whnf);refine ⟨rfl,?_⟩
 refine RW.nil ?_
 refine CW.keep 20 [2,3] rfl ?_;(conv=>whnf);refine ⟨?_⟩
 refine CW.seq ?_
 refine CW.k XK 20 1 [2,3,9] rfl ?_
 (conv=>whnf);refine ⟨rfl,?_⟩
 refine CW.cond rfl (fun h3 => ?_) (fun h3 => ?_)
 ·skip
  refine CW.k XK 20 1 [4] rfl ?_
  (conv=>whnf);refine ⟨rfl,?_⟩
  refine CW.ret ?_
  exact Post.one (RV.b rfl (by simp_all [eqFile])) (AOs.a rfl (AOs.a rfl AOs.e))
 ·skip
  refine CW.skip ?_
  refine CW.keep 20 [2,3] rfl ?_;(conv=>whnf);refine ⟨?_⟩
  refine CW.seq ?_
  refine CW.k XK 20 1 [2,3,14] rfl ?_
  (conv=>whnf);refine ⟨rfl,?_⟩
  refine CW.cond rfl (fun h4 => ?_) (fun h4 => ?_)
  ·skip
   refine CW.k XK 20 1 [4] rfl ?_
   (conv=>whnf);refine ⟨rfl,?_⟩
   refine CW.ret ?_
   exact Post.one (RV.b rfl (by simp_all [eqFile])) (AOs.a rfl (AOs.a rfl AOs.e))
  ·skip
   refine CW.skip ?_
   refine CW.keep 20 [2,3] rfl ?_;(conv=>whnf);refine ⟨?_⟩
   refine CW.seq ?_
   refine CW.k XK 20 1 [19] rfl ?_
   (conv=>whnf);refine ⟨rfl,?_⟩
   refine CW.cond rfl (fun h5 => ?_) (fun h5 => ?_)
   ·skip
    refine CW.k XK 20 1 [4] rfl ?_
    (conv=>whnf);refine ⟨rfl,?_⟩
    refine CW.ret ?_
    exact Post.one (RV.b rfl (by simp_all [eqFile])) (AOs.a rfl (AOs.a rfl AOs.e))
   ·skip
    refine CW.skip ?_
    refine CW.keep 20 [] rfl ?_;(conv=>whnf);refine ⟨?_⟩
    refine CW.k XK 20 1 [4] rfl ?_
    (conv=>whnf);refine ⟨rfl,?_⟩
    refine CW.ret ?_
    exact Post.one (RV.b rfl (by simp_all [eqFile])) (AOs.a rfl (AOs.a rfl AOs.e))
set_option maxHeartbeats 4000000 in
theorem laws_eqFileS_fn (a : List File) (b : List File) : Eng.Fn E.P 23 [.one (.r (sl 3 File.c a)), .one (.r (sl 3 File.c b))] (.one (.one (.w (.v (.bool (eqS eqFile a b)))))) [.one (.r (sl 3 File.c a)), .one (.r (sl 3 File.c b))] := by
 refine Eng.Fn.intro (E := E) (rvs := [.tmp 4]) Tryd.func23 rfl rfl rfl (by simp [outSlots, moved, rvSlot, sl]) ?_
 intro B g bo
 refine CW.bound (x := .tmp 0) (n := a.length) (AsT.r) (fun hl0 => ?_)
 refine CW.bound (x := .tmp 1) (n := b.length) (AsT.r) (fun hl1 => ?_)
 refine CW.keep 27 [0,1] rfl ?_;(conv=>whnf);refine ⟨?_⟩
 refine CW.k XK 27 1 [0,1] rfl ?_
 (conv=>whnf);refine ⟨rfl,?_⟩
 refine CW.seq ?_
 refine CW.k XK 27 1 [0,1,10] rfl ?_
 (conv=>whnf);refine ⟨rfl,?_⟩
 refine CW.cond rfl (fun h1 => ?_) (fun h1 => ?_)
 ·skip
  refine CW.k XK 27 1 [4] rfl ?_
  (conv=>whnf);refine ⟨rfl,?_⟩
  refine CW.ret ?_
  exact Post.one (RV.b rfl (by first | (simp_all [eqS, eqI, eqStr, eqB]; done) | exact (eqS_ne (by simp_all; omega)).symm)) (AOs.r (AOs.r AOs.e))
 ·skip
  refine CW.skip ?_
  refine CW.keep 27 [0,1] rfl ?_;(conv=>whnf);refine ⟨?_⟩
  refine CW.seq ?_
  refine CW.k XK 27 1 [0,1,5] rfl ?_
  (conv=>whnf);refine ⟨rfl,?_⟩
  refine CW.block ?_
  refine CW.loopI 27 (fun (i : Nat) => [(0, .r (sl 3 File.c a)), (1, .r (sl 3 File.c b)), (5, I (i : Int))]) (fun (i : Nat) => i ≤ a.length ∧ eqS eqFile (a.drop i) (b.drop i) = eqS eqFile a b) (fun (i : Nat) => a.length - i) 0 rfl (Le.c rfl <| Le.c rfl <| Le.c rfl <| Le.e) ⟨by omega, by simp⟩ ?_
  rintro i ⟨hb, hr⟩
  have hlen : a.length = b.length := by simp at h1; omega
  refine CW.seq ?_
  refine CW.k XK 27 1 [0,1,5,14] rfl ?_
  (conv=>whnf);refine ⟨rfl,?_⟩
  refine CW.cond rfl (fun h2 => ?_) (fun h2 => ?_)
  ·skip
   have hii : i < a.length := by have := h2; simp at this; first | exact this | omega | (simp; done) | (simp; omega)
   obtain ⟨ei, hei⟩ : ∃ e, a[i]? = some e := ⟨_, List.getElem?_eq_getElem hii⟩
   have hdi := drop_get hei
   have hib : i < b.length := by omega
   obtain ⟨eb, heb⟩ : ∃ e, b[i]? = some e := ⟨_, List.getElem?_eq_getElem hib⟩
   have hdb := drop_get heb
   refine CW.skip ?_
   refine CW.keep 27 [0,1,5] rfl ?_;(conv=>whnf);refine ⟨?_⟩
   refine CW.seq ?_
   refine CW.block ?_
   refine CW.seq ?_
   refine CW.drawn (by kernel_rfl) ?_
   refine RQ.k XK 27 2 rfl ?_
   (conv=>whnf);refine ⟨rfl,?_⟩
   refine RQ.v rfl (V.indexS rfl rfl rfl rfl rfl rfl File.len hei) ?_
   refine RQ.k XK 27 3 rfl ?_
   (conv=>whnf);refine ⟨rfl,?_⟩
   refine RQ.v rfl (V.indexS rfl rfl rfl rfl rfl rfl File.len heb) ?_
   refine RQ.k XK 27 1 rfl ?_
   (conv=>whnf);refine ⟨rfl,?_⟩
   refine RQ.cons rfl (QOK.call (laws_eqFile_fn ei eb) rfl (.cons (.agg (.cons (.r .r) (.cons (.r .r) (.cons (.r .r) (.nil))))) (.cons (.agg (.cons (.r .r) (.cons (.r .r) (.cons (.r .r) (.nil))))) (.nil))) ?_)
   refine RQ.k XK 27 1 rfl ?_
   (conv=>whnf);refine ⟨rfl,?_⟩
   refine RQ.nil ?_
   refine CW.keep 27 [0,1,5,26] rfl ?_;(conv=>whnf);refine ⟨?_⟩
   refine CW.cond rfl (fun h3 => ?_) (fun h3 => ?_)
   ·skip
    refine CW.k XK 27 1 [4] rfl ?_
    (conv=>whnf);refine ⟨rfl,?_⟩
    refine CW.ret ?_
    exact Post.one (RV.b rfl (by first | (simp_all [eqS, eqI, eqStr, eqB]; done) | exact (eqS_ne (by simp_all; omega)).symm)) (AOs.r (AOs.r AOs.e))
   ·skip
    refine CW.skip ?_
    refine CW.keep 27 [0,1,5] rfl ?_;(conv=>whnf);refine ⟨?_⟩
    refine CW.region ?_
    refine RW.k XK 27 1 rfl ?_
    (conv=>whnf);refine ⟨rfl,?_⟩
    refine RW.v rfl (V.inc rfl rfl rfl hii hl0) ?_
    refine RW.k XK 27 1 rfl ?_
    (conv=>whnf);refine ⟨rfl,?_⟩
    refine RW.nil ?_
    exact ⟨i + 1, by omega, ⟨by omega, by simp_all [eqS, eqI, eqStr, eqB]⟩, rfl, Le.c rfl <| Le.c rfl <| Le.c rfl <| Le.e⟩
  ·skip
   have hii : a.length ≤ i := by have := h2; simp at this; first | exact this | omega | (simp; done) | (simp; omega)
   have hdi : a.drop i = [] := List.drop_eq_nil_of_le hii
   refine CW.exit ?_
   refine CW.keep 27 [] rfl ?_;(conv=>whnf);refine ⟨?_⟩
   refine CW.k XK 27 1 [4] rfl ?_
   (conv=>whnf);refine ⟨rfl,?_⟩
   refine CW.ret ?_
   exact Post.one (RV.b rfl (by rw [← hr, hdi, List.drop_eq_nil_of_le (show b.length ≤ i by omega)]; rfl)) (AOs.r (AOs.r AOs.e))
set_option maxHeartbeats 4000000 in
theorem laws_eqDisk_fn (a : Disk) (b : Disk) : Eng.Fn E.P 7 [.agg ((Disk.c a).map .r), .agg ((Disk.c b).map .r)] (.one (.one (.w (.v (.bool (eqDisk a b)))))) [.agg ((Disk.c a).map .r), .agg ((Disk.c b).map .r)] := by
 refine Eng.Fn.intro (E := E) (rvs := [.tmp 4]) Tryd.func7 rfl rfl rfl (by simp [outSlots, moved, rvSlot, sl]) ?_
 intro B g bo
 refine CW.keep 11 [0,1] rfl ?_;(conv=>whnf);refine ⟨?_⟩
 refine CW.seq ?_
 refine CW.region ?_
 refine RW.k XK 11 1 rfl ?_
 (conv=>whnf);intro b1;(conv=>whnf);refine ⟨rfl,?_⟩
 refine RW.freezeB (ts := (Disk.c a)) 2 rfl (DRd.r DRd.e) ?_
 refine RW.k XK 11 1 rfl ?_
 (conv=>whnf);intro b2;(conv=>whnf);refine ⟨rfl,?_⟩
 refine RW.freezeB (ts := (Disk.c b)) 3 rfl (DRd.r DRd.e) ?_
 refine RW.k XK 11 1 rfl ?_
 (conv=>whnf);refine ⟨rfl,?_⟩
 refine RW.nil ?_
 refine CW.keep 11 [2,3] rfl ?_;(conv=>whnf);refine ⟨?_⟩
 refine CW.seq ?_
 refine CW.seq ?_
 refine CW.region ?_
 refine RW.k XK 11 4 rfl ?_
 (conv=>whnf);refine ⟨rfl,?_⟩
 refine RW.call rfl (laws_eqFileS_fn a.files b.files) rfl (.cons (.one (.r .r)) (.cons (.one (.r .r)) (.nil))) fun g3 => ?_
 refine RW.k XK 11 1 rfl ?_
 (conv=>whnf);refine ⟨rfl,?_⟩
 refine RW.nil ?_
 refine CW.keep 11 [10] rfl ?_;(conv=>whnf);refine ⟨?_⟩
 refine CW.cond rfl (fun h4 => ?_) (fun h4 => ?_)
 ·skip
  refine CW.k XK 11 1 [4] rfl ?_
  (conv=>whnf);refine ⟨rfl,?_⟩
  refine CW.ret ?_
  exact Post.one (RV.b rfl (by simp_all [eqDisk])) (AOs.a rfl (AOs.a rfl AOs.e))
 ·skip
  refine CW.skip ?_
  refine CW.keep 11 [] rfl ?_;(conv=>whnf);refine ⟨?_⟩
  refine CW.k XK 11 1 [4] rfl ?_
  (conv=>whnf);refine ⟨rfl,?_⟩
  refine CW.ret ?_
  exact Post.one (RV.b rfl (by simp_all [eqDisk])) (AOs.a rfl (AOs.a rfl AOs.e))
set_option maxHeartbeats 4000000 in
theorem laws_eqIntS_fn (a : List Int) (b : List Int) : Eng.Fn E.P 8 [.one (.r (sl 1 cI a)), .one (.r (sl 1 cI b))] (.one (.one (.w (.v (.bool (eqS eqI a b)))))) [.one (.r (sl 1 cI a)), .one (.r (sl 1 cI b))] := by
 refine Eng.Fn.intro (E := E) (rvs := [.tmp 4]) Tryd.func8 rfl rfl rfl (by simp [outSlots, moved, rvSlot, sl]) ?_
 intro B g bo
 refine CW.bound (x := .tmp 0) (n := a.length) (AsT.r) (fun hl0 => ?_)
 refine CW.bound (x := .tmp 1) (n := b.length) (AsT.r) (fun hl1 => ?_)
 refine CW.keep 26 [0,1] rfl ?_;(conv=>whnf);refine ⟨?_⟩
 refine CW.k XK 26 1 [0,1] rfl ?_
 (conv=>whnf);refine ⟨rfl,?_⟩
 refine CW.seq ?_
 refine CW.k XK 26 1 [0,1,10] rfl ?_
 (conv=>whnf);refine ⟨rfl,?_⟩
 refine CW.cond rfl (fun h1 => ?_) (fun h1 => ?_)
 ·skip
  refine CW.k XK 26 1 [4] rfl ?_
  (conv=>whnf);refine ⟨rfl,?_⟩
  refine CW.ret ?_
  exact Post.one (RV.b rfl (by first | (simp_all [eqS, eqI, eqStr, eqB]; done) | exact (eqS_ne (by simp_all; omega)).symm)) (AOs.r (AOs.r AOs.e))
 ·skip
  refine CW.skip ?_
  refine CW.keep 26 [0,1] rfl ?_;(conv=>whnf);refine ⟨?_⟩
  refine CW.seq ?_
  refine CW.k XK 26 1 [0,1,5] rfl ?_
  (conv=>whnf);refine ⟨rfl,?_⟩
  refine CW.block ?_
  refine CW.loopI 26 (fun (i : Nat) => [(0, .r (sl 1 cI a)), (1, .r (sl 1 cI b)), (5, I (i : Int))]) (fun (i : Nat) => i ≤ a.length ∧ eqS eqI (a.drop i) (b.drop i) = eqS eqI a b) (fun (i : Nat) => a.length - i) 0 rfl (Le.c rfl <| Le.c rfl <| Le.c rfl <| Le.e) ⟨by omega, by simp⟩ ?_
  rintro i ⟨hb, hr⟩
  have hlen : a.length = b.length := by simp at h1; omega
  refine CW.seq ?_
  refine CW.k XK 26 1 [0,1,5,14] rfl ?_
  (conv=>whnf);refine ⟨rfl,?_⟩
  refine CW.cond rfl (fun h2 => ?_) (fun h2 => ?_)
  ·skip
   have hii : i < a.length := by have := h2; simp at this; first | exact this | omega | (simp; done) | (simp; omega)
   obtain ⟨ei, hei⟩ : ∃ e, a[i]? = some e := ⟨_, List.getElem?_eq_getElem hii⟩
   have hdi := drop_get hei
   have hib : i < b.length := by omega
   obtain ⟨eb, heb⟩ : ∃ e, b[i]? = some e := ⟨_, List.getElem?_eq_getElem hib⟩
   have hdb := drop_get heb
   refine CW.skip ?_
   refine CW.keep 26 [0,1,5] rfl ?_;(conv=>whnf);refine ⟨?_⟩
   refine CW.seq ?_
   refine CW.block ?_
   refine CW.seq ?_
   refine CW.drawn (by kernel_rfl) ?_
   refine RQ.k XK 26 2 rfl ?_
   (conv=>whnf);refine ⟨rfl,?_⟩
   refine RQ.v rfl (V.indexS rfl rfl rfl rfl rfl rfl cI.len hei) ?_
   refine RQ.k XK 26 3 rfl ?_
   (conv=>whnf);refine ⟨rfl,?_⟩
   refine RQ.v rfl (V.indexS rfl rfl rfl rfl rfl rfl cI.len heb) ?_
   refine RQ.k XK 26 2 rfl ?_
   (conv=>whnf);refine ⟨rfl,?_⟩
   refine RQ.nil ?_
   refine CW.keep 26 [0,1,5,25] rfl ?_;(conv=>whnf);refine ⟨?_⟩
   refine CW.cond rfl (fun h3 => ?_) (fun h3 => ?_)
   ·skip
    refine CW.k XK 26 1 [4] rfl ?_
    (conv=>whnf);refine ⟨rfl,?_⟩
    refine CW.ret ?_
    exact Post.one (RV.b rfl (by first | (simp_all [eqS, eqI, eqStr, eqB]; done) | exact (eqS_ne (by simp_all; omega)).symm)) (AOs.r (AOs.r AOs.e))
   ·skip
    refine CW.skip ?_
    refine CW.keep 26 [0,1,5] rfl ?_;(conv=>whnf);refine ⟨?_⟩
    refine CW.region ?_
    refine RW.k XK 26 1 rfl ?_
    (conv=>whnf);refine ⟨rfl,?_⟩
    refine RW.v rfl (V.inc rfl rfl rfl hii hl0) ?_
    refine RW.k XK 26 1 rfl ?_
    (conv=>whnf);refine ⟨rfl,?_⟩
    refine RW.nil ?_
    exact ⟨i + 1, by omega, ⟨by omega, by simp_all [eqS, eqI, eqStr, eqB]⟩, rfl, Le.c rfl <| Le.c rfl <| Le.c rfl <| Le.e⟩
  ·skip
   have hii : a.length ≤ i := by have := h2; simp at this; first | exact this | omega | (simp; done) | (simp; omega)
   have hdi : a.drop i = [] := List.drop_eq_nil_of_le hii
   refine CW.exit ?_
   refine CW.keep 26 [] rfl ?_;(conv=>whnf);refine ⟨?_⟩
   refine CW.k XK 26 1 [4] rfl ?_
   (conv=>whnf);refine ⟨rfl,?_⟩
   refine CW.ret ?_
   exact Post.one (RV.b rfl (by rw [← hr, hdi, List.drop_eq_nil_of_le (show b.length ≤ i by omega)]; rfl)) (AOs.r (AOs.r AOs.e))
set_option maxHeartbeats 4000000 in
theorem laws_markText_fn (k : Int) (hk : k ≤ 9223372036854775807) : Eng.Fn E.P 53 [.one (.r (.v (.int .i64 k)))] (.one (.one (.w (.v (.string (mtext k)))))) [.one (.r (.v (.int .i64 k)))] := by
 refine Eng.Fn.intro (E := E) (rvs := [.tmp 2]) Tryd.func53 rfl rfl rfl (by simp [outSlots, moved, rvSlot, sl]) ?_
 intro B g bo
 refine CW.keep 20 [0] rfl ?_;(conv=>whnf);refine ⟨?_⟩
 refine CW.k XK 20 1 [0] rfl ?_
 (conv=>whnf);refine ⟨rfl,?_⟩
 refine CW.seq ?_
 refine CW.k XK 20 1 [0,5] rfl ?_
 (conv=>whnf);refine ⟨rfl,?_⟩
 refine CW.cond rfl (fun h1 => ?_) (fun h1 => ?_)
 ·skip
  refine CW.k XK 20 1 [2] rfl ?_
  (conv=>whnf);refine ⟨rfl,?_⟩
  refine CW.ret ?_
  exact Post.one (RV.s rfl (by simp_all [mtext])) (AOs.r AOs.e)
 ·skip
  refine CW.skip ?_
  refine CW.keep 20 [0] rfl ?_;(conv=>whnf);refine ⟨?_⟩
  refine CW.k XK 20 1 [0,3] rfl ?_
  (conv=>whnf);refine ⟨rfl,?_⟩
  refine CW.seq ?_
  refine CW.block ?_
  refine CW.loopI 20 (fun (zz : Int × ByteArray) => match zz with | (n, out) => [(0, I n), (3, S out)]) (fun (zz : Int × ByteArray) => match zz with | (n, out) => 0 ≤ n ∧ out.size ≤ 60 ∧ n * 10 ^ out.size ≤ 9223372036854775807 ∧ dgs n.toNat out = dgs k.toNat ⟨#[]⟩) (fun (zz : Int × ByteArray) => match zz with | (n, out) => n.toNat) (_, _) rfl (Le.c rfl <| Le.c rfl <| Le.e) ⟨by simp at h1; omega, by decide, by show k * 10 ^ 0 ≤ _; omega, rfl⟩ ?_
  rintro ⟨n, out⟩ ⟨h0, hs, hp, hr⟩
  refine CW.seq ?_
  refine CW.k XK 20 1 [0,3,7] rfl ?_
  (conv=>whnf);refine ⟨rfl,?_⟩
  refine CW.cond rfl (fun h2 => ?_) (fun h2 => ?_)
  ·skip
   refine CW.skip ?_
   refine CW.keep 20 [0,3] rfl ?_;(conv=>whnf);refine ⟨?_⟩
   refine CW.block ?_
   refine CW.seq ?_
   refine CW.region ?_
   refine RW.k XK 20 4 rfl ?_
   (conv=>whnf);refine ⟨rfl,?_⟩
   refine RW.build1c (c := cU) (v := (IntKind.u8.wrap (IntKind.i64.wrap (48 + (Int.tmod n 10))))) (u := .v (.int .u8 (IntKind.u8.wrap (IntKind.i64.wrap (48 + (Int.tmod n 10)))))) rfl rfl rfl rfl rfl rfl (.inl rfl) rfl rfl fun X3 => ?_
   refine RW.v rfl (V.bytesStr (l := [(IntKind.u8.wrap (IntKind.i64.wrap (48 + (Int.tmod n 10))))]) rfl rfl rfl (by kernel_rfl) (by kernel_rfl) (.al (k := none) (i := 12) (sz := 1) (V := X3) rfl rfl nofun)) ?_
   refine RW.k XK 20 1 rfl ?_
   (conv=>whnf);refine ⟨rfl,?_⟩
   refine RW.v rfl (V.cat rfl rfl rfl (by simp only [bytesOf_one, maxLen]; first | omega | (show 1 + out.size ≤ _; omega))) ?_
   refine RW.k XK 20 1 rfl ?_
   (conv=>whnf);refine ⟨rfl,?_⟩
   refine RW.nil ?_
   refine CW.keep 20 [0,3] rfl ?_;(conv=>whnf);refine ⟨?_⟩
   refine CW.region ?_
   refine RW.k XK 20 3 rfl ?_
   (conv=>whnf);refine ⟨rfl,?_⟩
   refine RW.nil ?_
   exact ⟨(_, _), by have := mt_dec h0 hp h2; simp only []; omega, mt_step h0 hp hr h2, rfl, Le.c rfl <| Le.c rfl <| Le.e⟩
  ·skip
   refine CW.exit ?_
   refine CW.keep 20 [3] rfl ?_;(conv=>whnf);refine ⟨?_⟩
   refine CW.seq ?_
   refine CW.region ?_
   refine RW.k XK 20 1 rfl ?_
   (conv=>whnf);refine ⟨rfl,?_⟩
   refine RW.v rfl (V.cat rfl rfl rfl (by simp only [bytesOf_one, maxLen]; first | omega | (show 1 + out.size ≤ _; omega))) ?_
   refine RW.k XK 20 1 rfl ?_
   (conv=>whnf);refine ⟨rfl,?_⟩
   refine RW.nil ?_
   refine CW.keep 20 [2] rfl ?_;(conv=>whnf);refine ⟨?_⟩
   refine CW.ret ?_
   exact Post.one (RV.s rfl (by rw [mtext_dgs (by simpa using h1), ← hr, dgs, dif_pos (by simp at h2; omega)])) (AOs.r AOs.e)
set_option maxHeartbeats 4000000 in
theorem laws_markIntS_fn (a : List Int) (k : Int) (hk : k ≤ 9223372036854775807) : Eng.Fn E.P 9 [.one (.w (sl 1 cI a)), .one (.r (.v (.int .i64 k)))] (.one (.one (.w (.v (.int .i64 ((mkL mkI a k).2)))))) [.one (.w (sl 1 cI ((mkL mkI a k).1))), .one (.r (.v (.int .i64 k)))] := by
 refine Eng.Fn.intro (E := E) (rvs := [.tmp 4]) Tryd.func9 rfl rfl rfl (by simp [outSlots, moved, rvSlot, sl]) ?_
 intro B g bo
 refine CW.bound (x := .tmp 0) (n := a.length) (AsT.al rfl rfl nofun) (fun hl0 => ?_)
 refine CW.keep 19 [0,1] rfl ?_;(conv=>whnf);refine ⟨?_⟩
 have hl0b : a.length ≤ maxLen := hl0
 refine CW.k XK 19 1 [0,1] rfl ?_
 (conv=>whnf);refine ⟨rfl,?_⟩
 refine CW.seq ?_
 refine CW.k XK 19 1 [0,1,5] rfl ?_
 (conv=>whnf);refine ⟨rfl,?_⟩
 refine CW.block ?_
 refine CW.loopI 19 (fun (zz : Nat × Int × List Int) => match zz with | (i, l, b) => [(0, .w (sl 1 cI b) (g 0 0)), (1, I l), (5, I (i : Int))]) (fun (zz : Nat × Int × List Int) => match zz with | (i, l, b) => i ≤ b.length ∧ l ≤ 9223372036854775807 ∧ b.length = a.length ∧ b.drop i = a.drop i ∧ (b.take i ++ (mkL mkI (a.drop i) l).1, (mkL mkI (a.drop i) l).2) = mkL mkI a k) (fun (zz : Nat × Int × List Int) => match zz with | (i, l, b) => a.length - i) (0, _, _) rfl (Le.c rfl <| Le.c rfl <| Le.c rfl <| Le.e) ⟨by omega, hk, rfl, rfl, by simp⟩ ?_
 rintro ⟨i, l, b⟩ ⟨hb, hlk, hlen, hdr, hr⟩
 refine CW.seq ?_
 refine CW.k XK 19 1 [0,1,5,9] rfl ?_
 (conv=>whnf);refine ⟨rfl,?_⟩
 refine CW.cond rfl (fun h1 => ?_) (fun h1 => ?_)
 ·skip
  have hii : i < b.length := by have := h1; simp at this; first | exact this | omega | (simp; done) | (simp; omega)
  obtain ⟨ei, hei⟩ : ∃ e, b[i]? = some e := ⟨_, List.getElem?_eq_getElem hii⟩
  have hdi := drop_get hei
  refine CW.skip ?_
  refine CW.keep 19 [0,1,5] rfl ?_;(conv=>whnf);refine ⟨?_⟩
  refine CW.seq ?_
  refine CW.block ?_
  refine CW.seq ?_
  refine CW.region ?_
  refine RW.k XK 19 3 rfl ?_
  (conv=>whnf);refine ⟨rfl,?_⟩
  refine RW.v rfl (V.indexW rfl rfl rfl rfl rfl rfl rfl (by first | omega | (simp; omega))) ?_
  refine RW.storeS1 (v := l) (c := cI) (u := .v (.int .i64 l)) rfl rfl rfl rfl rfl rfl rfl (.inl rfl) rfl cI.len (by first | omega | (simp; omega)) rfl ?_
  refine RW.nil ?_
  refine CW.keep 19 [0,1,5] rfl ?_;(conv=>whnf);refine ⟨?_⟩
  refine CW.region ?_
  refine RW.k XK 19 3 rfl ?_
  (conv=>whnf);refine ⟨rfl,?_⟩
  refine RW.nil ?_
  refine CW.keep 19 [0,1,5] rfl ?_;(conv=>whnf);refine ⟨?_⟩
  refine CW.region ?_
  refine RW.k XK 19 1 rfl ?_
  (conv=>whnf);refine ⟨rfl,?_⟩
  refine RW.v rfl (V.inc rfl rfl rfl hii (by omega)) ?_
  refine RW.k XK 19 1 rfl ?_
  (conv=>whnf);refine ⟨rfl,?_⟩
  refine RW.nil ?_
  exact ⟨(i + 1, (IntKind.i64.wrap (l + 1)), (b.set i l)), by simp only []; omega, mk_step mkI (l) ((IntKind.i64.wrap (l + 1))) hei hlen hdr hr (by first | rfl | simp only [List.set_set]) rfl (by first | exact wrap_le _ | (apply mkL_le; assumption)), rfl, Le.c rfl <| Le.c rfl <| Le.c rfl <| Le.e⟩
 ·skip
  have hii : b.length ≤ i := by have := h1; simp at this; first | exact this | omega | (simp; done) | (simp; omega)
  have hdi : b.drop i = [] := List.drop_eq_nil_of_le hii
  refine CW.exit ?_
  refine CW.keep 19 [0,1] rfl ?_;(conv=>whnf);refine ⟨?_⟩
  refine CW.k XK 19 1 [0,4] rfl ?_
  (conv=>whnf);refine ⟨rfl,?_⟩
  refine CW.ret ?_
  exact Post.one (RV.i rfl (by rw [← hr, ← hdr, hdi]; rfl)) (AOs.w (by show _ = D.w _ _; exact congrArg (fun l => D.w (sl _ cI l) _) (by rw [← hr, ← hdr, hdi]; show b = b.take i ++ []; rw [List.append_nil, List.take_of_length_le hii])) (AOs.r AOs.e))
set_option maxHeartbeats 4000000 in
theorem laws_markFileS_fn (a : List File) (k : Int) (hk : k ≤ 9223372036854775807) : Eng.Fn E.P 24 [.one (.w (sl 3 File.c a)), .one (.r (.v (.int .i64 k)))] (.one (.one (.w (.v (.int .i64 ((mkL mkEFile a k).2)))))) [.one (.w (sl 3 File.c ((mkL mkEFile a k).1))), .one (.r (.v (.int .i64 k)))] := by
 refine Eng.Fn.intro (E := E) (rvs := [.tmp 4]) Tryd.func24 rfl rfl rfl (by simp [outSlots, moved, rvSlot, sl]) ?_
 intro B g bo
 refine CW.bound (x := .tmp 0) (n := a.length) (AsT.al rfl rfl nofun) (fun hl0 => ?_)
 refine CW.keep 36 [0,1] rfl ?_;(conv=>whnf);refine ⟨?_⟩
 have hl0b : a.length ≤ maxLen := hl0
 refine CW.k XK 36 1 [0,1] rfl ?_
 (conv=>whnf);refine ⟨rfl,?_⟩
 refine CW.seq ?_
 refine CW.k XK 36 1 [0,1,5] rfl ?_
 (conv=>whnf);refine ⟨rfl,?_⟩
 refine CW.block ?_
 refine CW.loopI 36 (fun (zz : Nat × Int × List File) => match zz with | (i, l, b) => [(0, .w (sl 3 File.c b) (g 0 0)), (1, I l), (5, I (i : Int))]) (fun (zz : Nat × Int × List File) => match zz with | (i, l, b) => i ≤ b.length ∧ l ≤ 9223372036854775807 ∧ b.length = a.length ∧ b.drop i = a.drop i ∧ (b.take i ++ (mkL mkEFile (a.drop i) l).1, (mkL mkEFile (a.drop i) l).2) = mkL mkEFile a k) (fun (zz : Nat × Int × List File) => match zz with | (i, l, b) => a.length - i) (0, _, _) rfl (Le.c rfl <| Le.c rfl <| Le.c rfl <| Le.e) ⟨by omega, hk, rfl, rfl, by simp⟩ ?_
 rintro ⟨i, l, b⟩ ⟨hb, hlk, hlen, hdr, hr⟩
 refine CW.seq ?_
 refine CW.k XK 36 1 [0,1,5,9] rfl ?_
 (conv=>whnf);refine ⟨rfl,?_⟩
 refine CW.cond rfl (fun h1 => ?_) (fun h1 => ?_)
 ·skip
  have hii : i < b.length := by have := h1; simp at this; first | exact this | omega | (simp; done) | (simp; omega)
  obtain ⟨ei, hei⟩ : ∃ e, b[i]? = some e := ⟨_, List.getElem?_eq_getElem hii⟩
  have hdi := drop_get hei
  refine CW.skip ?_
  refine CW.keep 36 [0,1,5] rfl ?_;(conv=>whnf);refine ⟨?_⟩
  refine CW.seq ?_
  refine CW.block ?_
  refine CW.seq ?_
  refine CW.region ?_
  refine RW.k XK 36 3 rfl ?_
  (conv=>whnf);refine ⟨rfl,?_⟩
  refine RW.call rfl (laws_markText_fn l (by repeat (first | exact hlk | exact wrap_le _ | apply mkL_le | apply mkI_le | apply mkS_le | apply mkB_le | apply mkEFile_le))) rfl (.cons (.one (.r .r)) (.nil)) fun g2 => ?_
  refine RW.v rfl (V.indexW rfl rfl rfl rfl rfl rfl rfl (by first | omega | (simp; omega))) ?_
  refine RW.k XK 36 1 rfl ?_
  (conv=>whnf);refine ⟨rfl,?_⟩
  refine RW.storeF (m := i) (off := 0) (v := ei) (v' := (⟨(mtext l), ei.text, ei.kept⟩ : File)) (u := .v (.string (mtext l))) (c := File.c) rfl rfl rfl rfl rfl rfl rfl (.inl rfl) File.len hei (by decide) rfl rfl ?_
  refine RW.nil ?_
  refine CW.keep 36 [0,1,5] rfl ?_;(conv=>whnf);refine ⟨?_⟩
  refine CW.k XK 36 1 [0,1,5] rfl ?_
  (conv=>whnf);refine ⟨rfl,?_⟩
  refine CW.seq ?_
  refine CW.region ?_
  refine RW.k XK 36 3 rfl ?_
  (conv=>whnf);refine ⟨rfl,?_⟩
  refine RW.call rfl (laws_markText_fn (IntKind.i64.wrap (l + 1)) (by repeat (first | exact hlk | exact wrap_le _ | apply mkL_le | apply mkI_le | apply mkS_le | apply mkB_le | apply mkEFile_le))) rfl (.cons (.one (.r .r)) (.nil)) fun g3 => ?_
  refine RW.v rfl (V.indexW rfl rfl rfl rfl rfl rfl rfl (by first | omega | (simp; omega))) ?_
  refine RW.k XK 36 1 rfl ?_
  (conv=>whnf);refine ⟨rfl,?_⟩
  refine RW.storeF (m := i) (off := 1) (v := (⟨(mtext l), ei.text, ei.kept⟩ : File)) (v' := (⟨(mtext l), (mtext (IntKind.i64.wrap (l + 1))), ei.kept⟩ : File)) (u := .v (.string (mtext (IntKind.i64.wrap (l + 1))))) (c := File.c) rfl rfl rfl rfl rfl rfl rfl (.inl rfl) File.len (List.getElem?_set_self (by first | omega | (simp; omega))) (by decide) rfl rfl ?_
  refine RW.nil ?_
  refine CW.keep 36 [0,1,5] rfl ?_;(conv=>whnf);refine ⟨?_⟩
  refine CW.k XK 36 1 [0,1,5] rfl ?_
  (conv=>whnf);refine ⟨rfl,?_⟩
  refine CW.seq ?_
  refine CW.region ?_
  refine RW.k XK 36 3 rfl ?_
  (conv=>whnf);refine ⟨rfl,?_⟩
  refine RW.v rfl (V.indexW rfl rfl rfl rfl rfl rfl rfl (by first | omega | (simp; omega))) ?_
  refine RW.k XK 36 1 rfl ?_
  (conv=>whnf);refine ⟨rfl,?_⟩
  refine RW.storeF (m := i) (off := 2) (v := (⟨(mtext l), (mtext (IntKind.i64.wrap (l + 1))), ei.kept⟩ : File)) (v' := (⟨(mtext l), (mtext (IntKind.i64.wrap (l + 1))), (IntKind.i64.wrap ((IntKind.i64.wrap (l + 1)) + 1))⟩ : File)) (u := .v (.int .i64 (IntKind.i64.wrap ((IntKind.i64.wrap (l + 1)) + 1)))) (c := File.c) rfl rfl rfl rfl rfl rfl rfl (.inl rfl) File.len (List.getElem?_set_self (by first | omega | (simp; omega))) (by decide) rfl rfl ?_
  refine RW.nil ?_
  refine CW.keep 36 [0,1,5] rfl ?_;(conv=>whnf);refine ⟨?_⟩
  refine CW.region ?_
  refine RW.k XK 36 3 rfl ?_
  (conv=>whnf);refine ⟨rfl,?_⟩
  refine RW.nil ?_
  refine CW.keep 36 [0,1,5] rfl ?_;(conv=>whnf);refine ⟨?_⟩
  refine CW.region ?_
  refine RW.k XK 36 1 rfl ?_
  (conv=>whnf);refine ⟨rfl,?_⟩
  refine RW.v rfl (V.inc rfl rfl rfl hii (by omega)) ?_
  refine RW.k XK 36 1 rfl ?_
  (conv=>whnf);refine ⟨rfl,?_⟩
  refine RW.nil ?_
  exact ⟨(i + 1, (IntKind.i64.wrap ((IntKind.i64.wrap ((IntKind.i64.wrap (l + 1)) + 1)) + 1)), (((b.set i (⟨(mtext l), ei.text, ei.kept⟩ : File)).set i (⟨(mtext l), (mtext (IntKind.i64.wrap (l + 1))), ei.kept⟩ : File)).set i (⟨(mtext l), (mtext (IntKind.i64.wrap (l + 1))), (IntKind.i64.wrap ((IntKind.i64.wrap (l + 1)) + 1))⟩ : File))), by simp only []; omega, mk_step mkEFile ((⟨(mtext l), (mtext (IntKind.i64.wrap (l + 1))), (IntKind.i64.wrap ((IntKind.i64.wrap (l + 1)) + 1))⟩ : File)) ((IntKind.i64.wrap ((IntKind.i64.wrap ((IntKind.i64.wrap (l + 1)) + 1)) + 1))) hei hlen hdr hr (by first | rfl | simp only [List.set_set]) rfl (by first | exact wrap_le _ | (apply mkL_le; assumption)), rfl, Le.c rfl <| Le.c rfl <| Le.c rfl <| Le.e⟩
 ·skip
  have hii : b.length ≤ i := by have := h1; simp at this; first | exact this | omega | (simp; done) | (simp; omega)
  have hdi : b.drop i = [] := List.drop_eq_nil_of_le hii
  refine CW.exit ?_
  refine CW.keep 36 [0,1] rfl ?_;(conv=>whnf);refine ⟨?_⟩
  refine CW.k XK 36 1 [0,4] rfl ?_
  (conv=>whnf);refine ⟨rfl,?_⟩
  refine CW.ret ?_
  exact Post.one (RV.i rfl (by rw [← hr, ← hdr, hdi]; rfl)) (AOs.w (by show _ = D.w _ _; exact congrArg (fun l => D.w (sl _ File.c l) _) (by rw [← hr, ← hdr, hdi]; show b = b.take i ++ []; rw [List.append_nil, List.take_of_length_le hii])) (AOs.r AOs.e))
set_option maxHeartbeats 4000000 in
theorem laws_markDisk_fn (a : Disk) (k : Int) (hk : k ≤ 9223372036854775807) : Eng.Fn E.P 10 [.agg ((Disk.c a).map .w), .one (.r (.v (.int .i64 k)))] (.one (.one (.w (.v (.int .i64 ((mkVDisk a k).2)))))) [.agg ((Disk.c ((mkVDisk a k).1)).map .w), .one (.r (.v (.int .i64 k)))] := by
 refine Eng.Fn.intro (E := E) (rvs := [.tmp 4]) Tryd.func10 rfl rfl rfl (by simp [outSlots, moved, rvSlot, sl]) ?_
 intro B g bo
 refine CW.keep 10 [0,1] rfl ?_;(conv=>whnf);refine ⟨?_⟩
 refine CW.k XK 10 1 [0,1,2] rfl ?_
 (conv=>whnf);intro b1;(conv=>whnf);refine ⟨rfl,?_⟩
 refine CW.seq ?_
 refine CW.region ?_
 refine RW.k XK 10 3 rfl ?_
 (conv=>whnf);refine ⟨rfl,?_⟩
 refine RW.callW (k := 0) (laws_markFileS_fn a.files k (by repeat (first | exact hk | apply mkL_le | apply mkI_le | apply mkS_le | apply mkB_le | apply mkEFile_le | apply mkVDisk_le))) rfl rfl (Nat.le_of_ble_eq_true rfl) (by decide) (.here (AsW.cellA rfl) (.cons (.one (.r .r)) (.nil))) rfl fun g2 q3 => ?_
 refine RW.k XK 10 1 rfl ?_
 (conv=>whnf);refine ⟨rfl,?_⟩
 refine RW.nil ?_
 refine CW.keep 10 [0,1] rfl ?_;(conv=>whnf);refine ⟨?_⟩
 refine CW.k XK 10 1 [0,4] rfl ?_
 (conv=>whnf);refine ⟨rfl,?_⟩
 refine CW.ret ?_
 exact Post.one (RV.i rfl (by rfl)) (AOs.ag rfl (AOc.w rfl AOc.e) (AOs.r AOs.e))
set_option maxHeartbeats 4000000 in
theorem laws_heldFileS_fn (a : List File) (k : Int) (hk : k ≤ 9223372036854775807) : Eng.Fn E.P 25 [.one (.r (sl 3 File.c a)), .one (.r (.v (.int .i64 k)))] (.one (.one (.w (.v (.int .i64 ((hdL hdEFile a k).getD (-1))))))) [.one (.r (sl 3 File.c a)), .one (.r (.v (.int .i64 k)))] := by
 refine Eng.Fn.intro (E := E) (rvs := [.tmp 4]) Tryd.func25 rfl rfl rfl (by simp [outSlots, moved, rvSlot, sl]) ?_
 intro B g bo
 refine CW.bound (x := .tmp 0) (n := a.length) (AsT.r) (fun hl0 => ?_)
 refine CW.keep 42 [0,1] rfl ?_;(conv=>whnf);refine ⟨?_⟩
 refine CW.k XK 42 1 [0,1] rfl ?_
 (conv=>whnf);refine ⟨rfl,?_⟩
 refine CW.seq ?_
 refine CW.k XK 42 1 [0,1,5] rfl ?_
 (conv=>whnf);refine ⟨rfl,?_⟩
 refine CW.block ?_
 refine CW.loopI 42 (fun (zz : Nat × Int) => match zz with | (i, l) => [(0, .r (sl 3 File.c a)), (1, I l), (5, I (i : Int))]) (fun (zz : Nat × Int) => match zz with | (i, l) => i ≤ a.length ∧ l ≤ 9223372036854775807 ∧ hdL hdEFile (a.drop i) l = hdL hdEFile a k) (fun (zz : Nat × Int) => match zz with | (i, l) => a.length - i) (0, _) rfl (Le.c rfl <| Le.c rfl <| Le.c rfl <| Le.e) ⟨by omega, hk, by simp⟩ ?_
 rintro ⟨i, l⟩ ⟨hb, hlk, hr⟩
 refine CW.seq ?_
 refine CW.k XK 42 1 [0,1,5,9] rfl ?_
 (conv=>whnf);refine ⟨rfl,?_⟩
 refine CW.cond rfl (fun h1 => ?_) (fun h1 => ?_)
 ·skip
  have hii : i < a.length := by have := h1; simp at this; first | exact this | omega | (simp; done) | (simp; omega)
  obtain ⟨ei, hei⟩ : ∃ e, a[i]? = some e := ⟨_, List.getElem?_eq_getElem hii⟩
  have hdi := drop_get hei
  refine CW.skip ?_
  refine CW.keep 42 [0,1,5] rfl ?_;(conv=>whnf);refine ⟨?_⟩
  refine CW.seq ?_
  refine CW.block ?_
  refine CW.seq ?_
  refine CW.anyJ2 (fc := []) (L0 := [(0, .r (sl 3 File.c a)), (1, I l), (5, I (i : Int))]) 42 (fun (go2_6_1 : (Nat → Nat → Value)) => [(19, Bo (!(ei.name.toList == (mtext l).toList)))]) (fun all hall f hf b0 hb K hK => ?_) ?_
  ·skip
   have ro2_1 : ∀ B, ∀ (go2_6_1 : Nat → Nat → Value), RA f E B all 0 (bt 8 255) ⟨42, [(19, Bo (!(ei.name.toList == (mtext l).toList)))] ++ b0⟩ K := by
    intro B go2_6_1
    exact RA.of2 hall hf hb (RA.finH (Tell.of rfl) (by kernel_rfl) (hK go2_6_1 _ rfl (Le.of rfl)))
   have ro2_0 : ∀ B, RA f E B all 2 (bt 8 63) ⟨42, [(16, S ei.name), (17, I l)] ++ b0⟩ K := by
    intro B
    refine RA.of2 hall hf hb (RA.stepH (L := [6]) (Tell.of rfl) (by kernel_rfl) (by simp) (RA.each ?_ (RA.each0)))
    ·skip
     refine RO.call rfl rfl (laws_markText_fn l (by first | exact hlk | exact wrap_le _)) rfl (.cons (.one (.r .r)) (.nil)) rfl fun go2_6_1 => ?_
     refine RA.fr XK 42 0 [7] (bt 8 255) rfl rfl (by kernel_rfl) (Tell.of rfl) ?_
     (conv=>whnf);refine ⟨rfl,fun B=>?_⟩
     exact RA.to2 hall hf hb (ro2_1 B go2_6_1) rfl rfl (by kernel_rfl)
   refine RA.start (by kernel_rfl) (by kernel_rfl) (m := 8) (ls' := (bt 8 0)) ?_
   refine RA.fr XK 42 6 [0,1] (bt 8 3) rfl rfl (by kernel_rfl) (Tell.of rfl) ?_
   (conv=>whnf);refine ⟨rfl,fun B=>?_⟩
   refine RA.first (i := 2) (ls' := (bt 8 7)) (Tell.of rfl) (by kernel_rfl) rfl rfl rfl (VF.p (V.indexS rfl rfl rfl rfl rfl rfl File.len hei)) ?_
   refine RA.fr XK 42 2 [3,4,5] (bt 8 63) rfl rfl (by kernel_rfl) (Tell.of rfl) ?_
   (conv=>whnf);refine ⟨rfl,fun B=>?_⟩
   exact RA.to2 hall hf hb (ro2_0 B) rfl rfl (by kernel_rfl)
  ·rintro go2_6_1
   refine CW.cond rfl (fun h3 => ?_) (fun h3 => ?_)
   ·skip
    refine CW.k XK 42 1 [4] rfl ?_
    (conv=>whnf);refine ⟨rfl,?_⟩
    refine CW.ret ?_
    exact Post.one (RV.i rfl (by rw [← hr, hdi]; clear hr; first | rfl | (simp_all [hdL, hdEFile, hdI, hdS, inc]; done) | grind [hdL, hdEFile, hdI, hdS, inc])) (AOs.r (AOs.r AOs.e))
   ·skip
    refine CW.skip ?_
    refine CW.keep 42 [0,1,5] rfl ?_;(conv=>whnf);refine ⟨?_⟩
    refine CW.k XK 42 1 [0,1,5] rfl ?_
    (conv=>whnf);refine ⟨rfl,?_⟩
    refine CW.seq ?_
    refine CW.anyJ2 (fc := []) (L0 := [(0, .r (sl 3 File.c a)), (1, I (IntKind.i64.wrap (l + 1))), (5, I (i : Int))]) 42 (fun (go4_6_1 : (Nat → Nat → Value)) => [(29, Bo (!(ei.text.toList == (mtext (IntKind.i64.wrap (l + 1))).toList)))]) (fun all hall f hf b0 hb K hK => ?_) ?_
    ·skip
     have ro4_1 : ∀ B, ∀ (go4_6_1 : Nat → Nat → Value), RA f E B all 0 (bt 8 255) ⟨42, [(29, Bo (!(ei.text.toList == (mtext (IntKind.i64.wrap (l + 1))).toList)))] ++ b0⟩ K := by
      intro B go4_6_1
      exact RA.of2 hall hf hb (RA.finH (Tell.of rfl) (by kernel_rfl) (hK go4_6_1 _ rfl (Le.of rfl)))
     have ro4_0 : ∀ B, RA f E B all 2 (bt 8 63) ⟨42, [(26, S ei.text), (27, I (IntKind.i64.wrap (l + 1)))] ++ b0⟩ K := by
      intro B
      refine RA.of2 hall hf hb (RA.stepH (L := [6]) (Tell.of rfl) (by kernel_rfl) (by simp) (RA.each ?_ (RA.each0)))
      ·skip
       refine RO.call rfl rfl (laws_markText_fn (IntKind.i64.wrap (l + 1)) (by first | exact hlk | exact wrap_le _)) rfl (.cons (.one (.r .r)) (.nil)) rfl fun go4_6_1 => ?_
       refine RA.fr XK 42 0 [7] (bt 8 255) rfl rfl (by kernel_rfl) (Tell.of rfl) ?_
       (conv=>whnf);refine ⟨rfl,fun B=>?_⟩
       exact RA.to2 hall hf hb (ro4_1 B go4_6_1) rfl rfl (by kernel_rfl)
     refine RA.start (by kernel_rfl) (by kernel_rfl) (m := 8) (ls' := (bt 8 0)) ?_
     refine RA.fr XK 42 6 [0,1] (bt 8 3) rfl rfl (by kernel_rfl) (Tell.of rfl) ?_
     (conv=>whnf);refine ⟨rfl,fun B=>?_⟩
     refine RA.first (i := 2) (ls' := (bt 8 7)) (Tell.of rfl) (by kernel_rfl) rfl rfl rfl (VF.p (V.indexS rfl rfl rfl rfl rfl rfl File.len hei)) ?_
     refine RA.fr XK 42 2 [3,4,5] (bt 8 63) rfl rfl (by kernel_rfl) (Tell.of rfl) ?_
     (conv=>whnf);refine ⟨rfl,fun B=>?_⟩
     exact RA.to2 hall hf hb (ro4_0 B) rfl rfl (by kernel_rfl)
    ·rintro go4_6_1
     refine CW.cond rfl (fun h5 => ?_) (fun h5 => ?_)
     ·skip
      refine CW.k XK 42 1 [4] rfl ?_
      (conv=>whnf);refine ⟨rfl,?_⟩
      refine CW.ret ?_
      exact Post.one (RV.i rfl (by rw [← hr, hdi]; clear hr; first | rfl | (simp_all [hdL, hdEFile, hdI, hdS, inc]; done) | grind [hdL, hdEFile, hdI, hdS, inc])) (AOs.r (AOs.r AOs.e))
     ·skip
      refine CW.skip ?_
      refine CW.keep 42 [0,1,5] rfl ?_;(conv=>whnf);refine ⟨?_⟩
      refine CW.k XK 42 1 [0,1,5] rfl ?_
      (conv=>whnf);refine ⟨rfl,?_⟩
      refine CW.seq ?_
      refine CW.seq ?_
      refine CW.region ?_
      refine RW.k XK 42 2 rfl ?_
      (conv=>whnf);refine ⟨rfl,?_⟩
      refine RW.v rfl (V.indexS rfl rfl rfl rfl rfl rfl File.len hei) ?_
      refine RW.k XK 42 4 rfl ?_
      (conv=>whnf);refine ⟨rfl,?_⟩
      refine RW.nil ?_
      refine CW.keep 42 [0,1,5,38] rfl ?_;(conv=>whnf);refine ⟨?_⟩
      refine CW.cond rfl (fun h6 => ?_) (fun h6 => ?_)
      ·skip
       refine CW.k XK 42 1 [4] rfl ?_
       (conv=>whnf);refine ⟨rfl,?_⟩
       refine CW.ret ?_
       exact Post.one (RV.i rfl (by rw [← hr, hdi]; clear hr; first | rfl | (simp_all [hdL, hdEFile, hdI, hdS, inc]; done) | grind [hdL, hdEFile, hdI, hdS, inc])) (AOs.r (AOs.r AOs.e))
      ·skip
       refine CW.skip ?_
       refine CW.keep 42 [0,1,5] rfl ?_;(conv=>whnf);refine ⟨?_⟩
       refine CW.region ?_
       refine RW.k XK 42 3 rfl ?_
       (conv=>whnf);refine ⟨rfl,?_⟩
       refine RW.nil ?_
       refine CW.keep 42 [0,1,5] rfl ?_;(conv=>whnf);refine ⟨?_⟩
       refine CW.region ?_
       refine RW.k XK 42 1 rfl ?_
       (conv=>whnf);refine ⟨rfl,?_⟩
       refine RW.v rfl (V.inc rfl rfl rfl hii hl0) ?_
       refine RW.k XK 42 1 rfl ?_
       (conv=>whnf);refine ⟨rfl,?_⟩
       refine RW.nil ?_
       exact ⟨(i + 1, _), by simp only []; omega, ⟨by omega, by first | exact wrap_le _ | omega, by rw [← hr, hdi]; clear hr; first | rfl | (simp_all [hdL, hdEFile, hdI, hdS, inc]; done) | grind [hdL, hdEFile, hdI, hdS, inc]⟩, rfl, Le.c rfl <| Le.c rfl <| Le.c rfl <| Le.e⟩
 ·skip
  have hii : a.length ≤ i := by have := h1; simp at this; first | exact this | omega | (simp; done) | (simp; omega)
  have hdi : a.drop i = [] := List.drop_eq_nil_of_le hii
  refine CW.exit ?_
  refine CW.keep 42 [1] rfl ?_;(conv=>whnf);refine ⟨?_⟩
  refine CW.k XK 42 1 [4] rfl ?_
  (conv=>whnf);refine ⟨rfl,?_⟩
  refine CW.ret ?_
  exact Post.one (RV.i rfl (by rw [← hr, hdi]; clear hr; first | rfl | (simp_all [hdL, hdEFile, hdI, hdS, inc]; done) | grind [hdL, hdEFile, hdI, hdS, inc])) (AOs.r (AOs.r AOs.e))
set_option maxHeartbeats 4000000 in
theorem laws_heldDisk_fn (a : Disk) (k : Int) (hk : k ≤ 9223372036854775807) : Eng.Fn E.P 11 [.agg ((Disk.c a).map .r), .one (.r (.v (.int .i64 k)))] (.one (.one (.w (.v (.int .i64 ((hdVDisk a k).getD (-1))))))) [.agg ((Disk.c a).map .r), .one (.r (.v (.int .i64 k)))] := by
 refine Eng.Fn.intro (E := E) (rvs := [.tmp 4]) Tryd.func11 rfl rfl rfl (by simp [outSlots, moved, rvSlot, sl]) ?_
 intro B g bo
 refine CW.keep 12 [0,1] rfl ?_;(conv=>whnf);refine ⟨?_⟩
 refine CW.seq ?_
 refine CW.region ?_
 refine RW.k XK 12 1 rfl ?_
 (conv=>whnf);intro b1;(conv=>whnf);refine ⟨rfl,?_⟩
 refine RW.freezeB (ts := (Disk.c a)) 2 rfl (DRd.r DRd.e) ?_
 refine RW.k XK 12 1 rfl ?_
 (conv=>whnf);refine ⟨rfl,?_⟩
 refine RW.nil ?_
 refine CW.keep 12 [1,2] rfl ?_;(conv=>whnf);refine ⟨?_⟩
 refine CW.seq ?_
 refine CW.region ?_
 refine RW.k XK 12 3 rfl ?_
 (conv=>whnf);refine ⟨rfl,?_⟩
 refine RW.call rfl (laws_heldFileS_fn a.files k (by repeat (first | exact hk | apply leD | apply hdL_le | apply hdN_le | exact hdI_le | exact hdS_le | exact hdB_le | exact hdEFile_le | exact hdVDisk_le))) rfl (.cons (.one (.r .r)) (.cons (.one (.r .r)) (.nil))) fun g2 => ?_
 refine RW.k XK 12 1 rfl ?_
 (conv=>whnf);refine ⟨rfl,?_⟩
 refine RW.nil ?_
 refine CW.keep 12 [1] rfl ?_;(conv=>whnf);refine ⟨?_⟩
 refine CW.seq ?_
 refine CW.k XK 12 1 [1,10] rfl ?_
 (conv=>whnf);refine ⟨rfl,?_⟩
 refine CW.cond rfl (fun h3 => ?_) (fun h3 => ?_)
 ·skip
  refine CW.k XK 12 1 [4] rfl ?_
  (conv=>whnf);refine ⟨rfl,?_⟩
  refine CW.ret ?_
  exact Post.one (RV.i rfl (by simp_all [hdVDisk, hdN_ok, hdN_bad])) (AOs.a rfl (AOs.r AOs.e))
 ·skip
  refine CW.skip ?_
  refine CW.keep 12 [1] rfl ?_;(conv=>whnf);refine ⟨?_⟩
  refine CW.k XK 12 1 [4] rfl ?_
  (conv=>whnf);refine ⟨rfl,?_⟩
  refine CW.ret ?_
  exact Post.one (RV.i rfl (by simp_all [hdVDisk, hdN_ok, hdN_bad])) (AOs.a rfl (AOs.r AOs.e))
set_option maxHeartbeats 4000000 in
theorem laws_FnExactFormatDisk_fn (a : List Int) : Eng.Fn E.P 3 [.one (.r (sl 1 cI a))] (.one (.one (.w (.v (.bool true))))) [.one (.r (sl 1 cI a))] := by
 refine Eng.Fn.intro (E := E) (rvs := [.tmp 2]) Tryd.func3 rfl rfl rfl (by simp [outSlots, moved, rvSlot, sl]) ?_
 intro B g bo
 refine CW.bound (x := .tmp 0) (n := a.length) (AsT.r) (fun hl0 => ?_)
 refine CW.keep 93 [0] rfl ?_;(conv=>whnf);refine ⟨?_⟩
 refine CW.k XK 93 1 [0] rfl ?_
 (conv=>whnf);refine ⟨rfl,?_⟩
 refine CW.seq ?_
 refine CW.k XK 93 1 [0,15] rfl ?_
 (conv=>whnf);refine ⟨rfl,?_⟩
 refine CW.cond rfl (fun h1 => ?_) (fun h1 => ?_)
 ·skip
  refine CW.k XK 93 1 [2] rfl ?_
  (conv=>whnf);refine ⟨rfl,?_⟩
  refine CW.ret ?_
  exact Post.one (RV.b rfl (by first | rfl | (exfalso; have p1 := mkIS_pos hlc; have p2 := (mkVDisk_facts a).1; have p3 := (mkVDisk_facts a).2; simp_all [eqDisk_refl, eqS_refl eqI_refl]; done) | (exfalso; have p1 := mkIS_pos hlc; have p2 := (mkVDisk_facts a).1; have p3 := (mkVDisk_facts a).2; simp_all [eqDisk_refl, eqS_refl eqI_refl]; omega))) (AOs.r AOs.e)
 ·skip
  have hlc : a.length ≤ 1048576 := by simp at h1; omega
  refine CW.skip ?_
  refine CW.keep 93 [0] rfl ?_;(conv=>whnf);refine ⟨?_⟩
  refine CW.seq ?_
  refine CW.region ?_
  refine RW.k XK 93 1 rfl ?_
  (conv=>whnf);refine ⟨rfl,?_⟩
  refine RW.call rfl (laws_toIntS_fn a hlc) rfl (.cons (.one (.r .r)) (.nil)) fun g2 => ?_
  refine RW.callOwn rfl (spec_FormatDisk_fn a hlc) rfl (.cons (.one (.r (.al (k := none) (i := 18) (sz := 1) (V := (g2 0 0)) rfl rfl nofun))) (.nil)) rfl fun g3 => ?_
  refine RW.k XK 93 5 rfl ?_
  (conv=>whnf);intro b4;(conv=>whnf);refine ⟨rfl,?_⟩
  refine RW.keep 93 [0,3,20,21] rfl ?_;(conv=>whnf);refine ⟨?_⟩
  refine RW.pullA (k := 3) (l := 20) (j := 0) 3 20 0 rfl rfl rfl (by decide) rfl rfl rfl rfl ?_
  refine RW.keep 93 [0,3,21] rfl ?_;(conv=>whnf);refine ⟨?_⟩
  refine RW.k XK 93 1 rfl ?_
  (conv=>whnf);refine ⟨rfl,?_⟩
  refine RW.nil ?_
  refine CW.keep 93 [0,3,4] rfl ?_;(conv=>whnf);refine ⟨?_⟩
  refine CW.seq ?_
  refine CW.region ?_
  refine RW.k XK 93 1 rfl ?_
  (conv=>whnf);refine ⟨rfl,?_⟩
  refine RW.call rfl (laws_toIntS_fn a hlc) rfl (.cons (.one (.r .r)) (.nil)) fun g5 => ?_
  refine RW.assignMove rfl rfl rfl (by decide) (Nat.le_of_ble_eq_true rfl) (Nat.le_of_ble_eq_true rfl) ?_
  refine RW.nil ?_
  refine CW.keep 93 [0,3,4,5] rfl ?_;(conv=>whnf);refine ⟨?_⟩
  refine CW.seq ?_
  refine CW.region ?_
  refine RW.k XK 93 1 rfl ?_
  (conv=>whnf);refine ⟨rfl,?_⟩
  refine RW.callOwn rfl (impl_FormatDisk_fn a hlc) rfl (.cons (.one (.r (.al (k := none) (i := 5) (sz := 1) (V := (g5 0 0)) rfl rfl nofun))) (.nil)) rfl fun g6 => ?_
  refine RW.k XK 93 5 rfl ?_
  (conv=>whnf);intro b7;(conv=>whnf);refine ⟨rfl,?_⟩
  refine RW.keep 93 [0,3,4,5,6,27,28] rfl ?_;(conv=>whnf);refine ⟨?_⟩
  refine RW.pullA (k := 6) (l := 27) (j := 0) 6 27 0 rfl rfl rfl (by decide) rfl rfl rfl rfl ?_
  refine RW.keep 93 [0,3,4,5,6,28] rfl ?_;(conv=>whnf);refine ⟨?_⟩
  refine RW.k XK 93 1 rfl ?_
  (conv=>whnf);refine ⟨rfl,?_⟩
  refine RW.nil ?_
  refine CW.keep 93 [0,3,4,5,6,7] rfl ?_;(conv=>whnf);refine ⟨?_⟩
  refine CW.seq ?_
  refine CW.seqJ 93 (fun (v8 : Bool) => [(0, .r (sl 1 cI a)), (3, .obj b4 [.w (sl 3 File.c ((fdD a).files)) (g3 0 0)]), (4, Bo (confOk a)), (5, .w (sl 1 cI a) (g5 0 0)), (6, .obj b7 [.w (sl 3 File.c ((fdD a).files)) (g6 0 0)]), (7, Bo (confOk a)), (37, Bo v8)]) (fun v8 => v8 = ((!(eqDisk (fdD a) (fdD a))) || (!((confOk a) == (confOk a))))) ?_ ?_
  ·refine CW.region ?_
   refine RW.k XK 93 2 rfl ?_
   (conv=>whnf);refine ⟨rfl,?_⟩
   refine RW.callOwn rfl (laws_eqDisk_fn (fdD a) (fdD a)) rfl (.cons (.agg (.cons (.r (.alo (k := none) (i := 6) (j := 0) (sz := 3) (V := (g6 0 0)) rfl rfl rfl nofun)) (.nil))) (.cons (.agg (.cons (.r (.alo (k := none) (i := 3) (j := 0) (sz := 3) (V := (g3 0 0)) rfl rfl rfl nofun)) (.nil))) (.nil))) rfl fun g9 => ?_
   refine RW.k XK 93 2 rfl ?_
   (conv=>whnf);refine ⟨rfl,?_⟩
   refine RW.gv rfl rfl rfl rfl (fun h10 => V.mv (d := Bo (confOk a)) rfl rfl) (fun h10 => ?_) (fun h10 => ?_)
   ·skip
    refine RW.k XK 93 1 rfl ?_
    (conv=>whnf);refine ⟨rfl,?_⟩
    refine RW.gt rfl rfl rfl rfl (V.eqBool rfl rfl rfl (by kernel_rfl) (.inr ⟨rfl, rfl⟩)) ?_
    refine RW.k XK 93 1 rfl ?_
    (conv=>whnf);refine ⟨rfl,?_⟩
    refine RW.nil ?_
    exact ⟨_, by first | rfl | (simp_all; done) | (simp_all; omega) | grind, rfl, Le.of rfl⟩
   ·skip
    refine RW.k XK 93 3 rfl ?_
    (conv=>whnf);refine ⟨rfl,?_⟩
    refine RW.nil ?_
    exact ⟨_, by first | rfl | (simp_all; done) | (simp_all; omega) | grind, rfl, Le.of rfl⟩
  ·intro v8 hv11
   refine CW.cond rfl (fun h12 => ?_) (fun h12 => ?_)
   ·skip
    refine CW.k XK 93 1 [2] rfl ?_
    (conv=>whnf);refine ⟨rfl,?_⟩
    refine CW.ret ?_
    exact Post.one (RV.b rfl (by first | rfl | (exfalso; have p1 := mkIS_pos hlc; have p2 := (mkVDisk_facts a).1; have p3 := (mkVDisk_facts a).2; simp_all [eqDisk_refl, eqS_refl eqI_refl]; done) | (exfalso; have p1 := mkIS_pos hlc; have p2 := (mkVDisk_facts a).1; have p3 := (mkVDisk_facts a).2; simp_all [eqDisk_refl, eqS_refl eqI_refl]; omega))) (AOs.r AOs.e)
   ·skip
    refine CW.skip ?_
    refine CW.keep 93 [0,3,4,5,6,7] rfl ?_;(conv=>whnf);refine ⟨?_⟩
    refine CW.seq ?_
    refine CW.seq ?_
    refine CW.region ?_
    refine RW.k XK 93 2 rfl ?_
    (conv=>whnf);refine ⟨rfl,?_⟩
    refine RW.call rfl (laws_toIntS_fn a hlc) rfl (.cons (.one (.r .r)) (.nil)) fun g13 => ?_
    refine RW.callOwn rfl (laws_eqIntS_fn a a) rfl (.cons (.one (.r (.al (k := none) (i := 5) (sz := 1) (V := (g5 0 0)) rfl rfl nofun))) (.cons (.one (.r (.al (k := none) (i := 40) (sz := 1) (V := (g13 0 0)) rfl rfl nofun))) (.nil))) rfl fun g14 => ?_
    refine RW.k XK 93 1 rfl ?_
    (conv=>whnf);refine ⟨rfl,?_⟩
    refine RW.nil ?_
    refine CW.keep 93 [0,3,4,5,6,7,42] rfl ?_;(conv=>whnf);refine ⟨?_⟩
    refine CW.cond rfl (fun h15 => ?_) (fun h15 => ?_)
    ·skip
     refine CW.k XK 93 1 [2] rfl ?_
     (conv=>whnf);refine ⟨rfl,?_⟩
     refine CW.ret ?_
     exact Post.one (RV.b rfl (by first | rfl | (exfalso; have p1 := mkIS_pos hlc; have p2 := (mkVDisk_facts a).1; have p3 := (mkVDisk_facts a).2; simp_all [eqDisk_refl, eqS_refl eqI_refl]; done) | (exfalso; have p1 := mkIS_pos hlc; have p2 := (mkVDisk_facts a).1; have p3 := (mkVDisk_facts a).2; simp_all [eqDisk_refl, eqS_refl eqI_refl]; omega))) (AOs.r AOs.e)
    ·skip
     refine CW.skip ?_
     refine CW.keep 93 [0,3,4,5,6,7] rfl ?_;(conv=>whnf);refine ⟨?_⟩
     refine CW.k XK 93 1 [0,3,4,5,6,7,8] rfl ?_
     (conv=>whnf);refine ⟨rfl,?_⟩
     refine CW.seq ?_
     refine CW.region ?_
     refine RW.k XK 93 2 rfl ?_
     (conv=>whnf);refine ⟨rfl,?_⟩
     refine RW.callW (k := 5) (laws_markIntS_fn a 1 (by decide)) rfl rfl (Nat.le_of_ble_eq_true rfl) (by decide) (.here (AsW.own) (.cons (.one (.r .r)) (.nil))) rfl fun g16 q17 => ?_
     refine RW.k XK 93 1 rfl ?_
     (conv=>whnf);refine ⟨rfl,?_⟩
     refine RW.nil ?_
     refine CW.keep 93 [0,3,4,6,7,8] rfl ?_;(conv=>whnf);refine ⟨?_⟩
     refine CW.seq ?_
     refine CW.seqJ 93 (fun (v18 : Bool) => [(0, .r (sl 1 cI a)), (3, .obj b4 [.w (sl 3 File.c ((fdD a).files)) (g3 0 0)]), (4, Bo (confOk a)), (6, .obj b7 [.w (sl 3 File.c ((fdD a).files)) (g6 0 0)]), (58, Bo v18)]) (fun v18 => v18 = ((decide (((mkL mkI a 1).2) < 0) || (!(eqDisk (fdD a) (fdD a)))) || (!((confOk a) == (confOk a))))) ?_ ?_
     ·refine CW.region ?_
      refine RW.k XK 93 3 rfl ?_
      (conv=>whnf);refine ⟨rfl,?_⟩
      refine RW.gv rfl rfl rfl rfl (fun h19 => V.loadAgg rfl rfl rfl rfl rfl (Nat.le_of_ble_eq_true rfl)) (fun h19 => ?_) (fun h19 => ?_)
      ·skip
       refine RW.k XK 93 1 rfl ?_
       (conv=>whnf);refine ⟨rfl,?_⟩
       refine RW.gcallOwn rfl rfl rfl rfl (laws_eqDisk_fn (fdD a) (fdD a)) rfl (.cons (.agg (.cons (.r (.alo (k := none) (i := 6) (j := 0) (sz := 3) (V := (g6 0 0)) rfl rfl rfl nofun)) (.nil))) (.cons (.agg (.cons (.r (.alo (k := none) (i := 3) (j := 0) (sz := 3) (V := (g3 0 0)) rfl rfl rfl nofun)) (.nil))) (.nil))) rfl fun g20 => ?_
       refine RW.k XK 93 3 rfl ?_
       (conv=>whnf);refine ⟨rfl,?_⟩
       refine RW.gv rfl rfl rfl rfl (fun h21 => V.mv (d := Bo (confOk a)) rfl rfl) (fun h21 => ?_) (fun h21 => ?_)
       ·skip
        refine RW.k XK 93 1 rfl ?_
        (conv=>whnf);refine ⟨rfl,?_⟩
        refine RW.gt rfl rfl rfl rfl (V.eqBool rfl rfl rfl (by kernel_rfl) (.inr ⟨rfl, rfl⟩)) ?_
        refine RW.k XK 93 1 rfl ?_
        (conv=>whnf);refine ⟨rfl,?_⟩
        refine RW.nil ?_
        exact ⟨_, by first | rfl | (simp_all; done) | (simp_all; omega) | grind, rfl, Le.of rfl⟩
       ·skip
        refine RW.k XK 93 3 rfl ?_
        (conv=>whnf);refine ⟨rfl,?_⟩
        refine RW.nil ?_
        exact ⟨_, by first | rfl | (simp_all; done) | (simp_all; omega) | grind, rfl, Le.of rfl⟩
      ·skip
       refine RW.k XK 93 9 rfl ?_
       (conv=>whnf);refine ⟨rfl,?_⟩
       refine RW.nil ?_
       exact ⟨_, by first | rfl | (simp_all; done) | (simp_all; omega) | grind, rfl, Le.of rfl⟩
     ·intro v18 hv22
      refine CW.cond rfl (fun h23 => ?_) (fun h23 => ?_)
      ·skip
       refine CW.k XK 93 1 [2] rfl ?_
       (conv=>whnf);refine ⟨rfl,?_⟩
       refine CW.ret ?_
       exact Post.one (RV.b rfl (by first | rfl | (exfalso; have p1 := mkIS_pos hlc; have p2 := (mkVDisk_facts a).1; have p3 := (mkVDisk_facts a).2; simp_all [eqDisk_refl, eqS_refl eqI_refl]; done) | (exfalso; have p1 := mkIS_pos hlc; have p2 := (mkVDisk_facts a).1; have p3 := (mkVDisk_facts a).2; simp_all [eqDisk_refl, eqS_refl eqI_refl]; omega))) (AOs.r AOs.e)
      ·skip
       refine CW.skip ?_
       refine CW.keep 93 [0,3,4,6] rfl ?_;(conv=>whnf);refine ⟨?_⟩
       refine CW.k XK 93 1 [0,3,4,6,9] rfl ?_
       (conv=>whnf);refine ⟨rfl,?_⟩
       refine CW.seq ?_
       refine CW.region ?_
       refine RW.k XK 93 2 rfl ?_
       (conv=>whnf);refine ⟨rfl,?_⟩
       refine RW.callW (k := 6) (laws_markDisk_fn (fdD a) 1 (by decide)) rfl rfl (Nat.le_of_ble_eq_true rfl) (by decide) (.here (AsW.aggO (Hand.w Hand.e)) (.cons (.one (.r .r)) (.nil))) rfl fun g24 q25 => ?_
       refine RW.k XK 93 1 rfl ?_
       (conv=>whnf);refine ⟨rfl,?_⟩
       refine RW.nil ?_
       refine CW.keep 93 [0,3,4,6,9] rfl ?_;(conv=>whnf);refine ⟨?_⟩
       refine CW.k XK 93 1 [0,3,4,6,9,10] rfl ?_
       (conv=>whnf);refine ⟨rfl,?_⟩
       refine CW.seq ?_
       refine CW.region ?_
       refine RW.k XK 93 2 rfl ?_
       (conv=>whnf);refine ⟨rfl,?_⟩
       refine RW.callOwn rfl (laws_heldDisk_fn ((mkVDisk (fdD a) 1).1) 1 (by decide)) rfl (.cons (.agg (.cons (.r (.alo (k := none) (i := 6) (j := 0) (sz := 3) (V := (g6 0 0)) rfl rfl rfl nofun)) (.nil))) (.cons (.one (.r .r)) (.nil))) rfl fun g26 => ?_
       refine RW.k XK 93 1 rfl ?_
       (conv=>whnf);refine ⟨rfl,?_⟩
       refine RW.nil ?_
       refine CW.keep 93 [0,3,4,6,9,10] rfl ?_;(conv=>whnf);refine ⟨?_⟩
       refine CW.seq ?_
       refine CW.k XK 93 1 [0,3,4,6,9,10,66] rfl ?_
       (conv=>whnf);refine ⟨rfl,?_⟩
       refine CW.cond rfl (fun h27 => ?_) (fun h27 => ?_)
       ·skip
        refine CW.k XK 93 1 [2] rfl ?_
        (conv=>whnf);refine ⟨rfl,?_⟩
        refine CW.ret ?_
        exact Post.one (RV.b rfl (by first | rfl | (exfalso; have p1 := mkIS_pos hlc; have p2 := (mkVDisk_facts a).1; have p3 := (mkVDisk_facts a).2; simp_all [eqDisk_refl, eqS_refl eqI_refl]; done) | (exfalso; have p1 := mkIS_pos hlc; have p2 := (mkVDisk_facts a).1; have p3 := (mkVDisk_facts a).2; simp_all [eqDisk_refl, eqS_refl eqI_refl]; omega))) (AOs.r AOs.e)
       ·skip
        refine CW.skip ?_
        refine CW.keep 93 [0,3,4,6,9,10] rfl ?_;(conv=>whnf);refine ⟨?_⟩
        refine CW.seq ?_
        refine CW.k XK 93 1 [0,3,4,6,9,69] rfl ?_
        (conv=>whnf);refine ⟨rfl,?_⟩
        refine CW.cond rfl (fun h28 => ?_) (fun h28 => ?_)
        ·skip
         refine CW.k XK 93 1 [2] rfl ?_
         (conv=>whnf);refine ⟨rfl,?_⟩
         refine CW.ret ?_
         exact Post.one (RV.b rfl (by first | rfl | (exfalso; have p1 := mkIS_pos hlc; have p2 := (mkVDisk_facts a).1; have p3 := (mkVDisk_facts a).2; simp_all [eqDisk_refl, eqS_refl eqI_refl]; done) | (exfalso; have p1 := mkIS_pos hlc; have p2 := (mkVDisk_facts a).1; have p3 := (mkVDisk_facts a).2; simp_all [eqDisk_refl, eqS_refl eqI_refl]; omega))) (AOs.r AOs.e)
        ·skip
         refine CW.skip ?_
         refine CW.keep 93 [0,3,4,6,9] rfl ?_;(conv=>whnf);refine ⟨?_⟩
         refine CW.seq ?_
         refine CW.region ?_
         refine RW.k XK 93 1 rfl ?_
         (conv=>whnf);refine ⟨rfl,?_⟩
         refine RW.call rfl (laws_toIntS_fn a hlc) rfl (.cons (.one (.r .r)) (.nil)) fun g29 => ?_
         refine RW.callOwn rfl (impl_FormatDisk_fn a hlc) rfl (.cons (.one (.r (.al (k := none) (i := 72) (sz := 1) (V := (g29 0 0)) rfl rfl nofun))) (.nil)) rfl fun g30 => ?_
         refine RW.k XK 93 5 rfl ?_
         (conv=>whnf);intro b31;(conv=>whnf);refine ⟨rfl,?_⟩
         refine RW.keep 93 [3,4,6,9,11,74,75] rfl ?_;(conv=>whnf);refine ⟨?_⟩
         refine RW.pullA (k := 11) (l := 74) (j := 0) 11 74 0 rfl rfl rfl (by decide) rfl rfl rfl rfl ?_
         refine RW.keep 93 [3,4,6,9,11,75] rfl ?_;(conv=>whnf);refine ⟨?_⟩
         refine RW.k XK 93 1 rfl ?_
         (conv=>whnf);refine ⟨rfl,?_⟩
         refine RW.nil ?_
         refine CW.keep 93 [3,4,6,9,11,12] rfl ?_;(conv=>whnf);refine ⟨?_⟩
         refine CW.seq ?_
         refine CW.seqJ 93 (fun (v32 : Bool) => [(6, .obj b7 [.w (sl 3 File.c (((mkVDisk (fdD a) 1).1).files)) (g6 0 0)]), (9, I ((mkVDisk (fdD a) 1).2)), (84, Bo v32)]) (fun v32 => v32 = ((!(eqDisk (fdD a) (fdD a))) || (!((confOk a) == (confOk a))))) ?_ ?_
         ·refine CW.region ?_
          refine RW.k XK 93 2 rfl ?_
          (conv=>whnf);refine ⟨rfl,?_⟩
          refine RW.callOwn rfl (laws_eqDisk_fn (fdD a) (fdD a)) rfl (.cons (.agg (.cons (.r (.alo (k := none) (i := 11) (j := 0) (sz := 3) (V := (g30 0 0)) rfl rfl rfl nofun)) (.nil))) (.cons (.agg (.cons (.r (.alo (k := none) (i := 3) (j := 0) (sz := 3) (V := (g3 0 0)) rfl rfl rfl nofun)) (.nil))) (.nil))) rfl fun g33 => ?_
          refine RW.k XK 93 2 rfl ?_
          (conv=>whnf);refine ⟨rfl,?_⟩
          refine RW.gv rfl rfl rfl rfl (fun h34 => V.mv (d := Bo (confOk a)) rfl rfl) (fun h34 => ?_) (fun h34 => ?_)
          ·skip
           refine RW.k XK 93 1 rfl ?_
           (conv=>whnf);refine ⟨rfl,?_⟩
           refine RW.gt rfl rfl rfl rfl (V.eqBool rfl rfl rfl (by kernel_rfl) (.inr ⟨rfl, rfl⟩)) ?_
           refine RW.k XK 93 1 rfl ?_
           (conv=>whnf);refine ⟨rfl,?_⟩
           refine RW.nil ?_
           exact ⟨_, by first | rfl | (simp_all; done) | (simp_all; omega) | grind, rfl, Le.of rfl⟩
          ·skip
           refine RW.k XK 93 3 rfl ?_
           (conv=>whnf);refine ⟨rfl,?_⟩
           refine RW.nil ?_
           exact ⟨_, by first | rfl | (simp_all; done) | (simp_all; omega) | grind, rfl, Le.of rfl⟩
         ·intro v32 hv35
          refine CW.cond rfl (fun h36 => ?_) (fun h36 => ?_)
          ·skip
           refine CW.k XK 93 1 [2] rfl ?_
           (conv=>whnf);refine ⟨rfl,?_⟩
           refine CW.ret ?_
           exact Post.one (RV.b rfl (by first | rfl | (exfalso; have p1 := mkIS_pos hlc; have p2 := (mkVDisk_facts a).1; have p3 := (mkVDisk_facts a).2; simp_all [eqDisk_refl, eqS_refl eqI_refl]; done) | (exfalso; have p1 := mkIS_pos hlc; have p2 := (mkVDisk_facts a).1; have p3 := (mkVDisk_facts a).2; simp_all [eqDisk_refl, eqS_refl eqI_refl]; omega))) (AOs.r AOs.e)
          ·skip
           refine CW.skip ?_
           refine CW.keep 93 [6,9] rfl ?_;(conv=>whnf);refine ⟨?_⟩
           refine CW.k XK 93 1 [6,9,10] rfl ?_
           (conv=>whnf);refine ⟨rfl,?_⟩
           refine CW.seq ?_
           refine CW.region ?_
           refine RW.k XK 93 2 rfl ?_
           (conv=>whnf);refine ⟨rfl,?_⟩
           refine RW.callOwn rfl (laws_heldDisk_fn ((mkVDisk (fdD a) 1).1) 1 (by decide)) rfl (.cons (.agg (.cons (.r (.alo (k := none) (i := 6) (j := 0) (sz := 3) (V := (g6 0 0)) rfl rfl rfl nofun)) (.nil))) (.cons (.one (.r .r)) (.nil))) rfl fun g37 => ?_
           refine RW.k XK 93 1 rfl ?_
           (conv=>whnf);refine ⟨rfl,?_⟩
           refine RW.nil ?_
           refine CW.keep 93 [9,10] rfl ?_;(conv=>whnf);refine ⟨?_⟩
           refine CW.seq ?_
           refine CW.k XK 93 1 [9,10,89] rfl ?_
           (conv=>whnf);refine ⟨rfl,?_⟩
           refine CW.cond rfl (fun h38 => ?_) (fun h38 => ?_)
           ·skip
            refine CW.k XK 93 1 [2] rfl ?_
            (conv=>whnf);refine ⟨rfl,?_⟩
            refine CW.ret ?_
            exact Post.one (RV.b rfl (by first | rfl | (exfalso; have p1 := mkIS_pos hlc; have p2 := (mkVDisk_facts a).1; have p3 := (mkVDisk_facts a).2; simp_all [eqDisk_refl, eqS_refl eqI_refl]; done) | (exfalso; have p1 := mkIS_pos hlc; have p2 := (mkVDisk_facts a).1; have p3 := (mkVDisk_facts a).2; simp_all [eqDisk_refl, eqS_refl eqI_refl]; omega))) (AOs.r AOs.e)
           ·skip
            refine CW.skip ?_
            refine CW.keep 93 [9,10] rfl ?_;(conv=>whnf);refine ⟨?_⟩
            refine CW.seq ?_
            refine CW.k XK 93 1 [92] rfl ?_
            (conv=>whnf);refine ⟨rfl,?_⟩
            refine CW.cond rfl (fun h39 => ?_) (fun h39 => ?_)
            ·skip
             refine CW.k XK 93 1 [2] rfl ?_
             (conv=>whnf);refine ⟨rfl,?_⟩
             refine CW.ret ?_
             exact Post.one (RV.b rfl (by first | rfl | (exfalso; have p1 := mkIS_pos hlc; have p2 := (mkVDisk_facts a).1; have p3 := (mkVDisk_facts a).2; simp_all [eqDisk_refl, eqS_refl eqI_refl]; done) | (exfalso; have p1 := mkIS_pos hlc; have p2 := (mkVDisk_facts a).1; have p3 := (mkVDisk_facts a).2; simp_all [eqDisk_refl, eqS_refl eqI_refl]; omega))) (AOs.r AOs.e)
            ·skip
             refine CW.skip ?_
             refine CW.keep 93 [] rfl ?_;(conv=>whnf);refine ⟨?_⟩
             refine CW.k XK 93 1 [2] rfl ?_
             (conv=>whnf);refine ⟨rfl,?_⟩
             refine CW.ret ?_
             exact Post.one (RV.b rfl (by first | rfl | (exfalso; have p1 := mkIS_pos hlc; have p2 := (mkVDisk_facts a).1; have p3 := (mkVDisk_facts a).2; simp_all [eqDisk_refl, eqS_refl eqI_refl]; done) | (exfalso; have p1 := mkIS_pos hlc; have p2 := (mkVDisk_facts a).1; have p3 := (mkVDisk_facts a).2; simp_all [eqDisk_refl, eqS_refl eqI_refl]; omega))) (AOs.r AOs.e)
end Go.Proofs.YtmhnehgpmndiiaaDoor.Y
